/- The walk of FnSpilled. -/
import Derived.Test.YtmfomflmbhognaaPlaces
import Derived.Test.YtmfomflmbhognaaCacheDr
import Derived.Test.YtmfomflmbhognaaCacheSi
import Derived.Test.YtmfomflmbhognaaCacheX
import Derived.Deep.RegionHeld3
import Derived.Deep.DrawnRows
namespace Go.Proofs.Ytmfomflmbhognaa
open Go.ChangeShapes Go.WideShapes Go.ChangeAt Go.RowKit
set_option linter.unusedVariables false
set_option linter.unusedSimpArgs false
attribute [local go_sem ↓] Go.wp_at_zero Go.wp_at_succ

theorem new_c (w : World) : Calls Try.prog 14 #[] w fun e w' => ∃ A c, e = .returned (.agg #[.slice A 4 c]) ∧ Below w.heap.size w w' :=
  (cacheNew_i w).mono fun e w' ⟨A, c, S, he, _, h1, h2, h3⟩ => ⟨A, c, by simpa using he, h3⟩
set_option maxRecDepth 100000 in
set_option maxHeartbeats 16000000 in
theorem law_spilled (A : Option Addr) (c : Nat) (bs : List Int) (w : World) (hr : Rd w w.heap.size A (bv bs)) (hbb : ∀ b ∈ bs, 0 ≤ b ∧ b ≤ 255) :
    Calls Try.prog 7 #[.slice A bs.length c] w fun e w' => e = .returned (.bool true) ∧ Below w.heap.size w w' := by
  by_cases hbig : (1048576 : Int) < bs.length
  · go_enter Try.func7, Try.ntmps7
    go_wp2_with (go_at_call 12; refine (big_any _ _ _ _).mono ?_; rintro e w1 ⟨rfl, rfl⟩)
    go_ret
    exact ⟨rfl, by (repeat' (first | (with_reducible exact Below.refl _ _) | (with_reducible refine bel_alloc ?_ ?_ _) | (with_reducible refine Below.setCell ?_ ?_ _) | (with_reducible refine below_drewN ?_ _) | (with_reducible refine Below.drew ?_) | (with_reducible exact Nat.le_refl _) | (with_reducible assumption) | omega | (simp only [World.size_alloc, World.size_setCell, World.size_drew]; omega) | (simp; omega) | (simp; done)))⟩
  · have hb : Bytes bs := ⟨by omega, hbb⟩
    go_enter Try.func7, Try.ntmps7
    go_wp2_with (go_at_call 12; refine (big_any _ _ _ _).mono ?_; rintro e w ⟨rfl, rfl⟩)
    refine (drawCache_any A c bs _ hb hr).mono ?_
    rintro e w1 ⟨A1, c1, xs, rfl, hok, hrc, hb1⟩
    have hz1 := hb1.size
    have hr1 := (hr.below hb1).alloc (.cells #[.slice A1 xs.length c1] 28)
    go_wp2_with fail
    refine (places_any _ A c bs _ hb hr1 (by simp; omega)).mono ?_
    rintro e w2 ⟨A2, c2, ps, rfl, hp, ho, hb2⟩
    obtain ⟨g, rfl, hg1, hg2, P, hP, hcell⟩ := places_at ho hp
    have q0 := hcell 0 (by omega)
    have q1 := hcell 1 (by omega)
    have hp0 := hP 0 (by omega)
    have hp1 := hP 1 (by omega)
    obtain ⟨p0, hp0e⟩ : ∃ p0, p0 = P 0 := ⟨_, rfl⟩
    obtain ⟨p1, hp1e⟩ : ∃ p1, p1 = P 1 := ⟨_, rfl⟩
    rw [← hp0e] at q0 hp0
    rw [← hp1e] at q1 hp1
    clear hp0e hp1e hcell hP ho hp
    have hz2 := hb2.size
    simp only [World.size_alloc] at hz2
    have k0 : w2.cell? ⟨w1.heap.size, 0, none⟩ = some (.slice A1 xs.length c1) := keep hb2 (by simp [go_sem])
    replace hrc := (hrc.alloc _).below hb2
    obtain ⟨κ, hκ, hm0⟩ : ∃ κ : Nat, κ < 4 ∧ p0.tmod 4 = κ := by
      rw [Int.tmod_eq_emod_of_nonneg hp0.1]
      exact ⟨(p0 % 4).toNat, by omega, by omega⟩
    obtain ⟨t, ht0, hm1⟩ : ∃ t, (0 ≤ t ∧ t ≤ 8) ∧ p1.tmod 9 = t := by
      rw [Int.tmod_eq_emod_of_nonneg hp1.1]
      exact ⟨p1 % 9, by omega, rfl⟩
    have hlq0 := lt_of_cell' q0
    have hbw2 : Below w.heap.size w w2 := by (repeat' (first | (with_reducible exact Below.refl _ _) | (with_reducible refine bel_alloc ?_ ?_ _) | (with_reducible refine Below.setCell ?_ ?_ _) | (with_reducible refine below_drewN ?_ _) | (with_reducible refine Below.drew ?_) | (with_reducible refine bel_step hb1 ?_ ?_) | (with_reducible refine bel_step hb2 ?_ ?_) | (with_reducible exact Nat.le_refl _) | (with_reducible assumption) | omega | (simp only [World.size_alloc, World.size_setCell, World.size_drew]; omega) | (simp; omega) | (simp; done)))
    -- the plain law
    have hh := has_of hok hκ
    have hlt := hasL_lt hh
    have hRows := cOk_Rows hok
    obtain ⟨q, hq⟩ : ∃ q, q = xs[κ] := ⟨_, rfl⟩
    have hq8 : q.length ≤ 8 := by rw [hq]; exact (cOk_rows hok).2 κ hlt
    obtain ⟨m, hm⟩ : ∃ m : Nat, min (1 + t) (q.length : Int) = m := ⟨(min (1 + t) (q.length : Int)).toNat, by omega⟩
    have HSP := Lib.hid (fun (A : Option Addr) (c : Nat) (W : World) (B : Nat) (h : Rd2 iv W B A xs) => cacheSpill_i_yes A c xs κ m (1 + t) q W h hRows hh hlt hq (by omega) hm)
    obtain ⟨ys, hys⟩ : ∃ ys, ys = xs.set κ (q.drop m) := ⟨_, rfl⟩
    obtain ⟨zs, hzs⟩ : ∃ zs, zs = q.take m := ⟨_, rfl⟩
    have hyl : ys.length = xs.length := by rw [hys, List.length_set]
    have hy4 : ys.length = 4 := by rw [hyl]; exact (cOk_rows hok).1
    have hky : κ < ys.length := by omega
    have HYK := Lib.hid (show ys[κ] = q.drop m by subst hys; rw [List.getElem_set_self])
    have HYOK := Lib.hid (show cOkB ys = true by rw [hys]; exact cOk_sub hok hlt (by rw [← hq]; exact List.drop_sublist _ _))
    have HZL := Lib.hid (show zs.length = m by rw [hzs, List.length_take]; omega)
    have HZQ := Lib.hid (show iv zs ++ iv (q.drop m) = iv q by rw [hzs]; exact (iv_take q m).symm)
    rw [← hys, ← hzs] at HSP
    have h4b : ((ys.length : Int) != 4) = false := by simp; omega
    have HRY := Lib.hid (cOk_Rows HYOK.out)
    obtain ⟨b, off, R, cr, hA1, -, hch, hrq⟩ := hrc.row hlt
    subst hA1
    rw [← hq] at hch hrq
    have hn8 : zs.length ≤ 8 := by have := HZL.out; omega
    have hm8 : m ≤ q.length := by omega
    have HMN := Lib.hid hm
    have hκ4 : (κ : Int) < (xs.length : Int) := by omega
    have hκy : (κ : Int) < (ys.length : Int) := by omega
    clear hm hys hzs hyl hy4 hq hok hr1 hr
    go_wp2_with fail
    refine (HSP.out _ _ _ _ hrc).mono ?_
    rintro e w3 ⟨A3, c3, A4, c4, S3, T3, rfl, hW3, hV3, hN3, hM3, hD3, hb3⟩
    replace k0 := keep hb3 k0
    replace hch := keep hb3 hch
    replace hrq := hrq.below hb3
    have lk0 := lt_of_cell' k0
    have lch := lt_of_cell' hch
    have hz3 := hb3.size
    clear q0 q1 hm0 hm1 hlq0
    go_wp2_with fail
    refine (cacheOk_i _ _ ys _ (hW3.alloc _).rd HRY.out _ HYOK.out).mono ?_
    rintro e w5 ⟨rfl, hb5⟩
    have j0 : w5.cell? ⟨w3.heap.size, 0, none⟩ = some (.slice A3 ys.length c3) := keep hb5 (by simp [go_sem])
    replace k0 := keep hb5 (cell_al k0 _)
    replace hch := keep hb5 (cell_al hch _)
    replace hrq := ((hrq.alloc _).below hb5).lt
    have hW5 := (hW3.alloc (.cells #[.slice A3 ys.length c3] 28)).below hb5
    have hV5 := ((hV3.alloc (.cells #[.slice A3 ys.length c3] 28)).below hb5).rd
    obtain ⟨b2, off2, R2, cr2, hA3, -, hxh, hrx⟩ := hW5.rd.row hky
    subst hA3
    have HL2 := Lib.hid (show ys[κ].length = q.length - m by rw [HYK.out, List.length_drop])
    rw [HYK.out] at hrx
    obtain ⟨n2, hn2⟩ : ∃ n2, n2 = ys[κ].length := ⟨_, rfl⟩
    rw [← hn2] at hxh
    have HN2 := Lib.hid (show n2 = q.length - m by rw [hn2, HL2.out])
    have lk0' := lt_of_cell' k0
    have lch' := lt_of_cell' hch
    have lj0 := lt_of_cell' j0
    have lxh := lt_of_cell' hxh
    have HQL : (iv zs).length = zs.length * 1 := by simp
    have HQL2 : (iv (q.drop m)).length = n2 * 1 := by rw [HN2.out]; simp
    replace HQL := Lib.hid HQL
    replace HQL2 := Lib.hid HQL2
    have hn28 : n2 ≤ 8 := by have := HN2.out; omega
    have hbw5 : Below w.heap.size w w5 := by (repeat' (first | (with_reducible exact Below.refl _ _) | (with_reducible refine bel_alloc ?_ ?_ _) | (with_reducible refine Below.setCell ?_ ?_ _) | (with_reducible refine below_drewN ?_ _) | (with_reducible refine Below.drew ?_) | (with_reducible refine bel_step hbw2 ?_ ?_) | (with_reducible refine bel_step hb3 ?_ ?_) | (with_reducible refine bel_step hb5 ?_ ?_) | (with_reducible exact Nat.le_refl _) | (with_reducible assumption) | omega | (simp only [World.size_alloc, World.size_setCell, World.size_drew]; omega) | (simp; omega) | (simp; done)))
    clear hW3 hV3 hN3 hM3 hD3 hb5 hb3 hb2 hb1 hW5 lk0 lch hn2
    obtain ⟨t0, ht, tz0, tz1, tz2⟩ := info_parts infoInt
    have hz5 := hV5.drew
    have X0 : w5.drew.cell? ⟨w1.heap.size, 0, none⟩ = some (.slice (some ⟨b, off, none⟩) xs.length c1) := k0
    have X1 : w5.drew.cell? ⟨b, off + κ, none⟩ = some (.slice R q.length cr) := hch
    have X2 : w5.drew.cell? ⟨w3.heap.size, 0, none⟩ = some (.slice (some ⟨b2, off2, none⟩) ys.length c3) := j0
    have X3 : w5.drew.cell? ⟨b2, off2 + κ, none⟩ = some (.slice R2 n2 cr2) := hxh
    go_wp2_with fail
    have hIF : (if (q.length : Int) < 1 + t then (q.length : Int) else 1 + t) = (zs.length : Int) := by
      have h1 := HMN.out
      have h2 := HZL.out
      split <;> omega
    have hfld : ∀ (A10 : Option Addr) (c10 : Nat) (w : World), (Instr.field 28 (.agg #[.slice A10 4 c10]) 0).run Try.prog w = .ok (.slice A10 4 c10) w := fun _ _ _ => by kernel_rfl
    have hzz : ((zs.length : Int) == (zs.length : Int)) = true := by simp
    all_goals
      go_region_held3 (fun w' => w'.cell? ⟨w1.heap.size, 0, none⟩ = some (.slice (some ⟨b, off, none⟩) xs.length c1) ∧ w'.cell? ⟨b, off + κ, none⟩ = some (.slice R q.length cr) ∧ w'.cell? ⟨w3.heap.size, 0, none⟩ = some (.slice (some ⟨b2, off2, none⟩) ys.length c3) ∧ w'.cell? ⟨b2, off2 + κ, none⟩ = some (.slice R2 n2 cr2))
        (first | exact ⟨X0, X1, X2, X3⟩ | exact ⟨cell_al X0 _, cell_al X1 _, cell_al X2 _, cell_al X3 _⟩ | exact ⟨Y0, Y1, Y2, Y3⟩ | exact ⟨Z0, Z1, Z2, Z3⟩ | exact ⟨V0, V1, V2, V3⟩ | exact ⟨U0, U1, U2, U3⟩ | fail)
        (first | (rw [if_pos (by rfl)]; refine wp_append_new (.tmp 52) (.tmp 53) _ (by rfl) 3 t0 (.int .i64 0) 1 8 Try.underlying24 ht tz0 tz1 tz2 (by rfl) (by omega) w5.heap.size (by rfl) (own_lit (by rfl)) A4 zs.length c4 (iv zs) (by rfl) HQL.out (Rd.alloc (w := w5.drew) hz5 _) (iv_one _) (by unfold maxLen; omega) (by omega) (by simp) ?_; intro A7 c7 w7 ho7 hS7 hA7; have hb7 : Below w5.drew.heap.size w5.drew w7 := bel_outS hS7 (fun b hb => by rw [hb]; exact Nat.le_refl _) ((Below.refl _ _).alloc (Nat.le_refl _) _) (Nat.le_refl _); have Y0 := keep hb7 X0; have Y1 := keep hb7 X1; have Y2 := keep hb7 X2; have Y3 := keep hb7 X3; have hz7 := hb7.size) | (rw [if_pos (by rfl)]; refine wp_append_ow (.tmp 54) (.tmp 59) _ (by rfl) 3 t0 (.int .i64 0) 1 8 Try.underlying24 ht tz0 tz1 tz2 (by rfl) (by omega) w5.heap.size A7 zs.length c7 (iv zs) (by rfl) ho7.1 R2 n2 cr2 (iv (q.drop m)) (by rfl) HQL2.out (hrx.drew.below hb7) (iv_one _) (by unfold maxLen; omega) (by omega) (by simp only [World.size_drew] at hz7; omega) ?_; intro A8 c8 w8 hO8 hS8 hA8; have hb8 : Below w5.drew.heap.size w5.drew w8 := bel_outS hS8 (fun y hy => own_lo ho7.1 y hy) hb7 (Nat.le_refl _); have Z0 := keep hb8 X0; have Z1 := keep hb8 X1; have Z2 := keep hb8 X2; have Z3 := keep hb8 X3; have hR8 := Rd.own hO8; rw [HZQ.out] at hR8) | (go_simp; go_at_call 28; refine (sameInts_same A8 R (zs.length + n2) q.length c8 cr q _ hR8 (hrq.drew.below hb8) (by have := HZL.out; have := HN2.out; omega) rfl (by omega)).mono ?_; rintro e w9 ⟨rfl, hb9⟩; have V0 := keep hb9 Z0; have V1 := keep hb9 Z1; have V2 := keep hb9 Z2; have V3 := keep hb9 Z3) | (go_simp; go_at_call 14; refine (new_c _).mono ?_; rintro e w10 ⟨A10, c10, rfl, hb10⟩; have U0 := keep hb10 V0; have U1 := keep hb10 V1; have U2 := keep hb10 V2; have U3 := keep hb10 V3) | fail)
      go_wp2
      go_ret
      exact ⟨rfl, bel_step hb10 (bel_step hb9 (bel_step hb8 (Below.drew hbw5) (Nat.le_refl _)) (Nat.le_refl _)) (Nat.le_refl _)⟩
end Go.Proofs.Ytmfomflmbhognaa
