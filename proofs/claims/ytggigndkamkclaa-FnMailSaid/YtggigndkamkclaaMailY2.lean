/- The walk of FnMail. -/
import Derived.Test.YtggigndkamkclaaPlaces
import Derived.Test.YtggigndkamkclaaMailDr
import Derived.Test.YtggigndkamkclaaMailSm
import Derived.Test.YtggigndkamkclaaMailCk
import Derived.Deep.RegionLaw
import Derived.Deep.DrawnRows
import Derived.Lib.QuietBelow
namespace Go.Proofs.Ytggigndkamkclaa
open Go.ChangeShapes Go.WideShapes Go.ChangeAt Go.RowKit
set_option linter.unusedVariables false
set_option linter.unusedSimpArgs false

set_option maxRecDepth 100000 in
set_option maxHeartbeats 16000000 in
theorem law_mail (A : Option Addr) (c : Nat) (bs : List Int) (w : World) (hr : Rd w w.heap.size A (bv bs)) (hbb : ∀ b ∈ bs, 0 ≤ b ∧ b ≤ 255) :
    Calls Try.prog 6 #[.slice A bs.length c] w fun e w' => e = .returned (.bool true) ∧ Below w.heap.size w w' := by
  by_cases hbig : (1048576 : Int) < bs.length
  · go_enter Try.func6, Try.ntmps6
    go_wp2_with (go_at_call 11; refine (big_any _ _ _ _).mono ?_; rintro e w1 ⟨rfl, rfl⟩)
    go_ret
    exact ⟨rfl, by (repeat' (first | (with_reducible exact Below.refl _ _) | (with_reducible refine bel_alloc ?_ ?_ _) | (with_reducible refine Below.setCell ?_ ?_ _) | (with_reducible refine below_drewN ?_ _) | (with_reducible refine Below.drew ?_) | (with_reducible exact Nat.le_refl _) | (with_reducible assumption) | omega | (simp only [World.size_alloc, World.size_setCell, World.size_drew]; omega) | (simp; omega) | (simp; done)))⟩
  · have hb : Bytes bs := ⟨by omega, hbb⟩
    go_enter Try.func6, Try.ntmps6
    go_wp2_with (go_at_call 11; refine (big_any _ _ _ _).mono ?_; rintro e w ⟨rfl, rfl⟩)
    refine (drawMail_any A c bs _ hb hr).mono ?_
    rintro e w1 ⟨n, A1, c1, B1, d1, xs, ys, rfl, hln, hok, hrx, hry, hb1⟩
    have hz1 := hb1.size
    have hr1 := (hr.below hb1).alloc (.cells #[.slice A1 n c1, .slice B1 n d1] 29)
    go_wp2_with fail
    refine (places_any _ A c bs _ hb hr1 (by simp; omega)).mono ?_
    rintro e w2 ⟨A2, c2, ps, rfl, hp, ho, hb2⟩
    obtain ⟨g, rfl, hg1, hg2, P, hP, hcell⟩ := places_at ho hp
    have q0 := hcell 0 (by omega)
    have hp0 := hP 0 (by omega)
    obtain ⟨p0, hp0e⟩ : ∃ p0, p0 = P 0 := ⟨_, rfl⟩
    rw [← hp0e] at q0 hp0
    clear hp0e hcell hP ho hp
    have hz2 := hb2.size
    simp only [World.size_alloc] at hz2
    have k0 : w2.cell? ⟨w1.heap.size, 0, none⟩ = some (.slice A1 n c1) := keep hb2 (by simp [go_sem])
    have k1 : w2.cell? ⟨w1.heap.size, 1, none⟩ = some (.slice B1 n d1) := keep hb2 (by simp [go_sem])
    replace hrx := (hrx.alloc _).below hb2
    replace hry := (hry.alloc _).below hb2
    -- the plain laws
    obtain ⟨hn14, hly, -, -⟩ := mOk_parts.1 hok
    have hn14 := of_btw hn14
    have hn1 : 1 ≤ n := by omega
    have hn4 : n ≤ 4 := by omega
    obtain ⟨κ, hκ, hm0⟩ : ∃ κ : Nat, κ < n ∧ p0.tmod (n : Int) = κ := by
      rw [Int.tmod_eq_emod_of_nonneg hp0.1]
      have h1 := Int.emod_nonneg p0 (b := (n : Int)) (by omega)
      have h2 := Int.emod_lt_of_pos p0 (b := (n : Int)) (by omega)
      exact ⟨(p0 % n).toNat, by omega, by omega⟩
    have hkx : κ < xs.length := by omega
    have hRows := mOk_Rows hok
    have hlyn : ys.length = n := by omega
    have hlq0 := lt_of_cell' q0
    have hbw2 : Below w.heap.size w w2 := by (repeat' (first | (with_reducible exact Below.refl _ _) | (with_reducible refine bel_alloc ?_ ?_ _) | (with_reducible refine Below.setCell ?_ ?_ _) | (with_reducible refine below_drewN ?_ _) | (with_reducible refine Below.drew ?_) | (with_reducible refine bel_step hb1 ?_ ?_) | (with_reducible refine bel_step hb2 ?_ ?_) | (with_reducible exact Nat.le_refl _) | (with_reducible assumption) | omega | (simp only [World.size_alloc, World.size_setCell, World.size_drew]; omega) | (simp; omega) | (simp; done)))
    obtain ⟨b, off, R, cr, hA1, -, hch, hrp⟩ := hrx.row hkx
    subst hA1
    have HK := Lib.hid hok
    have HLN := Lib.hid hln
    have HLY := Lib.hid hlyn
    have hκn : (κ : Int) < (n : Int) := by omega
    have hκ0 : (0 : Int) ≤ (κ : Int) := by omega
    have hn0 : (n : Int) ≠ 0 := by omega
    have hn0b : ((n : Int) == 0) = false := by simp; omega
    clear hr1 hr hok hln hlyn hly hn14
    have lk0 := lt_of_cell' k0
    have lch := lt_of_cell' hch
    go_wp2_with fail
    go_quiet (fail)
    have hbq : Below w2.heap.size w2 (w2.drewN nq)  := by have h := Below.refl w2.heap.size w2; exact ⟨h.os, h.tape, h.output, h.size, h.block⟩
    go_wp2_with fail
    generalize w2.drewN nq = wq at *
    replace k0 := keep hbq k0
    replace k1 := keep hbq k1
    replace hch := keep hbq hch
    replace hrp := hrp.lt.below hbq
    replace hrx := hrx.lt.below hbq
    replace hry := hry.lt.below hbq
    have lk0 := lt_of_cell' k0
    have lch := lt_of_cell' hch
    have hbw3 : Below w.heap.size w wq := by (repeat' (first | (with_reducible exact Below.refl _ _) | (with_reducible refine bel_alloc ?_ ?_ _) | (with_reducible refine Below.setCell ?_ ?_ _) | (with_reducible refine below_drewN ?_ _) | (with_reducible refine Below.drew ?_) | (with_reducible refine bel_step hbw2 ?_ ?_) | (with_reducible refine bel_step hbq ?_ ?_) | (with_reducible exact Nat.le_refl _) | (with_reducible assumption) | omega | (simp only [World.size_alloc, World.size_setCell, World.size_drew]; omega) | (simp; omega) | (simp; done)))
    clear q0 hm0 hlq0 hbq hb2 hb1
    by_cases hz : xs[κ].length = 0
    · have HDEL := Lib.hid (fun W => deliver_kn HLN.out HK.out hkx hz (some ⟨b, off, none⟩) c1 B1 d1 W (B1 := w2.heap.size) (B2 := w2.heap.size))
      have hzb : ((xs[κ].length : Int) == 0) = true := by rw [hz]; rfl
      clear hz
      refine (HDEL.out _ hrx hry).mono ?_
      rintro e w4 ⟨A3, c3, B3, d3, rfl, hX4, hY4, hb4⟩
      replace k0 := keep hb4 k0
      replace k1 := keep hb4 k1
      replace hch := keep hb4 hch
      replace hrx := hrx.lt.below hb4
      replace hry := hry.lt.below hb4
      have lk0 := lt_of_cell' k0
      have lch := lt_of_cell' hch
      generalize xs[κ].length = ln at *
      go_wp2_with fail
      refine (sameMail_same _ _ _ _ _ _ _ _ _ _ xs ys _ (hX4.alloc _) (hY4.alloc _) (hrx.alloc _) (hry.alloc _) HLN.out HLY.out hRows).mono ?_
      rintro e w5 ⟨rfl, hb5⟩
      go_wp2
      go_ret
      exact ⟨rfl, by (repeat' (first | (with_reducible exact Below.refl _ _) | (with_reducible refine bel_alloc ?_ ?_ _) | (with_reducible refine Below.setCell ?_ ?_ _) | (with_reducible refine below_drewN ?_ _) | (with_reducible refine Below.drew ?_) | (with_reducible refine bel_step hbw3 ?_ ?_) | (with_reducible refine bel_step hb4 ?_ ?_) | (with_reducible refine bel_step hb5 ?_ ?_) | (with_reducible exact Nat.le_refl _) | (with_reducible assumption) | omega | (simp only [World.size_alloc, World.size_setCell, World.size_drew]; omega) | (simp; omega) | (simp; done)))⟩
    · obtain ⟨τ, a, h0, ht⟩ := deliver_to (has_th HK.out hkx) hkx (by omega)
      obtain ⟨m, hm⟩ : ∃ m, xs[κ].length = m + 1 := ⟨xs[κ].length - 1, by omega⟩
      have hzb : ((xs[κ].length : Int) == 0) = false := by rw [hm]; simp; omega
      have hdel := fun W => deliver_ky HLN.out HK.out hkx ht hm h0 (some ⟨b, off, none⟩) c1 B1 d1 W (B1 := w2.heap.size) (B2 := w2.heap.size)
      have hok' := deliver_ok HK.out hkx ht h0
      obtain ⟨xs', hxs'⟩ : ∃ xs', xs' = xs.set κ (xs[κ].drop 1) := ⟨_, rfl⟩
      obtain ⟨ys', hys'⟩ : ∃ ys', ys' = ys.set τ (ys[τ] ++ [a]) := ⟨_, rfl⟩
      rw [← hxs', ← hys'] at hok'
      simp only [← hxs', ← hys'] at hdel
      have hl1 : xs'.length = n := by rw [hxs', List.length_set]; exact HLN.out
      have hl2 : ys'.length = n := by rw [hys', List.length_set]; exact HLY.out
      have hk' : κ < xs'.length := by omega
      have ht' : τ < ys'.length := by rw [hys', List.length_set]; exact ht
      have hxk : xs'[κ].length = m := by
        have e : xs'[κ] = xs[κ].drop 1 := by simp only [hxs']; exact List.getElem_set_self _
        rw [e, List.length_drop]; omega
      have hyt : ys'[τ] = ys[τ] ++ [a] := by simp only [hys']; exact List.getElem_set_self _
      obtain ⟨lt, hlt⟩ : ∃ lt, lt = ys[τ].length := ⟨_, rfl⟩
      obtain ⟨q, hq⟩ : ∃ q, q = ys[τ] ++ [a] := ⟨_, rfl⟩
      rw [← hq] at hyt
      obtain ⟨ll, hll⟩ : ∃ ll, ll = lt + 1 := ⟨_, rfl⟩
      have hql : q.length = ll := by rw [hq, hll, hlt]; simp
      have hqa : q[lt]? = some a := by rw [hq, hlt]; simp
      obtain ⟨T, hT⟩ : ∃ T, T = tot xs + tot ys := ⟨_, rfl⟩
      have hT' : tot xs' + tot ys' = T := by
        have e1 := tot_set (q := xs[κ].drop 1) hkx
        have e2 := tot_set (q := ys[τ] ++ [a]) ht
        rw [← hxs', List.length_drop] at e1
        rw [← hys', List.length_append, List.length_singleton] at e2
        omega
      have hTy : tot xs' + tot (ys'.set τ []) + ll = T := by
        have e2 := tot_set (q := ([] : List Int)) ht'
        rw [hyt, hql, List.length_nil] at e2
        omega
      obtain ⟨ly, hly⟩ : ∃ ly, ly + ll = T := ⟨_, hTy⟩
      have hT30 : T ≤ 30 := by have := (mOk_parts.1 HK.out).2.2.2; omega
      have hm30 : m ≤ 30 := by have := tot_row hkx; omega
      have hok2 := collect_ok hok' ht'
      have hl3 : (ys'.set τ []).length = n := by rw [List.length_set]; exact hl2
      have HINM := Lib.hid (fun (A : Option Addr) (c : Nat) (B : Option Addr) (d : Nat) (W : World) (B1 B2 : Nat) => inFlight_k (l := T) HLN.out HK.out hT.symm A c B d W (B1 := B1) (B2 := B2))
      have HINX := Lib.hid (fun (A : Option Addr) (c : Nat) (B : Option Addr) (d : Nat) (W : World) (B1 B2 : Nat) => inFlight_k (l := T) hl1 hok' hT' A c B d W (B1 := B1) (B2 := B2))
      have HINY := Lib.hid (fun (A : Option Addr) (c : Nat) (B : Option Addr) (d : Nat) (W : World) (B1 B2 : Nat) => inFlight_k (l := ly) hl1 hok2 (by omega) A c B d W (B1 := B1) (B2 := B2))
      have HOKX := Lib.hid (fun (A : Option Addr) (c : Nat) (B : Option Addr) (d : Nat) (W : World) (B1 B2 : Nat) => mailOk_k hl1 hok' A c B d W (B1 := B1) (B2 := B2))
      have HCOL := Lib.hid (fun (A : Option Addr) (c : Nat) (B : Option Addr) (d : Nat) (W : World) (B1 B2 : Nat) => collect_k hl1 hok' ht' hyt hql A c B d W (B1 := B1) (B2 := B2))
      have HDEL := Lib.hid hdel
      -- m's own cells
      have hl0 : 0 < xs[κ].length := by omega
      obtain ⟨rb, ro, hRe, -, hx0, hx1⟩ := hrp.pair (k := 0) hl0
      rw [List.getElem?_eq_getElem hl0] at h0
      injection h0 with h0
      rw [h0] at hx0 hx1
      simp only [Nat.zero_mul, Nat.add_zero] at hx0 hx1
      subst hRe
      obtain ⟨yb, yo, RI, ci, hBe, -, hih, -⟩ := hry.row ht
      subst hBe
      rw [← hlt] at hih
      obtain ⟨lk, hlk⟩ : ∃ lk, lk = xs[κ].length := ⟨_, rfl⟩
      rw [← hlk] at hch hzb hm
      have hτn : (τ : Int) < (n : Int) := by have := HLY.out; omega
      have hτ0 : (0 : Int) ≤ (τ : Int) := by omega
      have HXK := Lib.hid hxk
      have HXK := Lib.hid hxk
      have hw1 : IntKind.i64.wrap ((lk : Int) - 1) = (m : Int) := by rw [IntWalk.i64_in _ (by omega)]; omega
      have hw2 : IntKind.i64.wrap ((lt : Int) + 1) = (ll : Int) := by rw [IntWalk.i64_in _ (by omega)]; omega
      have hw3 : IntKind.i64.wrap ((ll : Int) - 1) = (lt : Int) := by rw [IntWalk.i64_in _ (by omega)]; omega
      have hw4 : IntKind.i64.wrap ((T : Int) - (ll : Int)) = (ly : Int) := by rw [IntWalk.i64_in _ (by omega)]; omega
      have e1 : ((T : Int) == (T : Int)) = true := by simp
      have e2 : ((m : Int) == (m : Int)) = true := by simp
      have e3 : ((ll : Int) == (ll : Int)) = true := by simp
      have e4 : (a == a) = true := by simp
      have e5 : ((ly : Int) == (ly : Int)) = true := by simp
      have n1 : (0 : Int) ≤ (lt : Int) := by omega
      have n2 : (lt : Int) < (ll : Int) := by omega
      have n3 : (0 : Int) < (lk : Int) := by omega
      have n4 : 0 < lk := by omega
      have n5 : lk ≠ 0 := by omega
      have HXK := Lib.hid hxk
      clear hm hll hly
      clear hdel hok' hok2 hT hT' hTy hxs' hys' hq hlt hlk h0 hl0 hz hxk hql hyt hl3 hl1 hl2
      clear lk0 lch
      refine (HDEL.out _ hrx hry).mono ?_
      rintro e w4 ⟨A3, c3, B3, d3, rfl, hX4, hY4, hb4⟩
      replace k0 := keep hb4 k0
      replace k1 := keep hb4 k1
      replace hch := keep hb4 hch
      replace hih := keep hb4 hih
      replace hx0 := keep hb4 hx0
      replace hx1 := keep hb4 hx1
      replace hrx := (hrx).lt.below hb4
      replace hry := (hry).lt.below hb4
      have l_k0 := lt_of_cell' k0
      have l_k1 := lt_of_cell' k1
      have l_hch := lt_of_cell' hch
      have l_hih := lt_of_cell' hih
      have l_hx0 := lt_of_cell' hx0
      have l_hx1 := lt_of_cell' hx1
      go_wp2_with fail
      refine (HOKX.out _ _ _ _ _ _ _ (hX4.alloc _) (hY4.alloc _)).mono ?_
      rintro e w5 ⟨rfl, hb5⟩
      have j0 : w5.cell? ⟨w4.heap.size, 0, none⟩ = some (.slice A3 n c3) := keep hb5 (by simp [go_sem])
      have j1 : w5.cell? ⟨w4.heap.size, 1, none⟩ = some (.slice B3 n d3) := keep hb5 (by simp [go_sem])
      clear l_k0 l_k1 l_hch l_hih l_hx0 l_hx1
      replace k0 := keep hb5 (cell_al k0 _)
      replace k1 := keep hb5 (cell_al k1 _)
      replace hch := keep hb5 (cell_al hch _)
      replace hih := keep hb5 (cell_al hih _)
      replace hx0 := keep hb5 (cell_al hx0 _)
      replace hx1 := keep hb5 (cell_al hx1 _)
      replace hrx := (hrx.alloc _).lt.below hb5
      replace hry := (hry.alloc _).lt.below hb5
      replace hX4 := (hX4.alloc _).lt.below hb5
      replace hY4 := (hY4.alloc _).lt.below hb5
      obtain ⟨xb, xo, RX, cx, hXe, -, hxh, -⟩ := hX4.row hk'
      subst hXe
      rw [HXK.out] at hxh
      have l_k0 := lt_of_cell' k0
      have l_k1 := lt_of_cell' k1
      have l_hch := lt_of_cell' hch
      have l_hih := lt_of_cell' hih
      have l_hx0 := lt_of_cell' hx0
      have l_hx1 := lt_of_cell' hx1
      have l_j0 := lt_of_cell' j0
      have l_j1 := lt_of_cell' j1
      have l_hxh := lt_of_cell' hxh
      go_wp2_with fail
      refine (HCOL.out _ _ _ _ _ _ _ hX4 hY4).mono ?_
      rintro e w6 ⟨A4, c4, B4, d4, A5, c5, rfl, hX6, hY6, hL6, hb6⟩
      clear l_k0 l_k1 l_hch l_hih l_hx0 l_hx1 l_j0 l_j1 l_hxh
      replace k0 := keep hb6 k0
      replace k1 := keep hb6 k1
      replace hch := keep hb6 hch
      replace hih := keep hb6 hih
      replace hx0 := keep hb6 hx0
      replace hx1 := keep hb6 hx1
      replace j0 := keep hb6 j0
      replace j1 := keep hb6 j1
      replace hxh := keep hb6 hxh
      replace hrx := (hrx).lt.below hb6
      replace hry := (hry).lt.below hb6
      replace hX4 := (hX4).lt.below hb6
      replace hY4 := (hY4).lt.below hb6
      obtain ⟨ab, ao, hAe, -, hla⟩ := hL6.at_ (show (iv q)[lt]? = some (.int .i64 a) by simp [iv, hqa])
      subst hAe
      have l_k0 := lt_of_cell' k0
      have l_k1 := lt_of_cell' k1
      have l_hch := lt_of_cell' hch
      have l_hih := lt_of_cell' hih
      have l_hx0 := lt_of_cell' hx0
      have l_hx1 := lt_of_cell' hx1
      have l_j0 := lt_of_cell' j0
      have l_j1 := lt_of_cell' j1
      have l_hxh := lt_of_cell' hxh
      have l_hla := lt_of_cell' hla
      go_wp2_with fail
      refine (HINM.out _ _ _ _ _ _ _ (hrx.alloc _) (hry.alloc _)).mono ?_
      rintro e w7 ⟨A7, c7, rfl, hb7⟩
      have i0 : w7.cell? ⟨w6.heap.size, 0, none⟩ = some (.slice A4 n c4) := keep hb7 (by simp [go_sem])
      have i1 : w7.cell? ⟨w6.heap.size, 1, none⟩ = some (.slice B4 n d4) := keep hb7 (by simp [go_sem])
      clear l_k0 l_k1 l_hch l_hih l_hx0 l_hx1 l_j0 l_j1 l_hxh l_hla
      replace k0 := keep hb7 (cell_al k0 _)
      replace k1 := keep hb7 (cell_al k1 _)
      replace hch := keep hb7 (cell_al hch _)
      replace hih := keep hb7 (cell_al hih _)
      replace hx0 := keep hb7 (cell_al hx0 _)
      replace hx1 := keep hb7 (cell_al hx1 _)
      replace j0 := keep hb7 (cell_al j0 _)
      replace j1 := keep hb7 (cell_al j1 _)
      replace hxh := keep hb7 (cell_al hxh _)
      replace hla := keep hb7 (cell_al hla _)
      replace hrx := (hrx.alloc _).lt.below hb7
      replace hry := (hry.alloc _).lt.below hb7
      replace hX4 := (hX4.alloc _).lt.below hb7
      replace hY4 := (hY4.alloc _).lt.below hb7
      replace hX6 := (hX6.alloc _).lt.below hb7
      replace hY6 := (hY6.alloc _).lt.below hb7
      have l_k0 := lt_of_cell' k0
      have l_k1 := lt_of_cell' k1
      have l_hch := lt_of_cell' hch
      have l_hih := lt_of_cell' hih
      have l_hx0 := lt_of_cell' hx0
      have l_hx1 := lt_of_cell' hx1
      have l_j0 := lt_of_cell' j0
      have l_j1 := lt_of_cell' j1
      have l_hxh := lt_of_cell' hxh
      have l_hla := lt_of_cell' hla
      have l_i0 := lt_of_cell' i0
      have l_i1 := lt_of_cell' i1
      go_wp2_with fail
      refine (HINX.out _ _ _ _ _ _ _ hX4 hY4).mono ?_
      rintro e w8 ⟨A8, c8, rfl, hb8⟩
      clear l_k0 l_k1 l_hch l_hih l_hx0 l_hx1 l_j0 l_j1 l_hxh l_hla l_i0 l_i1
      replace k0 := keep hb8 k0
      replace k1 := keep hb8 k1
      replace hch := keep hb8 hch
      replace hih := keep hb8 hih
      replace hx0 := keep hb8 hx0
      replace hx1 := keep hb8 hx1
      replace j0 := keep hb8 j0
      replace j1 := keep hb8 j1
      replace hxh := keep hb8 hxh
      replace hla := keep hb8 hla
      replace i0 := keep hb8 i0
      replace i1 := keep hb8 i1
      replace hrx := (hrx).lt.below hb8
      replace hry := (hry).lt.below hb8
      replace hX4 := (hX4).lt.below hb8
      replace hY4 := (hY4).lt.below hb8
      replace hX6 := (hX6).lt.below hb8
      replace hY6 := (hY6).lt.below hb8
      have l_k0 := lt_of_cell' k0
      have l_k1 := lt_of_cell' k1
      have l_hch := lt_of_cell' hch
      have l_hih := lt_of_cell' hih
      have l_hx0 := lt_of_cell' hx0
      have l_hx1 := lt_of_cell' hx1
      have l_j0 := lt_of_cell' j0
      have l_j1 := lt_of_cell' j1
      have l_hxh := lt_of_cell' hxh
      have l_hla := lt_of_cell' hla
      have l_i0 := lt_of_cell' i0
      have l_i1 := lt_of_cell' i1
      have hbw8 : Below w.heap.size w w8 := by (repeat' (first | (with_reducible exact Below.refl _ _) | (with_reducible refine bel_alloc ?_ ?_ _) | (with_reducible refine Below.setCell ?_ ?_ _) | (with_reducible refine below_drewN ?_ _) | (with_reducible refine Below.drew ?_) | (with_reducible refine bel_step hbw3 ?_ ?_) | (with_reducible refine bel_step hb4 ?_ ?_) | (with_reducible refine bel_step hb5 ?_ ?_) | (with_reducible refine bel_step hb6 ?_ ?_) | (with_reducible refine bel_step hb7 ?_ ?_) | (with_reducible refine bel_step hb8 ?_ ?_) | (with_reducible exact Nat.le_refl _) | (with_reducible assumption) | omega | (simp only [World.size_alloc, World.size_setCell, World.size_drew]; omega) | (simp; omega) | (simp; done)))
      clear l_k0 l_k1 l_hch l_hih l_hx0 l_hx1 l_j0 l_j1 l_hxh l_hla l_i0 l_i1
      have k0d : w8.drew.cell? _ = _ := k0
      have k1d : w8.drew.cell? _ = _ := k1
      have hchd : w8.drew.cell? _ = _ := hch
      have hihd : w8.drew.cell? _ = _ := hih
      have hx0d : w8.drew.cell? _ = _ := hx0
      have hx1d : w8.drew.cell? _ = _ := hx1
      have j0d : w8.drew.cell? _ = _ := j0
      have j1d : w8.drew.cell? _ = _ := j1
      have hxhd : w8.drew.cell? _ = _ := hxh
      have hlad : w8.drew.cell? _ = _ := hla
      have i0d : w8.drew.cell? _ = _ := i0
      have i1d : w8.drew.cell? _ = _ := i1
      have hX6d := hX6.drew
      have hY6d := hY6.drew
      have hbd : Below w.heap.size w w8.drew := Below.drew hbw8
      clear hb4 hb5 hb6 hb7 hb8 hrx hry hX4 hY4 hbw8 HOKX HCOL HINM HINX HDEL HK HXK hqa hRows
      clear k0 k1 hch hih hx0 hx1 j0 j1 hxh hla i0 i1
      go_wp2_with fail
      go_region_held3 (fun w' => w'.cell? ⟨w1.heap.size, 0, none⟩ = some (.slice (some ⟨b, off, none⟩) n c1) ∧ w'.cell? ⟨w1.heap.size, 1, none⟩ = some (.slice (some ⟨yb, yo, none⟩) n d1) ∧ w'.cell? ⟨b, off + κ, none⟩ = some (.slice (some ⟨rb, ro, none⟩) lk cr) ∧ w'.cell? ⟨yb, yo + τ, none⟩ = some (.slice RI lt ci) ∧ w'.cell? ⟨rb, ro, none⟩ = some (.int .i64 (τ : Int)) ∧ w'.cell? ⟨rb, ro + 1, none⟩ = some (.int .i64 a) ∧ w'.cell? ⟨w4.heap.size, 0, none⟩ = some (.slice (some ⟨xb, xo, none⟩) n c3) ∧ w'.cell? ⟨w4.heap.size, 1, none⟩ = some (.slice B3 n d3) ∧ w'.cell? ⟨xb, xo + κ, none⟩ = some (.slice RX m cx) ∧ w'.cell? ⟨ab, ao + lt, none⟩ = some (.int .i64 a) ∧ w'.cell? ⟨w6.heap.size, 0, none⟩ = some (.slice A4 n c4) ∧ w'.cell? ⟨w6.heap.size, 1, none⟩ = some (.slice B4 n d4))
        (first | exact ⟨k0d, k1d, hchd, hihd, hx0d, hx1d, j0d, j1d, hxhd, hlad, i0d, i1d⟩ | exact ⟨Yk0, Yk1, Yhch, Yhih, Yhx0, Yhx1, Yj0, Yj1, Yhxh, Yhla, Yi0, Yi1⟩ | fail)
        (first | (go_simp; go_at_call 27; refine (HINY.out _ _ _ _ _ _ _ hX6d hY6d).mono ?_; rintro e w9 ⟨A9, c9, rfl, hb9⟩; have Yk0 := keep hb9 k0d; have Yk1 := keep hb9 k1d; have Yhch := keep hb9 hchd; have Yhih := keep hb9 hihd; have Yhx0 := keep hb9 hx0d; have Yhx1 := keep hb9 hx1d; have Yj0 := keep hb9 j0d; have Yj1 := keep hb9 j1d; have Yhxh := keep hb9 hxhd; have Yhla := keep hb9 hlad; have Yi0 := keep hb9 i0d; have Yi1 := keep hb9 i1d) | fail)
      all_goals
        go_wp2
        go_ret
        exact ⟨rfl, bel_step hb9 hbd (Nat.le_refl _)⟩
end Go.Proofs.Ytggigndkamkclaa
