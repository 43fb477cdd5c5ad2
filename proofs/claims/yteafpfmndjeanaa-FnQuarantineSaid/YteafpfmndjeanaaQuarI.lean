/- QuarAdd, QuarExpire, of the program: where nothing is done. -/
import Derived.Test.YteafpfmndjeanaaQuarH
import Derived.Lib.QuietBelow
namespace Go.Proofs.Yteafpfmndjeanaa
open Go.ChangeShapes Go.WideShapes Go.ChangeAt Go.RowKit
set_option linter.unusedVariables false

theorem tv_snoc (xs : List St) (x : St) : tv xs ++ tv [x] = tv (xs ++ [x]) := by simp [tv]
def addN (r : Int) : List St → Nat
  | [] => 0
  | x :: l => if qsum (x :: l) ≤ r then 0 else addN r l + 1
theorem addN_spec {r : Int} : ∀ {l : List St} {k : Nat}, (∀ j, j < k → r < qsum (l.drop j)) → qsum (l.drop k) ≤ r → k ≤ l.length → addN r l = k
  | [], 0, _, _, _ => rfl
  | [], k + 1, _, _, h => by simp at h
  | x :: l, 0, _, h, _ => by simp only [List.drop_zero] at h; simp [addN, h]
  | x :: l, k + 1, h1, h2, h3 => by
    have h0 := h1 0 (by omega)
    simp only [List.drop_zero] at h0
    have := addN_spec (l := l) (k := k) (fun j hj => by simpa using h1 (j + 1) (by omega)) (by simpa using h2) (by simpa using h3)
    simp only [addN, this]
    rw [if_neg (by omega)]
set_option maxHeartbeats 8000000 in
theorem quarAdd_i_yes (r : Int) (A : Option Addr) (n c : Nat) (xs : List St) (x y z : Int) (w : World) {B : Nat} (hr : Rd w B A (tv xs)) (hl : xs.length = n) (hn : n ≤ 1048576) (hcap : n ≤ c ∧ c ≤ maxLen) (hq : qOkB r xs = true) (hst : stOk xs (x, y, z) = true) (hr0 : 0 ≤ r) (ys zs : List St) (hys : ys = (xs ++ [(x, y, z)]).drop (addN r (xs ++ [(x, y, z)]))) (hzs : zs = (xs ++ [(x, y, z)]).take (addN r (xs ++ [(x, y, z)]))) :
    Calls Try.prog 26 #[.agg #[.int .i64 r, .slice A n c], .agg #[.int .i64 x, .int .i64 y, .int .i64 z]] w (MadeAddC r ys zs w) := by
  subst hl
  obtain ⟨i0, hi, iz0, iz1, iz2⟩ := info_parts infoStale
  have HYS := Lib.hid hys
  have HZS := Lib.hid hzs
  clear hys hzs
  go_enter Try.func26, Try.ntmps26
  go_wp2_with fail
  refine (copyQuar_any _ _ _ _ _ _ (((hr.alloc _).alloc _).alloc _) rfl (by omega)).mono ?_
  rintro e u1 ⟨A', c', rfl, hO, hb1⟩
  replace hr := (((hr.alloc _).alloc _).alloc _).below hb1
  have q0 : u1.cell? ⟨w.heap.size, 0, none⟩ = some (.int .i64 r) := keep hb1 (by simp [go_sem])
  have q1 : u1.cell? ⟨w.heap.size, 1, none⟩ = some (.slice A xs.length c) := keep hb1 (by simp [go_sem])
  have x0 : u1.cell? ⟨w.heap.size + 1, 0, none⟩ = some (.int .i64 x) := keep hb1 (by simp [go_sem])
  have x1 : u1.cell? ⟨w.heap.size + 1, 1, none⟩ = some (.int .i64 y) := keep hb1 (by simp [go_sem])
  have x2 : u1.cell? ⟨w.heap.size + 1, 2, none⟩ = some (.int .i64 z) := keep hb1 (by simp [go_sem])
  have f0 : Cl u1 ⟨w.heap.size + 1 + 1, 0, none⟩ (.int .i64 0) := Cl.below (by constructor <;> simp [go_sem]) hb1
  have f1 : Cl u1 ⟨w.heap.size + 1 + 1, 1, none⟩ (.slice none 0 0) := Cl.below (by constructor <;> simp [go_sem]) hb1
  have hz1 := hb1.size
  try simp only [World.size_alloc, World.size_drew] at hz1
  have lq0 := lt_of_cell' q0
  have lx0 := lt_of_cell' x0
  have f0c := f0.1
  have f0f := f0.2
  have f1c := f1.1
  have f1f := f1.2
  replace hO := hO.mono (lo' := w.heap.size + 3) (by simp only [World.size_alloc]; omega) (Nat.le_refl _)
  go_wp2_with fail
  refine (quarOk_i _ _ _ _ _ _ true (hr.alloc _) rfl hn hcap hq).mono ?_
  rintro e u2 ⟨rfl, hb2⟩
  clear lq0 lx0
  clear f0c f0f f1c f1f
  replace hr := (hr.alloc _).below hb2
  replace q0 := keep hb2 (cell_al q0 _)
  replace q1 := keep hb2 (cell_al q1 _)
  replace x0 := keep hb2 (cell_al x0 _)
  replace x1 := keep hb2 (cell_al x1 _)
  replace x2 := keep hb2 (cell_al x2 _)
  replace f0 := (f0.alloc _).below hb2
  replace f1 := (f1.alloc _).below hb2
  replace hO := (hO.alloc _).below hb2
  have o0 : Cl u2 ⟨u1.heap.size, 0, none⟩ (.int .i64 r) := Cl.below (by constructor <;> simp [go_sem]) hb2
  have o1 : Cl u2 ⟨u1.heap.size, 1, none⟩ (.slice A' xs.length c') := Cl.below (by constructor <;> simp [go_sem]) hb2
  have hz2 := hb2.size
  try simp only [World.size_alloc, World.size_drew] at hz2
  have lq0 := lt_of_cell' q0
  have lx0 := lt_of_cell' x0
  have f0c := f0.1
  have f0f := f0.2
  have f1c := f1.1
  have f1f := f1.2
  have o0c := o0.1
  have o0f := o0.2
  have o1c := o1.1
  have o1f := o1.2
  go_wp2_with fail
  refine (staleOk_i _ _ _ _ _ _ _ _ true hr rfl hn hst).mono ?_
  rintro e u3 ⟨rfl, hb3⟩
  clear lq0 lx0
  clear f0c f0f f1c f1f o0c o0f o1c o1f
  replace hr := hr.below hb3
  replace q0 := keep hb3 q0
  replace q1 := keep hb3 q1
  replace x0 := keep hb3 x0
  replace x1 := keep hb3 x1
  replace x2 := keep hb3 x2
  replace f0 := f0.below hb3
  replace f1 := f1.below hb3
  replace hO := hO.below hb3
  replace o0 := o0.below hb3
  replace o1 := o1.below hb3
  have hz3 := hb3.size
  try simp only [World.size_alloc, World.size_drew] at hz3
  have lq0 := lt_of_cell' q0
  have lx0 := lt_of_cell' x0
  have f0c := f0.1
  have f0f := f0.2
  have f1c := f1.1
  have f1f := f1.2
  have o0c := o0.1
  have o0f := o0.2
  have o1c := o1.1
  have o1f := o1.2
  clear hq hst
  have hlen1 := hO.len
  have hlo3 : w.heap.size + 3 ≤ u3.heap.size + 1 := by omega
  go_wp2_with (at_builtin; refine wpList_append_ow rfl (.tmp 23) (.tmp 25) _ rfl 47 i0 (.agg #[.int .i64 0, .int .i64 0, .int .i64 0]) 3 24 Try.underlying22 hi iz0 iz1 iz2 rfl (by omega) (w.heap.size + 3) A' xs.length c' (tv xs) rfl (hO.alloc _).1 (some ⟨u3.heap.size, 0, none⟩) 1 1 (tv [(x, y, z)]) rfl rfl (Rd.lit rfl) (tv_one _) (by unfold maxLen; omega) (by omega) (by simp; omega) ?_; intro A2 c2 u4 hO2 hS4 hA2; have o1n := Cl.outS (o1.alloc (.cells #[.int .i64 x, .int .i64 y, .int .i64 z] 47)) hS4 (hO.apart (.inr (Nat.le_refl _))); have o1nc := o1n.1; have o1nf := o1n.2)
  have hcap2 := (Ow.mk' hO2).cap
  have hW2 := (Ow.mk' hO2).wr1
  have hne : ¬ ∃ o, A2 = some ⟨u1.heap.size, o, none⟩ := by
    rcases hA2 with h | ⟨b, h, hb⟩
    · rw [h]; exact hO.apart (.inr (Nat.le_refl _))
    · rintro ⟨o, h2⟩
      rw [h] at h2
      injection h2 with h2
      injection h2 with h2
      simp only [World.size_alloc] at hb
      omega
  have hl4 : ∀ b, (∃ o, A' = some ⟨b, o, none⟩) → w.heap.size ≤ b := by
    rintro b hb
    rcases Nat.lt_or_ge b w.heap.size with h | h
    · exact absurd hb (hO.apart (.inl (by omega)))
    · exact h
  have hz4 := hS4.size
  simp only [World.size_alloc] at hz4
  have q0 := hS4.cell (cell_al q0 (.cells #[.int .i64 x, .int .i64 y, .int .i64 z] 47)) (hO.apart (.inl (by show w.heap.size < _; omega)))
  have o0 := Cl.outS (o0.alloc (.cells #[.int .i64 x, .int .i64 y, .int .i64 z] 47)) hS4 (hO.apart (.inr (Nat.le_refl _)))
  have f0 := Cl.outS (f0.alloc (.cells #[.int .i64 x, .int .i64 y, .int .i64 z] 47)) hS4 (hO.apart (.inl (by show w.heap.size + 1 + 1 < _; omega)))
  have f1 := Cl.outS (f1.alloc (.cells #[.int .i64 x, .int .i64 y, .int .i64 z] 47)) hS4 (hO.apart (.inl (by show w.heap.size + 1 + 1 < _; omega)))
  clear q1 x0 x1 x2 f0c f0f f1c f1f o0c o0f o1c o1f o1nc o1nf lq0 lx0 hr o1
  have hbW : Below w.heap.size w (u4.setCell ⟨u1.heap.size, 1, none⟩ (.slice A2 (xs.length + 1) c2)) := by (repeat' (first | (with_reducible exact Below.refl _ _) | (with_reducible refine bel_alloc ?_ ?_ _) | (with_reducible refine Below.setCell ?_ ?_ _) | (with_reducible refine below_drewN ?_ _) | (with_reducible refine Below.drew ?_) | (with_reducible refine bel_step hb1 ?_ ?_) | (with_reducible refine bel_step hb2 ?_ ?_) | (with_reducible refine bel_step hb3 ?_ ?_) | (with_reducible refine bel_outS hS4 hl4 ?_ ?_) | (with_reducible exact Nat.le_refl _) | (with_reducible assumption) | omega | (simp only [World.size_alloc, World.size_setCell, World.size_drew]; omega) | (simp; omega) | (simp; done)))
  replace hW2 := hW2.setOut (o := 1) (.slice A2 (xs.length + 1) c2) hne
  replace q0 := (World.cell?_setCell_other u4 ⟨u1.heap.size, 1, none⟩ ⟨w.heap.size, 0, none⟩ (.slice A2 (xs.length + 1) c2) (by simp <;> omega)).trans q0
  replace o0 := o0.other (q := ⟨u1.heap.size, 1, none⟩) (.slice A2 (xs.length + 1) c2) (by simp)
  have o1 := o1n.same (.slice A2 (xs.length + 1) c2)
  replace f0 := f0.other (q := ⟨u1.heap.size, 1, none⟩) (.slice A2 (xs.length + 1) c2) (by simp <;> omega)
  replace f1 := f1.other (q := ⟨u1.heap.size, 1, none⟩) (.slice A2 (xs.length + 1) c2) (by simp <;> omega)
  have hz5 : u1.heap.size < (u4.setCell ⟨u1.heap.size, 1, none⟩ (.slice A2 (xs.length + 1) c2)).heap.size := lt_of_cell' o0.1
  clear hO2 o1n hS4
  generalize u4.setCell ⟨u1.heap.size, 1, none⟩ (.slice A2 (xs.length + 1) c2) = W0 at *
  clear hA2 hO hb1 hb2 hb3 hl4
  obtain ⟨al, hal⟩ : ∃ al, al = xs ++ [(x, y, z)] := ⟨_, rfl⟩
  rw [← hal] at HYS HZS
  rw [tv_snoc, ← hal] at hW2
  have hall : al.length = xs.length + 1 := by rw [hal]; simp
  clear hal
  have HL := Lib.hid hall
  clear hall
  have hN : xs.length + 1 ≤ 1048577 := by omega
  generalize xs.length + 1 = N at *
  clear hlen1
  go_loopw [7] (fun v wr => ∃ k : Nat, k ≤ N ∧ v = .int .i64 k ∧ (∀ j, j < k → r < qsum (al.drop j)) ∧ Below W0.heap.size W0 wr) (fun v _ => N - (intOf v).toNat)
  case atStart => exact ⟨0, Nat.zero_le _, rfl, fun j hj => absurd hj (by omega), Below.refl _ _⟩
  case round =>
    obtain ⟨k, hk, rfl, hj, hbr⟩ := hrel
    have HJ := Lib.hid hj
    clear hj
    have p0 := keep hbr q0
    have p1 := keep hbr o1.1
    replace hW2 := hW2.below hbr
    by_cases hkn : k < N
    · have hck : ¬ c2 = k := by omega
      obtain ⟨g, off, rfl⟩ : ∃ g off, A2 = some ⟨g, off, none⟩ := by
        have := HL.out
        rcases hW2 with h | ⟨b, off, h, _⟩
        · have := tv_length al; rw [h] at this; simp at this; omega
        · exact ⟨b, off, h⟩
      have hrd := hW2.rd
      rw [tv_take al k] at hrd
      replace hrd := hrd.post
      have htk : (tv (al.take k)).length = k * 3 := by rw [tv_length, List.length_take, HL.out, Nat.min_eq_left (by omega)]
      rw [htk] at hrd
      have hdl := Lib.hid (show (al.drop k).length = N - k by rw [List.length_drop, HL.out])
      clear htk
      have cQ := fun W h => quarCells_i (some ⟨g, off + k * 3, none⟩) (N - k) (c2 - k) (al.drop k) W (B := wr.heap.size) h hdl.out (by omega)
      have HQ := Lib.hid cQ
      clear cQ
      obtain ⟨t, ht⟩ : ∃ t, t = qsum (al.drop k) := ⟨_, rfl⟩
      rw [← ht] at HQ
      have HT := Lib.hid ht
      clear ht
      have i0 : (0 : Int) ≤ (k : Int) := by omega
      have i1 : (k : Int) ≤ (N : Int) := by omega
      have k0 := cell_regrown p0
      have k1 := cell_regrown p1
      have cE := fun d os => Calls.regrown_of (HQ.out (Go.Sort.grow (redrawn wr d) os) (hrd.below (below_regrown wr d os)))
      by_cases hgt : r < t
      · go_wp2
        refine wp_region_quiet_below (by kernel_rfl) (by kernel_rfl) ?_
        repeat (first | go_big_quiet_step (first | (with_reducible exact cE _ _)) | quiet_step (first | (with_reducible exact cE _ _)))
        refine wpQuiet_nil ?_
        intro _ hw_q
        obtain ⟨⟨dq, osq⟩, hw_q'⟩ := hw_q
        subst hw_q'
        have hbq := below_regrown wr dq osq
        generalize Go.Sort.grow (redrawn wr dq) osq = wq at *
        go_wp2
        go_roundw
        case rel =>
          refine ⟨k + 1, by omega, by go_num, fun j hj => ?_, ?_⟩
          · by_cases e : j = k
            · subst e; rw [← HT.out]; exact hgt
            · exact HJ.out j (by omega)
          · (repeat' (first | (with_reducible exact Below.refl _ _) | (with_reducible refine bel_alloc ?_ ?_ _) | (with_reducible refine Below.setCell ?_ ?_ _) | (with_reducible refine below_drewN ?_ _) | (with_reducible refine Below.drew ?_) | (with_reducible refine bel_step hbq ?_ ?_) | (with_reducible refine bel_step hbr ?_ ?_) | (with_reducible exact Nat.le_refl _) | (with_reducible assumption) | omega | (simp only [World.size_alloc, World.size_setCell, World.size_drew]; omega) | (simp; omega) | (simp; done)))
        case measure => simp [intOf]; omega
      · have hkk : addN r al = k := addN_spec HJ.out (by rw [← HT.out]; omega) (by rw [HL.out]; omega)
        have hys : ys = al.drop k := by rw [HYS.out, hkk]
        have hzs : zs = al.take k := by rw [HZS.out, hkk]
        have hly := Lib.hid (show ys.length = N - k by rw [hys, List.length_drop, HL.out])
        have hlz := Lib.hid (show zs.length = k by rw [hzs, List.length_take, HL.out]; omega)
        have hrz := hW2.rd
        rw [tv_take al k] at hrz
        replace hrz := hrz.pre
        rw [← hzs] at hrz
        rw [← hys] at hrd
        clear hkk hys hzs
        go_wp2
        refine wp_region_quiet_below (by kernel_rfl) (by kernel_rfl) ?_
        repeat (first | go_big_quiet_step (first | (with_reducible exact cE _ _)) | quiet_step (first | (with_reducible exact cE _ _)))
        refine wpQuiet_nil ?_
        intro _ hw_q
        obtain ⟨⟨dq, osq⟩, hw_q'⟩ := hw_q
        subst hw_q'
        have hbq := below_regrown wr dq osq
        generalize Go.Sort.grow (redrawn wr dq) osq = wq at *
        have HB := bel_step hbq hbr (Nat.le_refl _)
        have hzq := HB.size
        replace o0 := o0.below HB
        replace o1 := o1.below HB
        replace f0 := f0.below HB
        replace f1 := f1.below HB
        have o0c := o0.1
        have o1c := o1.1
        have o1f := o1.2
        have f0c := f0.1
        have f0f := f0.2
        have f1c := f1.1
        have f1f := f1.2
        have l0 := lt_of_cell' f0c
        go_wp2_with fail
        refine (clone_any _ _ _ zs _ (hrz.lt.below hbq) hlz.out (by omega)).mono ?_
        rintro e v1 ⟨A3, c3, S3, rfl, hc3, hW3, hN3, hbv1⟩
        have hzv1 := hbv1.size
        clear o0c o1c o1f f0c f0f f1c f1f l0
        replace o0 := o0.below hbv1
        replace o1 := o1.below hbv1
        replace f0 := f0.below hbv1
        replace f1 := f1.below hbv1
        have o0c := o0.1
        have o1c := o1.1
        have o1f := o1.2
        have f0c := f0.1
        have f0f := f0.2
        have f1c := f1.1
        have f1f := f1.2
        have l0 := lt_of_cell' f0c
        go_wp2_with fail
        refine (clone_any _ _ _ ys _ ((hrd.lt.below hbq).below hbv1) hly.out (by omega)).mono ?_
        rintro e v2 ⟨A4, c4, S4, rfl, hc4, hW4, hN4, hbv2⟩
        have hzv2 := hbv2.size
        clear o0c o1c o1f f0c f0f f1c f1f l0
        replace o0 := o0.below hbv2
        replace o1 := o1.below hbv2
        replace f0 := f0.below hbv2
        replace f1 := f1.below hbv2
        replace hW3 := hW3.below hbv2
        have o0c := o0.1
        have o0f := o0.2
        have o1c := o1.1
        have o1f := o1.2
        have f0c := f0.1
        have f0f := f0.2
        have f1c := f1.1
        have f1f := f1.2
        have l0 := lt_of_cell' f0c
        have hne1 : u1.heap.size ≠ w.heap.size + 1 + 1 := by omega
        go_wp2
        have hzW := hbW.size
        have hX3 : ∀ b, S3 b → wq.heap.size ≤ b ∧ b < v1.heap.size := hN3
        have hX4 : ∀ b, S4 b → v1.heap.size ≤ b ∧ b < v2.heap.size := hN4
        refine bodyPost_ret (v := .tuple #[.agg #[.int .i64 r, .slice A4 ys.length c4], .slice A3 zs.length c3]) (by simp [results, Try.results26, go_sem, f0c, f1c, hne1]) rfl ⟨A4, c4, A3, c3, S4, S3, rfl, by (repeat' (first | (with_reducible exact hW4) | (with_reducible refine Wr.setOut ?_ _ (fun h => by have := hX4 _ h; first | omega | (simp at this; omega))) | (with_reducible refine Wr.alloc ?_ _) | (with_reducible refine Wr.drewN ?_ _) | (with_reducible refine Wr.drew ?_))), by (repeat' (first | (with_reducible exact hW3) | (with_reducible refine Wr.setOut ?_ _ (fun h => by have := hX3 _ h; first | omega | (simp at this; omega))) | (with_reducible refine Wr.alloc ?_ _) | (with_reducible refine Wr.drewN ?_ _) | (with_reducible refine Wr.drew ?_))), New.mk hX4 (by omega) (by simp), New.mk hX3 (by omega) (by simp; omega), fun b h4 h3 => by have := hX4 b h4; have := hX3 b h3; omega, by (repeat' (first | (with_reducible exact Below.refl _ _) | (with_reducible refine bel_alloc ?_ ?_ _) | (with_reducible refine Below.setCell ?_ ?_ _) | (with_reducible refine below_drewN ?_ _) | (with_reducible refine Below.drew ?_) | (with_reducible refine bel_step hbW ?_ ?_) | (with_reducible refine bel_step HB ?_ ?_) | (with_reducible refine bel_step hbv1 ?_ ?_) | (with_reducible refine bel_step hbv2 ?_ ?_) | (with_reducible exact Nat.le_refl _) | (with_reducible assumption) | omega | (simp only [World.size_alloc, World.size_setCell, World.size_drew]; omega) | (simp; omega) | (simp; done))), hc4⟩
    · obtain rfl : k = N := by omega
      have hqn : qsum (al.drop k) = 0 := by rw [List.drop_of_length_le (by rw [HL.out]; omega)]; rfl
      have hkk : addN r al = k := addN_spec HJ.out (by rw [hqn]; exact hr0) (by rw [HL.out]; omega)
      have hys : ys = [] := by rw [HYS.out, hkk, List.drop_of_length_le (by rw [HL.out]; omega)]
      have hzs : zs = al := by rw [HZS.out, hkk, List.take_of_length_le (by rw [HL.out]; omega)]
      have hrz := hW2.rd
      rw [← hzs] at hrz HL
      have hlz := Lib.hid HL.out
      have hly := Lib.hid (show ys.length = 0 by rw [hys]; rfl)
      have hry := fun (W : World) (D : Option Addr) => (show Rd W 0 D (tv ys) by rw [hys]; exact .inl rfl)
      have HRY := Lib.hid hry
      have hrn : ¬ r < 0 := by omega
      clear hqn hkk hys hzs hry
      have i0 : (0 : Int) ≤ (k : Int) := by omega
      have k0 := cell_regrown p0
      have k1 := cell_regrown p1
      have cE := fun d os D c => Calls.regrown_of (quarCells_i D 0 c [] (Go.Sort.grow (redrawn wr d) os) (B := 0) (.inl rfl) rfl (by omega))
      have hq0 : qsum [] = 0 := rfl
      rw [hq0] at cE
      by_cases hck : c2 = k
      all_goals
        go_wp2
        refine wp_region_quiet_below (by kernel_rfl) (by kernel_rfl) ?_
        repeat (first | go_big_quiet_step (first | (with_reducible exact cE _ _ _ _)) | quiet_step (first | (with_reducible exact cE _ _ _ _)))
        refine wpQuiet_nil ?_
        intro _ hw_q
        obtain ⟨⟨dq, osq⟩, hw_q'⟩ := hw_q
        subst hw_q'
        have hbq := below_regrown wr dq osq
        generalize Go.Sort.grow (redrawn wr dq) osq = wq at *
        have HB := bel_step hbq hbr (Nat.le_refl _)
        have hzq := HB.size
        replace o0 := o0.below HB
        replace o1 := o1.below HB
        replace f0 := f0.below HB
        replace f1 := f1.below HB
        have o0c := o0.1
        have o1c := o1.1
        have o1f := o1.2
        have f0c := f0.1
        have f0f := f0.2
        have f1c := f1.1
        have f1f := f1.2
        have l0 := lt_of_cell' f0c
        go_wp2_with fail
        refine (clone_any _ _ _ zs _ (hrz.lt.below hbq) hlz.out (by omega)).mono ?_
        rintro e v1 ⟨A3, c3, S3, rfl, hc3, hW3, hN3, hbv1⟩
        have hzv1 := hbv1.size
        clear o0c o1c o1f f0c f0f f1c f1f l0
        replace o0 := o0.below hbv1
        replace o1 := o1.below hbv1
        replace f0 := f0.below hbv1
        replace f1 := f1.below hbv1
        have o0c := o0.1
        have o1c := o1.1
        have o1f := o1.2
        have f0c := f0.1
        have f0f := f0.2
        have f1c := f1.1
        have f1f := f1.2
        have l0 := lt_of_cell' f0c
        go_wp2_with fail
        refine (clone_any _ _ _ ys _ (HRY.out _ _) hly.out (by omega)).mono ?_
        rintro e v2 ⟨A4, c4, S4, rfl, hc4, hW4, hN4, hbv2⟩
        have hzv2 := hbv2.size
        clear o0c o1c o1f f0c f0f f1c f1f l0
        replace o0 := o0.below hbv2
        replace o1 := o1.below hbv2
        replace f0 := f0.below hbv2
        replace f1 := f1.below hbv2
        replace hW3 := hW3.below hbv2
        have o0c := o0.1
        have o0f := o0.2
        have o1c := o1.1
        have o1f := o1.2
        have f0c := f0.1
        have f0f := f0.2
        have f1c := f1.1
        have f1f := f1.2
        have l0 := lt_of_cell' f0c
        have hne1 : u1.heap.size ≠ w.heap.size + 1 + 1 := by omega
        go_wp2
        have hzW := hbW.size
        have hX3 : ∀ b, S3 b → wq.heap.size ≤ b ∧ b < v1.heap.size := hN3
        have hX4 : ∀ b, S4 b → v1.heap.size ≤ b ∧ b < v2.heap.size := hN4
        refine bodyPost_ret (v := .tuple #[.agg #[.int .i64 r, .slice A4 ys.length c4], .slice A3 zs.length c3]) (by simp [results, Try.results26, go_sem, f0c, f1c, hne1]) rfl ⟨A4, c4, A3, c3, S4, S3, rfl, by (repeat' (first | (with_reducible exact hW4) | (with_reducible refine Wr.setOut ?_ _ (fun h => by have := hX4 _ h; first | omega | (simp at this; omega))) | (with_reducible refine Wr.alloc ?_ _) | (with_reducible refine Wr.drewN ?_ _) | (with_reducible refine Wr.drew ?_))), by (repeat' (first | (with_reducible exact hW3) | (with_reducible refine Wr.setOut ?_ _ (fun h => by have := hX3 _ h; first | omega | (simp at this; omega))) | (with_reducible refine Wr.alloc ?_ _) | (with_reducible refine Wr.drewN ?_ _) | (with_reducible refine Wr.drew ?_))), New.mk hX4 (by omega) (by simp), New.mk hX3 (by omega) (by simp; omega), fun b h4 h3 => by have := hX4 b h4; have := hX3 b h3; omega, by (repeat' (first | (with_reducible exact Below.refl _ _) | (with_reducible refine bel_alloc ?_ ?_ _) | (with_reducible refine Below.setCell ?_ ?_ _) | (with_reducible refine below_drewN ?_ _) | (with_reducible refine Below.drew ?_) | (with_reducible refine bel_step hbW ?_ ?_) | (with_reducible refine bel_step HB ?_ ?_) | (with_reducible refine bel_step hbv1 ?_ ?_) | (with_reducible refine bel_step hbv2 ?_ ?_) | (with_reducible exact Nat.le_refl _) | (with_reducible assumption) | omega | (simp only [World.size_alloc, World.size_setCell, World.size_drew]; omega) | (simp; omega) | (simp; done))), hc4⟩
end Go.Proofs.Yteafpfmndjeanaa
