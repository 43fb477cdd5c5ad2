/- QuarExpire, of the program. -/
import Derived.Test.YteafpfmndjeanaaQuarI
namespace Go.Proofs.Yteafpfmndjeanaa
open Go.ChangeShapes Go.WideShapes Go.ChangeAt Go.RowKit
set_option linter.unusedVariables false

def expN (p a : Int) : List St → Nat
  | [] => 0
  | x :: l => if a < p - x.2.2 then expN p a l + 1 else 0
theorem expN_le (p a : Int) (l : List St) : expN p a l ≤ l.length := by
  induction l with
  | nil => simp [expN]
  | cons x l ih => simp only [expN, List.length_cons]; split <;> omega
theorem expN_spec {p a : Int} : ∀ {l : List St} {k : Nat}, (∀ j (hj : j < l.length), j < k → a < p - l[j].2.2) → k ≤ l.length → (∀ h : k < l.length, ¬ a < p - l[k].2.2) → expN p a l = k
  | [], 0, _, _, _ => rfl
  | [], k + 1, _, h, _ => by simp at h
  | x :: l, 0, _, _, h => by have := h (by simp); simp only [List.getElem_cons_zero] at this; simp [expN, this]
  | x :: l, k + 1, h1, h2, h3 => by
    have h0 := h1 0 (by simp) (by omega)
    simp only [List.getElem_cons_zero] at h0
    have := expN_spec (l := l) (k := k) (fun j hj hk => h1 (j + 1) (by simpa using hj) (by omega)) (by simpa using h2) (fun h => h3 (by simpa using h))
    simp [expN, h0, this]
set_option maxHeartbeats 8000000 in
theorem quarExpire_i_no (r : Int) (A : Option Addr) (n c : Nat) (xs : List St) (p a : Int) (w : World) {B : Nat} (hr : Rd w B A (tv xs)) (hl : xs.length = n) (hn : n ≤ 1048576) (hcap : n ≤ c ∧ c ≤ maxLen) (hno : qOkB r xs = false ∨ btw p 0 1000000 = false ∨ btw a 0 1000000 = false) :
    Calls Try.prog 24 #[.agg #[.int .i64 r, .slice A n c], .int .i64 p, .int .i64 a] w (MadeAdd r xs [] w) := by
  subst hl
  obtain ⟨v1, hv1⟩ : ∃ v, qOkB r xs = v := ⟨_, rfl⟩
  obtain ⟨v2, hv2⟩ : ∃ v, btw p 0 1000000 = v := ⟨_, rfl⟩
  obtain ⟨v3, hv3⟩ : ∃ v, btw a 0 1000000 = v := ⟨_, rfl⟩
  rw [hv1, hv2, hv3] at hno
  go_enter Try.func24, Try.ntmps24
  go_wp2_with fail
  refine (copyQuar_any _ _ _ _ _ _ ((hr.alloc _).alloc _) rfl (by omega)).mono ?_
  rintro e u1 ⟨A', c', rfl, hO, hb1⟩
  replace hr := ((hr.alloc _).alloc _).below hb1
  have q0 : u1.cell? ⟨w.heap.size, 0, none⟩ = some (.int .i64 r) := keep hb1 (by simp [go_sem])
  have q1 : u1.cell? ⟨w.heap.size, 1, none⟩ = some (.slice A xs.length c) := keep hb1 (by simp [go_sem])
  have f0 : Cl u1 ⟨w.heap.size + 1, 0, none⟩ (.int .i64 0) := Cl.below (by constructor <;> simp [go_sem]) hb1
  have f1 : Cl u1 ⟨w.heap.size + 1, 1, none⟩ (.slice none 0 0) := Cl.below (by constructor <;> simp [go_sem]) hb1
  have hz1 := hb1.size
  try simp only [World.size_alloc, World.size_drew] at hz1
  have lq0 := lt_of_cell' q0
  have f0c := f0.1
  have f0f := f0.2
  have f1c := f1.1
  have f1f := f1.2
  obtain ⟨S, hW, hN⟩ := hO.wr.new (w.heap.size + 2) (fun b h => by have := h.1; simp only [World.size_alloc] at this; omega)
  go_wp2_with fail
  refine (quarOk_i _ _ _ _ _ _ v1 (hr.alloc _) rfl hn hcap hv1).mono ?_
  rintro e u2 ⟨rfl, hb2⟩
  clear lq0
  clear f0c f0f f1c f1f
  replace hr := (hr.alloc _).below hb2
  replace q0 := keep hb2 (cell_al q0 _)
  replace q1 := keep hb2 (cell_al q1 _)
  replace f0 := (f0.alloc _).below hb2
  replace f1 := (f1.alloc _).below hb2
  replace hW := (hW.alloc _).below hb2
  have o0 : u2.cell? ⟨u1.heap.size, 0, none⟩ = some (.int .i64 r) := keep hb2 (by simp [go_sem])
  have o1 : u2.cell? ⟨u1.heap.size, 1, none⟩ = some (.slice A' xs.length c') := keep hb2 (by simp [go_sem])
  have hz2 := hb2.size
  try simp only [World.size_alloc, World.size_drew] at hz2
  have lq0 := lt_of_cell' q0
  have lo0 := lt_of_cell' o0
  have f0c := f0.1
  have f0f := f0.2
  have f1c := f1.1
  have f1f := f1.2
  cases v1
  · go_wp2
    refine bodyPost_ret (v := .tuple #[.agg #[.int .i64 r, .slice A' xs.length c'], .slice none 0 0]) (by simp [results, Try.results24, go_sem, f0c, f1c]) rfl ⟨A', c', none, 0, S, fun _ => False, rfl, by (repeat' (first | (with_reducible exact hW) | (with_reducible refine Wr.setOut ?_ _ (fun h => by have := hN _ h; first | omega | (simp at this; omega))) | (with_reducible refine Wr.alloc ?_ _) | (with_reducible refine Wr.drewN ?_ _) | (with_reducible refine Wr.drew ?_))), .inl rfl, New.mk hN (by omega) (by simp; omega), fun _ h => h.elim, fun _ _ h => h, by (repeat' (first | (with_reducible exact Below.refl _ _) | (with_reducible refine bel_alloc ?_ ?_ _) | (with_reducible refine Below.setCell ?_ ?_ _) | (with_reducible refine below_drewN ?_ _) | (with_reducible refine Below.drew ?_) | (with_reducible refine bel_step hb1 ?_ ?_) | (with_reducible refine bel_step hb2 ?_ ?_) | (with_reducible exact Nat.le_refl _) | (with_reducible assumption) | omega | (simp only [World.size_alloc, World.size_setCell, World.size_drew]; omega) | (simp; omega) | (simp; done)))⟩
  go_wp2_with fail
  refine (between_b _ _ _ _ hv2).mono ?_
  rintro e u3 ⟨rfl, hb3⟩
  clear lq0 lo0
  clear f0c f0f f1c f1f
  replace hr := hr.below hb3
  replace q0 := keep hb3 q0
  replace q1 := keep hb3 q1
  replace f0 := f0.below hb3
  replace f1 := f1.below hb3
  replace hW := hW.below hb3
  replace o0 := keep hb3 o0
  replace o1 := keep hb3 o1
  have hz3 := hb3.size
  try simp only [World.size_alloc, World.size_drew] at hz3
  have lq0 := lt_of_cell' q0
  have lo0 := lt_of_cell' o0
  have f0c := f0.1
  have f0f := f0.2
  have f1c := f1.1
  have f1f := f1.2
  cases v2
  · go_wp2
    refine bodyPost_ret (v := .tuple #[.agg #[.int .i64 r, .slice A' xs.length c'], .slice none 0 0]) (by simp [results, Try.results24, go_sem, f0c, f1c]) rfl ⟨A', c', none, 0, S, fun _ => False, rfl, by (repeat' (first | (with_reducible exact hW) | (with_reducible refine Wr.setOut ?_ _ (fun h => by have := hN _ h; first | omega | (simp at this; omega))) | (with_reducible refine Wr.alloc ?_ _) | (with_reducible refine Wr.drewN ?_ _) | (with_reducible refine Wr.drew ?_))), .inl rfl, New.mk hN (by omega) (by simp; omega), fun _ h => h.elim, fun _ _ h => h, by (repeat' (first | (with_reducible exact Below.refl _ _) | (with_reducible refine bel_alloc ?_ ?_ _) | (with_reducible refine Below.setCell ?_ ?_ _) | (with_reducible refine below_drewN ?_ _) | (with_reducible refine Below.drew ?_) | (with_reducible refine bel_step hb1 ?_ ?_) | (with_reducible refine bel_step hb2 ?_ ?_) | (with_reducible refine bel_step hb3 ?_ ?_) | (with_reducible exact Nat.le_refl _) | (with_reducible assumption) | omega | (simp only [World.size_alloc, World.size_setCell, World.size_drew]; omega) | (simp; omega) | (simp; done)))⟩
  go_wp2_with fail
  refine (between_b _ _ _ _ hv3).mono ?_
  rintro e u4 ⟨rfl, hb4⟩
  clear lq0 lo0
  clear f0c f0f f1c f1f
  replace hr := hr.below hb4
  replace q0 := keep hb4 q0
  replace q1 := keep hb4 q1
  replace f0 := f0.below hb4
  replace f1 := f1.below hb4
  replace hW := hW.below hb4
  replace o0 := keep hb4 o0
  replace o1 := keep hb4 o1
  have hz4 := hb4.size
  try simp only [World.size_alloc, World.size_drew] at hz4
  have lq0 := lt_of_cell' q0
  have lo0 := lt_of_cell' o0
  have f0c := f0.1
  have f0f := f0.2
  have f1c := f1.1
  have f1f := f1.2
  cases v3
  · go_wp2
    refine bodyPost_ret (v := .tuple #[.agg #[.int .i64 r, .slice A' xs.length c'], .slice none 0 0]) (by simp [results, Try.results24, go_sem, f0c, f1c]) rfl ⟨A', c', none, 0, S, fun _ => False, rfl, by (repeat' (first | (with_reducible exact hW) | (with_reducible refine Wr.setOut ?_ _ (fun h => by have := hN _ h; first | omega | (simp at this; omega))) | (with_reducible refine Wr.alloc ?_ _) | (with_reducible refine Wr.drewN ?_ _) | (with_reducible refine Wr.drew ?_))), .inl rfl, New.mk hN (by omega) (by simp; omega), fun _ h => h.elim, fun _ _ h => h, by (repeat' (first | (with_reducible exact Below.refl _ _) | (with_reducible refine bel_alloc ?_ ?_ _) | (with_reducible refine Below.setCell ?_ ?_ _) | (with_reducible refine below_drewN ?_ _) | (with_reducible refine Below.drew ?_) | (with_reducible refine bel_step hb1 ?_ ?_) | (with_reducible refine bel_step hb2 ?_ ?_) | (with_reducible refine bel_step hb3 ?_ ?_) | (with_reducible refine bel_step hb4 ?_ ?_) | (with_reducible exact Nat.le_refl _) | (with_reducible assumption) | omega | (simp only [World.size_alloc, World.size_setCell, World.size_drew]; omega) | (simp; omega) | (simp; done)))⟩
  simp at hno
set_option maxHeartbeats 8000000 in
theorem quarExpire_i_yes (r : Int) (A : Option Addr) (n c : Nat) (xs : List St) (p a : Int) (w : World) {B : Nat} (hr : Rd w B A (tv xs)) (hl : xs.length = n) (hn : n ≤ 1048576) (hcap : n ≤ c ∧ c ≤ maxLen) (hq : qOkB r xs = true) (hp : btw p 0 1000000 = true) (ha : btw a 0 1000000 = true) (hbd : ∀ x ∈ xs, 0 ≤ x.2.2 ∧ x.2.2 ≤ 9223372036854775807) (ys zs : List St) (hys : ys = xs.drop (expN p a xs)) (hzs : zs = xs.take (expN p a xs)) :
    Calls Try.prog 24 #[.agg #[.int .i64 r, .slice A n c], .int .i64 p, .int .i64 a] w (MadeAddC r ys zs w) := by
  subst hl
  have HYS := Lib.hid hys
  have HZS := Lib.hid hzs
  have HBD := Lib.hid hbd
  have hp1 := of_btw hp
  have ha1 := of_btw ha
  clear hys hzs hbd
  go_enter Try.func24, Try.ntmps24
  go_wp2_with fail
  refine (copyQuar_any _ _ _ _ _ _ ((hr.alloc _).alloc _) rfl (by omega)).mono ?_
  rintro e u1 ⟨A2, c2, rfl, hO, hb1⟩
  replace hr := ((hr.alloc _).alloc _).below hb1
  have q0 : u1.cell? ⟨w.heap.size, 0, none⟩ = some (.int .i64 r) := keep hb1 (by simp [go_sem])
  have q1 : u1.cell? ⟨w.heap.size, 1, none⟩ = some (.slice A xs.length c) := keep hb1 (by simp [go_sem])
  have f0 : Cl u1 ⟨w.heap.size + 1, 0, none⟩ (.int .i64 0) := Cl.below (by constructor <;> simp [go_sem]) hb1
  have f1 : Cl u1 ⟨w.heap.size + 1, 1, none⟩ (.slice none 0 0) := Cl.below (by constructor <;> simp [go_sem]) hb1
  have hz1 := hb1.size
  try simp only [World.size_alloc, World.size_drew] at hz1
  have lq0 := lt_of_cell' q0
  have f0c := f0.1
  have f0f := f0.2
  have f1c := f1.1
  have f1f := f1.2
  have hcap2 := hO.cap
  obtain ⟨S2, hW2, hN2⟩ := hO.wr.new (w.heap.size + 2) (fun b h => by have := h.1; simp only [World.size_alloc] at this; omega)
  go_wp2_with fail
  refine (quarOk_i _ _ _ _ _ _ true (hr.alloc _) rfl hn hcap hq).mono ?_
  rintro e u2 ⟨rfl, hb2⟩
  clear lq0
  clear f0c f0f f1c f1f
  replace hr := (hr.alloc _).below hb2
  replace q0 := keep hb2 (cell_al q0 _)
  replace q1 := keep hb2 (cell_al q1 _)
  replace f0 := (f0.alloc _).below hb2
  replace f1 := (f1.alloc _).below hb2
  replace hW2 := (hW2.alloc _).below hb2
  have o0 : Cl u2 ⟨u1.heap.size, 0, none⟩ (.int .i64 r) := Cl.below (by constructor <;> simp [go_sem]) hb2
  have o1 : Cl u2 ⟨u1.heap.size, 1, none⟩ (.slice A2 xs.length c2) := Cl.below (by constructor <;> simp [go_sem]) hb2
  have hz2 := hb2.size
  try simp only [World.size_alloc, World.size_drew] at hz2
  have lq0 := lt_of_cell' q0
  have f0c := f0.1
  have f0f := f0.2
  have f1c := f1.1
  have f1f := f1.2
  have o0c := o0.1
  have o0f := o0.2
  have o1c := o1.1
  have o1f := o1.2
  go_wp2_with fail
  refine (between_b _ _ _ _ hp).mono ?_
  rintro e u3 ⟨rfl, hb3⟩
  clear lq0
  clear f0c f0f f1c f1f o0c o0f o1c o1f
  replace hr := hr.below hb3
  replace q0 := keep hb3 q0
  replace q1 := keep hb3 q1
  replace f0 := f0.below hb3
  replace f1 := f1.below hb3
  replace hW2 := hW2.below hb3
  replace o0 := o0.below hb3
  replace o1 := o1.below hb3
  have hz3 := hb3.size
  try simp only [World.size_alloc, World.size_drew] at hz3
  have lq0 := lt_of_cell' q0
  have f0c := f0.1
  have f0f := f0.2
  have f1c := f1.1
  have f1f := f1.2
  have o0c := o0.1
  have o0f := o0.2
  have o1c := o1.1
  have o1f := o1.2
  go_wp2_with fail
  refine (between_b _ _ _ _ ha).mono ?_
  rintro e u4 ⟨rfl, hb4⟩
  clear lq0
  clear f0c f0f f1c f1f o0c o0f o1c o1f
  replace hr := hr.below hb4
  replace q0 := keep hb4 q0
  replace q1 := keep hb4 q1
  replace f0 := f0.below hb4
  replace f1 := f1.below hb4
  replace hW2 := hW2.below hb4
  replace o0 := o0.below hb4
  replace o1 := o1.below hb4
  have hz4 := hb4.size
  try simp only [World.size_alloc, World.size_drew] at hz4
  have lq0 := lt_of_cell' q0
  have f0c := f0.1
  have f0f := f0.2
  have f1c := f1.1
  have f1f := f1.2
  have o0c := o0.1
  have o0f := o0.2
  have o1c := o1.1
  have o1f := o1.2
  clear hq hp ha
  go_wp2
  have hbW : Below w.heap.size w u4 := by (repeat' (first | (with_reducible exact Below.refl _ _) | (with_reducible refine bel_alloc ?_ ?_ _) | (with_reducible refine Below.setCell ?_ ?_ _) | (with_reducible refine below_drewN ?_ _) | (with_reducible refine Below.drew ?_) | (with_reducible refine bel_step hb1 ?_ ?_) | (with_reducible refine bel_step hb2 ?_ ?_) | (with_reducible refine bel_step hb3 ?_ ?_) | (with_reducible refine bel_step hb4 ?_ ?_) | (with_reducible exact Nat.le_refl _) | (with_reducible assumption) | omega | (simp only [World.size_alloc, World.size_setCell, World.size_drew]; omega) | (simp; omega) | (simp; done)))
  have hz5 : u1.heap.size < u4.heap.size := lt_of_cell' o0.1
  clear f0c f0f f1c f1f o0c o0f o1c o1f lq0 q0 hb1 hb2 hb3 hb4
  go_loop [9] (fun v => ∃ k : Nat, k ≤ xs.length ∧ v = .int .i64 k ∧ (∀ j (hj : j < xs.length), j < k → a < p - xs[j].2.2)) (fun v => xs.length - (intOf v).toNat)
  case atStart => exact ⟨0, Nat.zero_le _, rfl, fun j _ hj => absurd hj (by omega)⟩
  case round =>
    obtain ⟨k, hk, rfl, hj⟩ := hrel
    have HJ := Lib.hid hj
    clear hj
    have i0 : (0 : Int) ≤ (k : Int) := by omega
    have i1 : (k : Int) ≤ (xs.length : Int) := by omega
    by_cases hkn : k < xs.length
    · obtain ⟨b1, off1, rfl, -, hc0, hc1, hc2⟩ := hr.trip hkn
      have hlb := lt_of_cell' hc0
      obtain ⟨t, ht⟩ : ∃ t, t = xs[k].2.2 := ⟨_, rfl⟩
      have htb : 0 ≤ t ∧ t ≤ 9223372036854775807 := by rw [ht]; exact HBD.out _ (List.getElem_mem hkn)
      rw [← ht] at hc2
      have HT := Lib.hid ht
      clear ht hc0 hc1
      by_cases hgt : a < p - t
      · go_wp2
        go_round
        case rel =>
          refine ⟨k + 1, by omega, by go_num, fun j hj hk => ?_⟩
          by_cases e : j = k
          · subst e; rw [← HT.out]; exact hgt
          · exact HJ.out j hj (by omega)
        case measure => simp [intOf]; omega
      · have hkk : expN p a xs = k := expN_spec HJ.out hk (fun _ => by rw [← HT.out]; exact hgt)
        have hys : ys = xs.drop k := by rw [HYS.out, hkk]
        have hzs : zs = xs.take k := by rw [HZS.out, hkk]
        have hck : ¬ c2 = k := by omega
        obtain ⟨g, off, rfl⟩ : ∃ g off, A2 = some ⟨g, off, none⟩ := by
          rcases hW2 with h | ⟨b, off, h, _⟩
          · have := tv_length xs; rw [h] at this; simp at this; omega
          · exact ⟨b, off, h⟩
        have hrd := hW2.rd
        rw [tv_take xs k] at hrd
        replace hrd := hrd.post
        have htk : (tv (xs.take k)).length = k * 3 := by rw [tv_length, List.length_take, Nat.min_eq_left (by omega)]
        rw [htk] at hrd
        have hly := Lib.hid (show ys.length = xs.length - k by rw [hys, List.length_drop])
        have hlz := Lib.hid (show zs.length = k by rw [hzs, List.length_take]; omega)
        have hrz := hW2.rd
        rw [tv_take xs k] at hrz
        replace hrz := hrz.pre
        rw [← hzs] at hrz
        rw [← hys] at hrd
        clear hkk hys hzs htk
        have o0c := o0.1
        have o1c := o1.1
        have o1f := o1.2
        have f0c := f0.1
        have f0f := f0.2
        have f1c := f1.1
        have f1f := f1.2
        have l0 := lt_of_cell' f0c
        go_wp2_with fail
        refine (clone_any _ _ _ zs _ hrz hlz.out (by omega)).mono ?_
        rintro e v1 ⟨A3, c3, S3, rfl, hc3, hW3, hN3, hbv1⟩
        have hzv1 := hbv1.size
        clear o0c o1c o1f f0c f0f f1c f1f l0
        replace o0 := o0.below hbv1
        replace o1 := o1.below hbv1
        replace f0 := f0.below hbv1
        replace f1 := f1.below hbv1
        have o0c := o0.1
        have o1c := o1.1
        have o1f := o1.2
        have f0c := f0.1
        have f0f := f0.2
        have f1c := f1.1
        have f1f := f1.2
        have l0 := lt_of_cell' f0c
        go_wp2_with fail
        refine (clone_any _ _ _ ys _ (hrd.below hbv1) hly.out (by omega)).mono ?_
        rintro e v2 ⟨A4, c4, S4, rfl, hc4, hW4, hN4, hbv2⟩
        have hzv2 := hbv2.size
        clear o0c o1c o1f f0c f0f f1c f1f l0
        replace o0 := o0.below hbv2
        replace o1 := o1.below hbv2
        replace f0 := f0.below hbv2
        replace f1 := f1.below hbv2
        replace hW3 := hW3.below hbv2
        have o0c := o0.1
        have o0f := o0.2
        have o1c := o1.1
        have o1f := o1.2
        have f0c := f0.1
        have f0f := f0.2
        have f1c := f1.1
        have f1f := f1.2
        have l0 := lt_of_cell' f0c
        have hne1 : u1.heap.size ≠ w.heap.size + 1 := by omega
        go_wp2
        have hzW := hbW.size
        have hX3 : ∀ b, S3 b → u4.heap.size ≤ b ∧ b < v1.heap.size := hN3
        have hX4 : ∀ b, S4 b → v1.heap.size ≤ b ∧ b < v2.heap.size := hN4
        refine bodyPost_ret (v := .tuple #[.agg #[.int .i64 r, .slice A4 ys.length c4], .slice A3 zs.length c3]) (by simp [results, Try.results24, go_sem, f0c, f1c, hne1]) rfl ⟨A4, c4, A3, c3, S4, S3, rfl, by (repeat' (first | (with_reducible exact hW4) | (with_reducible refine Wr.setOut ?_ _ (fun h => by have := hX4 _ h; first | omega | (simp at this; omega))) | (with_reducible refine Wr.alloc ?_ _) | (with_reducible refine Wr.drewN ?_ _) | (with_reducible refine Wr.drew ?_))), by (repeat' (first | (with_reducible exact hW3) | (with_reducible refine Wr.setOut ?_ _ (fun h => by have := hX3 _ h; first | omega | (simp at this; omega))) | (with_reducible refine Wr.alloc ?_ _) | (with_reducible refine Wr.drewN ?_ _) | (with_reducible refine Wr.drew ?_))), New.mk hX4 (by omega) (by simp), New.mk hX3 (by omega) (by simp; omega), fun b h4 h3 => by have := hX4 b h4; have := hX3 b h3; omega, by (repeat' (first | (with_reducible exact Below.refl _ _) | (with_reducible refine bel_alloc ?_ ?_ _) | (with_reducible refine Below.setCell ?_ ?_ _) | (with_reducible refine below_drewN ?_ _) | (with_reducible refine Below.drew ?_) | (with_reducible refine bel_step hbW ?_ ?_) | (with_reducible refine bel_step hbv1 ?_ ?_) | (with_reducible refine bel_step hbv2 ?_ ?_) | (with_reducible exact Nat.le_refl _) | (with_reducible assumption) | omega | (simp only [World.size_alloc, World.size_setCell, World.size_drew]; omega) | (simp; omega) | (simp; done))), hc4⟩
    · obtain rfl : k = xs.length := by omega
      have hkk : expN p a xs = xs.length := expN_spec HJ.out (Nat.le_refl _) (fun h => absurd h (by omega))
      have hys : ys = [] := by rw [HYS.out, hkk, List.drop_of_length_le (by omega)]
      have hzs : zs = xs := by rw [HZS.out, hkk, List.take_of_length_le (by omega)]
      have hrz := hW2.rd
      rw [← hzs] at hrz
      have hlz := Lib.hid (show zs.length = xs.length by rw [hzs])
      have hly := Lib.hid (show ys.length = 0 by rw [hys]; rfl)
      have hry := fun (W : World) (D : Option Addr) => (show Rd W 0 D (tv ys) by rw [hys]; exact .inl rfl)
      have HRY := Lib.hid hry
      clear hkk hys hzs hry
      by_cases hck : c2 = xs.length
      all_goals
        have o0c := o0.1
        have o1c := o1.1
        have o1f := o1.2
        have f0c := f0.1
        have f0f := f0.2
        have f1c := f1.1
        have f1f := f1.2
        have l0 := lt_of_cell' f0c
        go_wp2_with fail
        refine (clone_any _ _ _ zs _ hrz hlz.out (by omega)).mono ?_
        rintro e v1 ⟨A3, c3, S3, rfl, hc3, hW3, hN3, hbv1⟩
        have hzv1 := hbv1.size
        clear o0c o1c o1f f0c f0f f1c f1f l0
        replace o0 := o0.below hbv1
        replace o1 := o1.below hbv1
        replace f0 := f0.below hbv1
        replace f1 := f1.below hbv1
        have o0c := o0.1
        have o1c := o1.1
        have o1f := o1.2
        have f0c := f0.1
        have f0f := f0.2
        have f1c := f1.1
        have f1f := f1.2
        have l0 := lt_of_cell' f0c
        go_wp2_with fail
        refine (clone_any _ _ _ ys _ (HRY.out _ _) hly.out (by omega)).mono ?_
        rintro e v2 ⟨A4, c4, S4, rfl, hc4, hW4, hN4, hbv2⟩
        have hzv2 := hbv2.size
        clear o0c o1c o1f f0c f0f f1c f1f l0
        replace o0 := o0.below hbv2
        replace o1 := o1.below hbv2
        replace f0 := f0.below hbv2
        replace f1 := f1.below hbv2
        replace hW3 := hW3.below hbv2
        have o0c := o0.1
        have o0f := o0.2
        have o1c := o1.1
        have o1f := o1.2
        have f0c := f0.1
        have f0f := f0.2
        have f1c := f1.1
        have f1f := f1.2
        have l0 := lt_of_cell' f0c
        have hne1 : u1.heap.size ≠ w.heap.size + 1 := by omega
        go_wp2
        have hzW := hbW.size
        have hX3 : ∀ b, S3 b → u4.heap.size ≤ b ∧ b < v1.heap.size := hN3
        have hX4 : ∀ b, S4 b → v1.heap.size ≤ b ∧ b < v2.heap.size := hN4
        refine bodyPost_ret (v := .tuple #[.agg #[.int .i64 r, .slice A4 ys.length c4], .slice A3 zs.length c3]) (by simp [results, Try.results24, go_sem, f0c, f1c, hne1]) rfl ⟨A4, c4, A3, c3, S4, S3, rfl, by (repeat' (first | (with_reducible exact hW4) | (with_reducible refine Wr.setOut ?_ _ (fun h => by have := hX4 _ h; first | omega | (simp at this; omega))) | (with_reducible refine Wr.alloc ?_ _) | (with_reducible refine Wr.drewN ?_ _) | (with_reducible refine Wr.drew ?_))), by (repeat' (first | (with_reducible exact hW3) | (with_reducible refine Wr.setOut ?_ _ (fun h => by have := hX3 _ h; first | omega | (simp at this; omega))) | (with_reducible refine Wr.alloc ?_ _) | (with_reducible refine Wr.drewN ?_ _) | (with_reducible refine Wr.drew ?_))), New.mk hX4 (by omega) (by simp), New.mk hX3 (by omega) (by simp; omega), fun b h4 h3 => by have := hX4 b h4; have := hX3 b h3; omega, by (repeat' (first | (with_reducible exact Below.refl _ _) | (with_reducible refine bel_alloc ?_ ?_ _) | (with_reducible refine Below.setCell ?_ ?_ _) | (with_reducible refine below_drewN ?_ _) | (with_reducible refine Below.drew ?_) | (with_reducible refine bel_step hbW ?_ ?_) | (with_reducible refine bel_step hbv1 ?_ ?_) | (with_reducible refine bel_step hbv2 ?_ ?_) | (with_reducible exact Nat.le_refl _) | (with_reducible assumption) | omega | (simp only [World.size_alloc, World.size_setCell, World.size_drew]; omega) | (simp; omega) | (simp; done))), hc4⟩
end Go.Proofs.Yteafpfmndjeanaa
