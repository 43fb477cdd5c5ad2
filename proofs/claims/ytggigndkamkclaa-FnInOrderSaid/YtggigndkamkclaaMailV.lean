/- FnInOrder, the plain law: posts of two senders to one thread. -/
import Derived.Test.YtggigndkamkclaaMailQiy
import Derived.Test.YtggigndkamkclaaMailKiy
import Derived.Test.YtggigndkamkclaaMailJi
import Derived.Test.YtggigndkamkclaaMailN
namespace Go.Proofs.Ytggigndkamkclaa
open Go.ChangeShapes Go.WideShapes Go.ChangeAt Go.RowKit
set_option linter.unusedVariables false
set_option linter.unusedSimpArgs false

structure Q3 (n : Nat) (b0 b1 : List Po) (L : List Int) : Prop where
  to0 : ∀ x ∈ b0, x.1 = 2 ∧ 0 ≤ x.2 ∧ x.2 < n
  to1 : ∀ x ∈ b1, x.1 = 2 ∧ 10 ≤ x.2 ∧ x.2 < 10 + n
  rng : ∀ x ∈ L, (0 ≤ x ∧ x < n) ∨ (10 ≤ x ∧ x < 10 + n)
  inc0 : b0.Pairwise (fun x y => x.2 < y.2)
  inc1 : b1.Pairwise (fun x y => x.2 < y.2)
  incL : L.Pairwise (fun x y => (x < 10 ↔ y < 10) → x < y)
  lo0 : ∀ x ∈ L, x < 10 → ∀ y ∈ b0, x < y.2
  lo1 : ∀ x ∈ L, 10 ≤ x → ∀ y ∈ b1, x < y.2
  tot : b0.length + b1.length + L.length = n
  n6 : n ≤ 6
theorem Q3.nil : Q3 0 [] [] [] := ⟨by simp, by simp, by simp, .nil, .nil, .nil, by simp, by simp, rfl, by omega⟩
theorem pw_snoc {α : Type} {R : α → α → Prop} {l : List α} {x : α} (h : l.Pairwise R) (hx : ∀ y ∈ l, R y x) : (l ++ [x]).Pairwise R :=
  List.pairwise_append.2 ⟨h, List.pairwise_singleton _ _, fun a ha b hb => by simp at hb; rw [hb]; exact hx a ha⟩
theorem Q3.send0 {n : Nat} {b0 b1 : List Po} {L : List Int} (h : Q3 n b0 b1 L) (hn : n < 6) : Q3 (n + 1) (b0 ++ [(2, (n : Int))]) b1 L := by
  refine ⟨fun x hx => ?_, fun x hx => ?_, fun x hx => ?_, pw_snoc h.inc0 fun y hy => (h.to0 y hy).2.2, h.inc1, h.incL, fun x hx hl y hy => ?_, h.lo1, by have := h.tot; simp; omega, by omega⟩
  · rcases List.mem_append.1 hx with hx | hx
    · have := h.to0 x hx; exact ⟨this.1, this.2.1, by omega⟩
    · simp at hx; subst hx; exact ⟨rfl, by simp only; omega, by simp only; omega⟩
  · have := h.to1 x hx; exact ⟨this.1, this.2.1, by omega⟩
  · have := h.rng x hx; omega
  · rcases List.mem_append.1 hy with hy | hy
    · exact h.lo0 x hx hl y hy
    · simp at hy; subst hy; have := h.rng x hx; simp only; omega
theorem Q3.send1 {n : Nat} {b0 b1 : List Po} {L : List Int} (h : Q3 n b0 b1 L) (hn : n < 6) : Q3 (n + 1) b0 (b1 ++ [(2, 10 + (n : Int))]) L := by
  refine ⟨fun x hx => ?_, fun x hx => ?_, fun x hx => ?_, h.inc0, pw_snoc h.inc1 fun y hy => (h.to1 y hy).2.2, h.incL, h.lo0, fun x hx hl y hy => ?_, by have := h.tot; simp; omega, by omega⟩
  · have := h.to0 x hx; exact ⟨this.1, this.2.1, by omega⟩
  · rcases List.mem_append.1 hx with hx | hx
    · have := h.to1 x hx; exact ⟨this.1, this.2.1, by omega⟩
    · simp at hx; subst hx; exact ⟨rfl, by simp only; omega, by simp only; omega⟩
  · have := h.rng x hx; omega
  · rcases List.mem_append.1 hy with hy | hy
    · exact h.lo1 x hx hl y hy
    · simp at hy; subst hy; have := h.rng x hx; simp only; omega
theorem Q3.del0 {n : Nat} {p : Po} {r b1 : List Po} {L : List Int} (h : Q3 n (p :: r) b1 L) : Q3 n r b1 (L ++ [p.2]) := by
  have hp := h.to0 p (by simp)
  have n6 := h.n6
  have hi := List.pairwise_cons.1 h.inc0
  refine ⟨fun x hx => h.to0 x (by simp [hx]), h.to1, fun x hx => ?_, hi.2, h.inc1, pw_snoc h.incL fun y hy he => ?_, fun x hx hl y hy => ?_, fun x hx hl y hy => ?_, by have := h.tot; simp at *; omega, h.n6⟩
  · rcases List.mem_append.1 hx with hx | hx
    · exact h.rng x hx
    · simp at hx; omega
  · exact h.lo0 y hy (by omega) p (by simp)
  · rcases List.mem_append.1 hx with hx | hx
    · exact h.lo0 x hx hl y (by simp [hy])
    · simp at hx; subst hx; exact hi.1 y hy
  · rcases List.mem_append.1 hx with hx | hx
    · exact h.lo1 x hx hl y hy
    · simp at hx; omega
theorem Q3.del1 {n : Nat} {p : Po} {r b0 : List Po} {L : List Int} (h : Q3 n b0 (p :: r) L) : Q3 n b0 r (L ++ [p.2]) := by
  have hp := h.to1 p (by simp)
  have n6 := h.n6
  have hi := List.pairwise_cons.1 h.inc1
  refine ⟨h.to0, fun x hx => h.to1 x (by simp [hx]), fun x hx => ?_, h.inc0, hi.2, pw_snoc h.incL fun y hy he => ?_, fun x hx hl y hy => ?_, fun x hx hl y hy => ?_, by have := h.tot; simp at *; omega, h.n6⟩
  · rcases List.mem_append.1 hx with hx | hx
    · exact h.rng x hx
    · simp at hx; omega
  · exact h.lo1 y hy (by omega) p (by simp)
  · rcases List.mem_append.1 hx with hx | hx
    · exact h.lo0 x hx hl y hy
    · simp at hx; omega
  · rcases List.mem_append.1 hx with hx | hx
    · exact h.lo1 x hx hl y (by simp [hy])
    · simp at hx; subst hx; exact hi.1 y hy
abbrev xs3 (b0 b1 : List Po) : List (List Po) := [b0, b1, []]
abbrev ys3 (L : List Int) : List (List Int) := [[], [], L]
theorem Q3.ok {n : Nat} {b0 b1 : List Po} {L : List Int} (h : Q3 n b0 b1 L) : mOkB (xs3 b0 b1) (ys3 L) = true := by
  have h0 : b0.all (pOk 3) = true := by
    rw [List.all_eq_true]
    intro x hx
    have := h.to0 x hx
    simp only [pOk, Bool.and_eq_true, decide_eq_true_eq]
    exact ⟨btw_t (by omega) (by omega), this.2.1⟩
  have h1 : b1.all (pOk 3) = true := by
    rw [List.all_eq_true]
    intro x hx
    have := h.to1 x hx
    simp only [pOk, Bool.and_eq_true, decide_eq_true_eq]
    exact ⟨btw_t (by omega) (by omega), by omega⟩
  have h2 : L.all (fun y => decide (0 ≤ y)) = true := by
    rw [List.all_eq_true]
    intro x hx
    have := h.rng x hx
    simp; omega
  have ht := h.tot
  have n6 := h.n6
  have hr : List.range 3 = [0, 1, 2] := rfl
  simp only [mOkB, List.length_cons, List.length_nil, Nat.zero_add, hr, List.all_cons, List.all_nil, mRow, List.getD_cons_zero, List.getD_cons_succ, h0, h1, h2, Go.Proofs.Ytggigndkamkclaa.tot, List.map_cons, List.map_nil, List.sum_cons, List.sum_nil, Bool.and_true, Bool.true_and]
  simp only [Bool.and_eq_true, decide_eq_true_eq]
  exact ⟨by decide, by omega⟩
theorem Q3.rows {n : Nat} {b0 b1 : List Po} {L : List Int} (h : Q3 n b0 b1 L) : Rows (xs3 b0 b1) ∧ Rows (ys3 L) := by
  have ht := h.tot
  have n6 := h.n6
  refine ⟨⟨by simp, fun l hl => ?_⟩, ⟨by simp, fun l hl => ?_⟩⟩
  · simp at hl; rcases hl with rfl | rfl | rfl
    · omega
    · omega
    · simp
  · simp at hl; rcases hl with rfl | rfl
    · simp
    · omega
theorem Q3.has {n : Nat} {b0 b1 : List Po} {L : List Int} (h : Q3 n b0 b1 L) {k : Nat} (hk : k < 3) : hasTh (xs3 b0 b1) (ys3 L) (k : Int) = true := by
  simp only [hasTh, h.ok, Bool.and_true]
  exact btw_t (by omega) (by simp; omega)
def M3 (b0 b1 : List Po) (L : List Int) (ok : Bool) (w : World) (e : Ending) (w' : World) : Prop :=
  ∃ A c B d S T, e = .returned (.tuple #[.agg #[.slice A 3 c, .slice B 3 d], .bool ok]) ∧ Wr2 pv w' S A (xs3 b0 b1) ∧ Wr2 iv w' T B (ys3 L) ∧ New S w w' ∧ New T w w' ∧ Below w.heap.size w w'
theorem M3.of {b0 b1 : List Po} {L : List Int} {ok : Bool} {w w' : World} {e : Ending} (h : MadeMB (xs3 b0 b1) (ys3 L) ok w e w') : M3 b0 b1 L ok w e w' := by
  obtain ⟨A, c, B, d, S, T, he, h1, h2, h3, h4, _, h5⟩ := h
  exact ⟨A, c, B, d, S, T, he, h1, h2, h3, h4, h5⟩
theorem send3_0 {n : Nat} {b0 b1 : List Po} {L : List Int} (h : Q3 n b0 b1 L) (A : Option Addr) (c : Nat) (B : Option Addr) (d : Nat) (W : World) {B1 B2 : Nat} (hr : Rd2 pv W B1 A (xs3 b0 b1)) (hs : Rd2 iv W B2 B (ys3 L)) (hn : n < 6) : Calls Try.prog 14 #[.agg #[.slice A 3 c, .slice B 3 d], .int .i64 0, .agg #[.int .i64 2, .int .i64 (n : Int)]] W (M3 (b0 ++ [(2, (n : Int))]) b1 L true W) :=
  (send_i_yes A c B d (xs3 b0 b1) (ys3 L) 0 b0 2 (n : Int) _ W hr hs h.rows (h.has (by omega)) (by simp) rfl (by have := h.tot; have := h.n6; omega) rfl (h.send0 hn).ok).mono fun _ _ hm => M3.of hm
theorem send3_1 {n : Nat} {b0 b1 : List Po} {L : List Int} (h : Q3 n b0 b1 L) (A : Option Addr) (c : Nat) (B : Option Addr) (d : Nat) (W : World) {B1 B2 : Nat} (hr : Rd2 pv W B1 A (xs3 b0 b1)) (hs : Rd2 iv W B2 B (ys3 L)) (hn : n < 6) : Calls Try.prog 14 #[.agg #[.slice A 3 c, .slice B 3 d], .int .i64 1, .agg #[.int .i64 2, .int .i64 (10 + (n : Int))]] W (M3 b0 (b1 ++ [(2, 10 + (n : Int))]) L true W) :=
  (send_i_yes A c B d (xs3 b0 b1) (ys3 L) 1 b1 2 (10 + (n : Int)) _ W hr hs h.rows (h.has (by omega)) (by simp) rfl (by have := h.tot; have := h.n6; omega) rfl (h.send1 hn).ok).mono fun _ _ hm => M3.of hm
def D3 (n l0 l1 : Nat) (w : World) (e : Ending) (w' : World) : Prop := ∃ b0 b1 L ok, Q3 n b0 b1 L ∧ b0.length = l0 ∧ b1.length = l1 ∧ M3 b0 b1 L ok w e w'
theorem deliver3_0 {n : Nat} {b0 b1 : List Po} {L : List Int} (h : Q3 n b0 b1 L) (A : Option Addr) (c : Nat) (B : Option Addr) (d : Nat) (W : World) {B1 B2 : Nat} (hr : Rd2 pv W B1 A (xs3 b0 b1)) (hs : Rd2 iv W B2 B (ys3 L)) : Calls Try.prog 15 #[.agg #[.slice A 3 c, .slice B 3 d], .int .i64 0] W (D3 n (b0.length - 1) b1.length W) := by
  match b0, h, hr with
  | [], h, hr => exact (deliver_i_no2 A c B d (xs3 [] b1) (ys3 L) 0 W hr hs h.rows (h.has (by omega)) (by simp) rfl).mono fun _ _ hm => ⟨[], b1, L, false, h, rfl, rfl, M3.of hm⟩
  | p :: r, h, hr =>
    have hp := h.to0 p (by simp)
    have hL : L.length ≤ 30 := by have := h.tot; have := h.n6; omega
    have h0 : (p :: r)[0]? = some (((2 : Nat) : Int), p.2) := by
      simp only [List.getElem?_cons_zero, Option.some.injEq]
      exact Prod.ext hp.1 rfl
    exact (deliver_i_yes A c B d (xs3 (p :: r) b1) (ys3 L) 0 2 r.length (p :: r) p.2 L W hr hs h.rows (h.has (by omega)) (by simp) rfl rfl h0 (by simp) rfl hL).mono fun _ _ hm => ⟨r, b1, L ++ [p.2], true, h.del0, rfl, rfl, M3.of hm⟩
theorem deliver3_1 {n : Nat} {b0 b1 : List Po} {L : List Int} (h : Q3 n b0 b1 L) (A : Option Addr) (c : Nat) (B : Option Addr) (d : Nat) (W : World) {B1 B2 : Nat} (hr : Rd2 pv W B1 A (xs3 b0 b1)) (hs : Rd2 iv W B2 B (ys3 L)) : Calls Try.prog 15 #[.agg #[.slice A 3 c, .slice B 3 d], .int .i64 1] W (D3 n b0.length (b1.length - 1) W) := by
  match b1, h, hr with
  | [], h, hr => exact (deliver_i_no2 A c B d (xs3 b0 []) (ys3 L) 1 W hr hs h.rows (h.has (by omega)) (by simp) rfl).mono fun _ _ hm => ⟨b0, [], L, false, h, rfl, rfl, M3.of hm⟩
  | p :: r, h, hr =>
    have hp := h.to1 p (by simp)
    have hL : L.length ≤ 30 := by have := h.tot; have := h.n6; omega
    have h0 : (p :: r)[0]? = some (((2 : Nat) : Int), p.2) := by
      simp only [List.getElem?_cons_zero, Option.some.injEq]
      exact Prod.ext hp.1 rfl
    exact (deliver_i_yes A c B d (xs3 b0 (p :: r)) (ys3 L) 1 2 r.length (p :: r) p.2 L W hr hs h.rows (h.has (by omega)) (by simp) rfl rfl h0 (by simp) rfl hL).mono fun _ _ hm => ⟨b0, r, L ++ [p.2], true, h.del1, rfl, rfl, M3.of hm⟩
theorem collect3 {n : Nat} {b0 b1 : List Po} {L : List Int} (h : Q3 n b0 b1 L) (A : Option Addr) (c : Nat) (B : Option Addr) (d : Nat) (W : World) {B1 B2 : Nat} (hr : Rd2 pv W B1 A (xs3 b0 b1)) (hs : Rd2 iv W B2 B (ys3 L)) : Calls Try.prog 16 #[.agg #[.slice A 3 c, .slice B 3 d], .int .i64 2] W fun e w' => ∃ A c B d A' c' U, e = .returned (.tuple #[.agg #[.slice A 3 c, .slice B 3 d], .slice A' L.length c']) ∧ Wr w' U A' (iv L) ∧ New U W w' ∧ Below W.heap.size W w' :=
  (collect_i_yes A c B d (xs3 b0 b1) (ys3 L) 2 L W hr hs h.rows (h.has (by omega)) (by simp) rfl).mono fun e w' ⟨A, c, B, d, A', c', S, T, U, he, _, _, h1, _, _, h2, _, _, _, h3⟩ => ⟨A, c, B, d, A', c', U, he, h1, h2, h3⟩
theorem new3 (W : World) : Calls Try.prog 13 #[.int .i64 3] W (M3 [] [] [] true W) :=
  (mailNew_i 3 W true (by decide)).mono fun e w' ⟨A, c, B, d, S, T, he, h1, h2, h3, h4, _, h5⟩ => ⟨A, c, B, d, S, T, he, h1, h2, h3, h4, h5⟩
end Go.Proofs.Ytggigndkamkclaa
