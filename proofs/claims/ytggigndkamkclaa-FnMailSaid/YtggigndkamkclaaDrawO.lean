/- l01Once of a draw. -/
import Derived.Test.YtggigndkamkclaaPlaces
import Derived.Test.YtggigndkamkclaaSet
namespace Go.Proofs.Ytggigndkamkclaa
open Go.ChangeShapes Go.WideShapes Go.ChangeAt Go.RowKit
set_option linter.unusedVariables false

def OnceOut (g B : Nat) (A : Option Addr) (c : Nat) (bs : List Int) (w : World) (e : Ending) (w' : World) : Prop :=
  ∃ b : Bool, e = .returned (.bool b) ∧ Cur w' g B A c bs ∧ Out g (g + 1) w w'
theorem l01Once_any (n : Int) (g B : Nat) (A : Option Addr) (c : Nat) (bs : List Int) (w : World) (hb : Bytes bs) (hB : B ≤ g) (hc : Cur w g B A c bs) (hn : n ≤ 1000000000) :
    Calls Try.prog 66 #[.pointer (some ⟨g, 0, none⟩), .int .i64 n] w (OnceOut g B A c bs w) := by
  go_enter Try.func66, Try.ntmps66
  go_wp2_with fail
  refine (l01Below_any n g B A c bs _ hb hB hc hn).mono ?_
  rintro e w1 ⟨x, rfl, -, -, -, hc1, ho1⟩
  go_wp2
  go_ret
  exact ⟨_, rfl, hc1, ho1⟩
theorem Out.setOf {g : Nat} {w w1 : World} (h : Out g (g + 1) w w1) : OutS (fun b => b = g) w w1 := OutS.of_out h (fun b h1 h2 => by omega)
theorem Wr.cur {g : Nat} {w w1 : World} {S : Nat → Prop} {A : Option Addr} {xs : List Value} (h : Wr w S A xs) (ho : Out g (g + 1) w w1) (hS : ∀ b, S b → g < b) : Wr w1 S A xs :=
  h.outS ho.setOf (fun b hb e => by have := hS b hb; omega)
theorem Out.below {lo hi : Nat} {w w1 w2 : World} (h : Out lo hi w w1) (hb : Below w1.heap.size w1 w2) : Out lo hi w w2 := h.trans (Out.of_below hb)
/-- What turns the cursor alone, and the cursor is new, leaves the old blocks alone. -/
theorem Out.bel {g : Nat} {a w w1 : World} (h : Out g (g + 1) w w1) (ha : Below a.heap.size a w) (hg : a.heap.size ≤ g) : Below a.heap.size a w1 := bel_out h ha (Nat.le_refl _) hg
/-- Only the cursor, and what is new, has turned. -/
theorem out_new {g : Nat} {T : Nat → Prop} {w w1 w2 : World} (h : Out g (g + 1) w w1) (k : OutS T w1 w2) (hT : ∀ b, T b → b = g ∨ w.heap.size ≤ b) : Out g (g + 1) w w2 :=
  ⟨k.os.trans h.os, k.tape.trans h.tape, k.output.trans h.output, Nat.le_trans h.size k.size, fun i h1 h2 => (k.block i (Nat.lt_of_lt_of_le h1 h.size) (fun e => by have := hT i e; omega)).trans (h.block i h1 h2)⟩
theorem Cl.cur {g : Nat} {w w1 : World} {p : Addr} {v : Value} (h : Cl w p v) (ho : Out g (g + 1) w w1) (hp : p.block ≠ g) : Cl w1 p v := h.outS ho.setOf hp
theorem Cur.outS' {S : Nat → Prop} {w w1 : World} {g B : Nat} {A : Option Addr} {c : Nat} {bs : List Int} (h : Cur w g B A c bs) (ho : OutS S w w1) (hS : ∀ b, S b → g < b) (hB : B ≤ g) : Cur w1 g B A c bs := by
  obtain ⟨i, x, hi, c0, c1, c2, hr⟩ := h
  exact ⟨i, x, hi, c0.outS ho (fun e => by have := hS _ e; simp at this), c1.outS ho (fun e => by have := hS _ e; simp at this), c2.outS ho (fun e => by have := hS _ e; simp at this), hr.outS ho (fun b e => by have := hS b e; omega)⟩
theorem cell_ald {w : World} {p : Addr} {v : Value} (h : w.cell? p = some v) (o : Obj) : (w.alloc o).drew.cell? p = some v := cell_al h o
theorem Rd.ald {w : World} {B : Nat} {A : Option Addr} {xs : List Value} (h : Rd w B A xs) (o : Obj) : Rd (w.alloc o).drew B A xs := h.alloc o
theorem own_litd {w : World} {g : Nat} {e : TypeId} {size : Nat} (hg : g = w.heap.size) : (w.alloc (.cells #[] e)).drew.ownsRow g e size (.slice (some ⟨g, 0, none⟩) 0 0) 0 [] := own_empty hg (Nat.le_refl _)
theorem own_low {w : World} {lo : Nat} {e : TypeId} {size n c m : Nat} {A : Option Addr} {xs : List Value} (h : w.ownsRow lo e size (.slice A n c) m xs) : ∀ y, (∃ o, A = some ⟨y, o, none⟩) → lo ≤ y := by
  rintro y ⟨o, rfl⟩
  rcases h.2 with ⟨hv, _⟩ | ⟨g, cap, cur, hv, hg, _⟩
  · cases hv
  · injection hv with hv
    injection hv with hv
    injection hv with hv
    omega
end Go.Proofs.Ytggigndkamkclaa
