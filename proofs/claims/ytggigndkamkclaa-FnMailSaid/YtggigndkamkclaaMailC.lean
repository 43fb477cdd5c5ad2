/- The words for a mail whose rows hold their lengths. -/
import Derived.Test.YtggigndkamkclaaMailQ
import Derived.Test.YtggigndkamkclaaMailQ2
import Derived.Test.YtggigndkamkclaaMailN
namespace Go.Proofs.Ytggigndkamkclaa
open Go.ChangeShapes Go.WideShapes Go.ChangeAt Go.RowKit
set_option linter.unusedVariables false

theorem Own2.wr2c {α : Type} {enc : List α → List Value} {e1 : TypeId} {s1 lo hi : Nat} {w : World} {A : Option Addr} {xss : List (List α)} (h : Own2 enc e1 s1 w lo hi A xss) : Wr2c enc w (fun x => lo ≤ x ∧ x < hi) A xss := by
  rcases h with h | ⟨b, off, hd, h1, h2, h3, h4, h5, h6⟩
  · exact .inl h
  · exact .inr ⟨b, off, fun k => At (hd k).1, hd, h1, ⟨h2, h3⟩, fun k x hk hx => ⟨(own_lo' (h6.row k hk) hx).1, h4 k x hk hx⟩, ⟨fun k hk => (h6.cell k hk).1, fun k hk => own_wr (h6.row k hk), fun k x hk hx e => h6.out k hk (by rw [← e]; exact hx), h6.apart⟩, fun k hk => (Ow.mk' (h6.row k hk)).cap⟩
theorem wr2c_nils {α : Type} {enc : List α → List Value} (h0 : enc [] = []) {w : World} {g n : Nat} (hc : ∀ k, k < n → w.cell? ⟨g, k, none⟩ = some (.slice none 0 0)) : Wr2c enc w (fun b => b = g) (some ⟨g, 0, none⟩) (List.replicate n []) := by
  refine .inr ⟨g, 0, fun _ _ => False, fun _ => (none, 0), rfl, rfl, fun _ _ _ h => h.elim, ⟨fun k hk => ?_, fun k hk => .inl (by simpa using h0), fun _ _ _ h => h.elim, fun _ _ _ _ _ h => h.elim⟩, fun k hk => by simp⟩
  have hk' : k < n := by simpa using hk
  rw [Nat.zero_add, hc k hk']
  simp
def MadeMBc (xss : List (List Po)) (yss : List (List Int)) (ok : Bool) (w : World) (e : Ending) (w' : World) : Prop :=
  ∃ A c B d S T, e = .returned (.tuple #[.agg #[.slice A xss.length c, .slice B yss.length d], .bool ok]) ∧ Wr2c pv w' S A xss ∧ Wr2 iv w' T B yss ∧ New S w w' ∧ New T w w' ∧ (∀ b, S b → ¬ T b) ∧ Below w.heap.size w w'
def MadeMIc (xss : List (List Po)) (yss : List (List Int)) (l : List Int) (w : World) (e : Ending) (w' : World) : Prop :=
  ∃ A c B d A' c' S T U, e = .returned (.tuple #[.agg #[.slice A xss.length c, .slice B yss.length d], .slice A' l.length c']) ∧ Wr2c pv w' S A xss ∧ Wr2 iv w' T B yss ∧ Wr w' U A' (iv l) ∧ New S w w' ∧ New T w w' ∧ New U w w' ∧ (∀ b, S b → ¬ T b) ∧ (∀ b, S b → ¬ U b) ∧ (∀ b, T b → ¬ U b) ∧ Below w.heap.size w w'
theorem Wr2.cur {α : Type} {enc : List α → List Value} {g : Nat} {w w1 : World} {S : Nat → Prop} {A : Option Addr} {xss : List (List α)} (h : Wr2 enc w S A xss) (ho : OutS (fun b => b = g) w w1) (hS : ∀ b, S b → g < b) : Wr2 enc w1 S A xss :=
  h.outS ho (fun b hb e => by have := hS b hb; have e2 : b = g := e; omega)
theorem Wr2c.cur {α : Type} {enc : List α → List Value} {g : Nat} {w w1 : World} {S : Nat → Prop} {A : Option Addr} {xss : List (List α)} (h : Wr2c enc w S A xss) (ho : OutS (fun b => b = g) w w1) (hS : ∀ b, S b → g < b) : Wr2c enc w1 S A xss :=
  h.outS ho (fun b hb e => by have := hS b hb; have e2 : b = g := e; omega)
end Go.Proofs.Ytggigndkamkclaa
