/- LayoutOk, of the program. -/
import Derived.Test.YtjimpmdelnnflaaLayP
import Derived.Test.YtjimpmdelnnflaaSpanB
import Derived.Test.YtjimpmdelnnflaaMapS
import Derived.Test.YtjimpmdelnnflaaSet
namespace Go.Proofs.Ytjimpmdelnnflaa
open Go.ChangeShapes Go.WideShapes Go.ChangeAt Go.RowKit Go.Maps
set_option linter.unusedVariables false
set_option linter.unusedSimpArgs false

theorem grown_cell' {w w1 : World} {g : Nat} {p : Addr} {v : Value} (hg : w.grownBy w1 (some g)) (hc : w.cell? p = some v) (hne : p.block ≠ g) : w1.cell? p = some v :=
  (OutS.of_grown (S := fun b => b = g) hg (fun g' h => by injection h with h; exact h.symm)).cell hc hne
theorem wf_pg {x : Int} (h0 : 0 ≤ x) (h1 : x ≤ 1000) : (Lit.int .i64 x).wf = true := by
  simp [Lit.wf, IntKind.min, IntKind.max, IntKind.signed, IntKind.bits]; omega
def Added (g m n : Nat) (x : Int) (s : List Int) (w : World) (b : Bool) (e : Ending) (w' : World) : Prop :=
  e = .returned (.bool b) ∧ IsSet w' m (n + 1) (x :: s) ∧ w'.cell? ⟨g, 0, none⟩ = some (.map (some m)) ∧ w.grownBy w' (some m)
set_option maxHeartbeats 2000000 in
theorem add_any (g m n : Nat) (x : Int) (s : List Int) (w : World) (hc : w.cell? ⟨g, 0, none⟩ = some (.map (some m))) (hs : IsSet w m n s) (hn : n ≤ 1000000000) (hgm : g ≠ m) (h0 : 0 ≤ x) (h1 : x ≤ 1000) (b : Bool) (hb : decide (x ∈ s) = !b) :
    Calls Try.prog 44 #[.int .i64 x, .pointer (some ⟨g, 0, none⟩)] w (Added g m n x s w b) := by
  have hlk := hs.look (wf_pg h0 h1)
  rw [hb] at hlk
  clear hb
  cases b
  all_goals
    go_enter Try.func44, Try.ntmps44
    go_wp2_with (at_mapUpdate; refine wpList_set rfl _ _ _ rfl rfl hs (by unfold maxLen; omega) rfl rfl (wf_pg h0 h1) ?_; intro w4 hs4 hg4)
    go_ret
    exact ⟨rfl, hs4, grown_cell' hg4 hc hgm, hg4⟩
end Go.Proofs.Ytjimpmdelnnflaa
