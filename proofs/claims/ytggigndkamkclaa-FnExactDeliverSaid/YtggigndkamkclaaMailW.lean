/- markMail, of a mail whose rows' capacities are told. -/
import Derived.Test.YtggigndkamkclaaMailA
namespace Go.Proofs.Ytggigndkamkclaa
open Go.ChangeShapes Go.WideShapes Go.ChangeAt Go.RowKit
set_option linter.unusedVariables false

theorem markMail_c (A : Option Addr) (c : Nat) (B : Option Addr) (d : Nat) (xss : List (List Po)) (yss : List (List Int)) (k : Int) (w : World) {S T : Nat → Prop} (ho : Wr2c pv w S A xss) (ho' : Wr2c iv w T B yss) (hD : ∀ b, S b → ¬ T b) (hn : Rows xss ∧ Rows yss) (hk0 : 0 ≤ k) (hk1 : k ≤ 1099511627) (hS : ∀ b, S b → b < w.heap.size) (hT : ∀ b, T b → b < w.heap.size) :
    Calls Try.prog 19 #[.agg #[.slice A xss.length c, .slice B yss.length d], .int .i64 k] w fun e w' => e = .returned (.int .i64 (k + 2 * (tot xss : Nat) + (tot yss : Nat))) ∧ Wr2 pv w' S A (mkPostSS k xss) ∧ Wr2 iv w' T B (mkIntSS (k + 2 * (tot xss : Nat)) yss) ∧ OutS (fun b => S b ∨ T b) w w' :=
  markMail_any A c B d xss yss k w ho.wr2 ho'.wr2 hD hn hk0 hk1 hS hT
end Go.Proofs.Ytggigndkamkclaa
