/-
  No cell of these rows narrows 'for every input' (looked for: loops, veiled, ifaces, maps, wideKeys, modest, calm, conditions, laid).
  DERIVED. THE GIVEN ROWS OF THIS SEAT. 8 by the template 'for every input the law returns true; each argument reads behind the call as it read before'; 0 by the template 'total and deterministic' (their statements: YtggigndkamkclaaTotals.lean).
  GIVEN WITH THE SEED: the statements are not yours to turn. If you find one false, say at which input.
  Laid BY PROGRAM, IN A SANDBOX (cutbox-rows.mjs): the forced cells as the released guide's own fill.sh prints them over the translation bc3f5ff2edb420b3… (all of the seat's roots in one cut). By AI agents, Wed Nov 11 2026. No macro, syntax, notation, axiom, sorry.
-/
import Derived.Test.YtggigndkamkclaaChecked
import GoSem.Claim
import GoSem.ClaimJoined
import GoSem.ClaimMapViews
import Derived.JoinedTies
import Derived.KernelRfl
namespace Go.Proofs.Ytggigndkamkclaa
/- THE CELL 'sum', in the pinned program and in every row, IS THE sha256 OF THE DUMP (.gsa) THAT YtggigndkamkclaaProg.lean LOADS. Nothing in Lean hashes anything: it is a label: what it is worth is what the hold of that sum in a sandbox is worth. -/
noncomputable def Try.pinned : Pinned := { name := "ytggigndkamkclaa", sum := "bc3f5ff2edb420b3475f0f57a9334a4be035f11f4ea6c1da031dd8b379b2be57", checked := Try.checked }
namespace Rows
def none {H : Type} : Left H := { results := [], args := [] }

/-- 'laws.FnInOrder': WHATEVER THE INPUT: true; the input reads as it did. -/
def fnInOrderSpec : ChangeSpec := { name := "fnInOrder", fn := fun _ => fun
  | [d] => { results := [.lit (.bool true)], args := [d] }
  | _ => none }
def fnInOrderRow : OpenClaim := { program := "ytggigndkamkclaa", sum := "bc3f5ff2edb420b3475f0f57a9334a4be035f11f4ea6c1da031dd8b379b2be57", func := "loop.example/g00978/laws.FnInOrder", spec := "fnInOrder", apart := false }
def FnInOrderSaid : Prop := fnInOrderRow.holds Try.pinned (OpenSpec.ofChange fnInOrderSpec)

/-- ITS FALSE NEIGHBOUR: 'it returns false'. Refute it at one input. -/
def fnInOrderWrong : ChangeSpec := { name := "fnInOrder", fn := fun _ => fun
  | [d] => { results := [.lit (.bool false)], args := [d] }
  | _ => none }
def FnInOrderWrongFalsely : Prop := fnInOrderRow.holds Try.pinned (OpenSpec.ofChange fnInOrderWrong)

/-- 'laws.FnExactMailNew': WHATEVER THE INPUT: true; the input reads as it did. -/
def fnExactMailNewSpec : ChangeSpec := { name := "fnExactMailNew", fn := fun _ => fun
  | [d] => { results := [.lit (.bool true)], args := [d] }
  | _ => none }
def fnExactMailNewRow : OpenClaim := { program := "ytggigndkamkclaa", sum := "bc3f5ff2edb420b3475f0f57a9334a4be035f11f4ea6c1da031dd8b379b2be57", func := "loop.example/g00978/laws.FnExactMailNew", spec := "fnExactMailNew", apart := false }
def FnExactMailNewSaid : Prop := fnExactMailNewRow.holds Try.pinned (OpenSpec.ofChange fnExactMailNewSpec)

/-- ITS FALSE NEIGHBOUR: 'it returns false'. Refute it at one input. -/
def fnExactMailNewWrong : ChangeSpec := { name := "fnExactMailNew", fn := fun _ => fun
  | [d] => { results := [.lit (.bool false)], args := [d] }
  | _ => none }
def FnExactMailNewWrongFalsely : Prop := fnExactMailNewRow.holds Try.pinned (OpenSpec.ofChange fnExactMailNewWrong)

/-- 'laws.FnExactMailOk': WHATEVER THE INPUT: true; the input reads as it did. -/
def fnExactMailOkSpec : ChangeSpec := { name := "fnExactMailOk", fn := fun _ => fun
  | [d] => { results := [.lit (.bool true)], args := [d] }
  | _ => none }
def fnExactMailOkRow : OpenClaim := { program := "ytggigndkamkclaa", sum := "bc3f5ff2edb420b3475f0f57a9334a4be035f11f4ea6c1da031dd8b379b2be57", func := "loop.example/g00978/laws.FnExactMailOk", spec := "fnExactMailOk", apart := false }
def FnExactMailOkSaid : Prop := fnExactMailOkRow.holds Try.pinned (OpenSpec.ofChange fnExactMailOkSpec)

/-- ITS FALSE NEIGHBOUR: 'it returns false'. Refute it at one input. -/
def fnExactMailOkWrong : ChangeSpec := { name := "fnExactMailOk", fn := fun _ => fun
  | [d] => { results := [.lit (.bool false)], args := [d] }
  | _ => none }
def FnExactMailOkWrongFalsely : Prop := fnExactMailOkRow.holds Try.pinned (OpenSpec.ofChange fnExactMailOkWrong)

/-- 'laws.FnMail': WHATEVER THE INPUT: true; the input reads as it did. -/
def fnMailSpec : ChangeSpec := { name := "fnMail", fn := fun _ => fun
  | [d] => { results := [.lit (.bool true)], args := [d] }
  | _ => none }
def fnMailRow : OpenClaim := { program := "ytggigndkamkclaa", sum := "bc3f5ff2edb420b3475f0f57a9334a4be035f11f4ea6c1da031dd8b379b2be57", func := "loop.example/g00978/laws.FnMail", spec := "fnMail", apart := false }
def FnMailSaid : Prop := fnMailRow.holds Try.pinned (OpenSpec.ofChange fnMailSpec)

/-- ITS FALSE NEIGHBOUR: 'it returns false'. Refute it at one input. -/
def fnMailWrong : ChangeSpec := { name := "fnMail", fn := fun _ => fun
  | [d] => { results := [.lit (.bool false)], args := [d] }
  | _ => none }
def FnMailWrongFalsely : Prop := fnMailRow.holds Try.pinned (OpenSpec.ofChange fnMailWrong)

/-- 'laws.FnExactInFlight': WHATEVER THE INPUT: true; the input reads as it did. -/
def fnExactInFlightSpec : ChangeSpec := { name := "fnExactInFlight", fn := fun _ => fun
  | [d] => { results := [.lit (.bool true)], args := [d] }
  | _ => none }
def fnExactInFlightRow : OpenClaim := { program := "ytggigndkamkclaa", sum := "bc3f5ff2edb420b3475f0f57a9334a4be035f11f4ea6c1da031dd8b379b2be57", func := "loop.example/g00978/laws.FnExactInFlight", spec := "fnExactInFlight", apart := false }
def FnExactInFlightSaid : Prop := fnExactInFlightRow.holds Try.pinned (OpenSpec.ofChange fnExactInFlightSpec)

/-- ITS FALSE NEIGHBOUR: 'it returns false'. Refute it at one input. -/
def fnExactInFlightWrong : ChangeSpec := { name := "fnExactInFlight", fn := fun _ => fun
  | [d] => { results := [.lit (.bool false)], args := [d] }
  | _ => none }
def FnExactInFlightWrongFalsely : Prop := fnExactInFlightRow.holds Try.pinned (OpenSpec.ofChange fnExactInFlightWrong)

/-- 'laws.FnExactCollect': WHATEVER THE INPUT: true; the input reads as it did. -/
def fnExactCollectSpec : ChangeSpec := { name := "fnExactCollect", fn := fun _ => fun
  | [d1, d2] => { results := [.lit (.bool true)], args := [d1, d2] }
  | _ => none }
def fnExactCollectRow : OpenClaim := { program := "ytggigndkamkclaa", sum := "bc3f5ff2edb420b3475f0f57a9334a4be035f11f4ea6c1da031dd8b379b2be57", func := "loop.example/g00978/laws.FnExactCollect", spec := "fnExactCollect", apart := false }
def FnExactCollectSaid : Prop := fnExactCollectRow.holds Try.pinned (OpenSpec.ofChange fnExactCollectSpec)

/-- ITS FALSE NEIGHBOUR: 'it returns false'. Refute it at one input. -/
def fnExactCollectWrong : ChangeSpec := { name := "fnExactCollect", fn := fun _ => fun
  | [d1, d2] => { results := [.lit (.bool false)], args := [d1, d2] }
  | _ => none }
def FnExactCollectWrongFalsely : Prop := fnExactCollectRow.holds Try.pinned (OpenSpec.ofChange fnExactCollectWrong)

/-- 'laws.FnExactDeliver': WHATEVER THE INPUT: true; the input reads as it did. -/
def fnExactDeliverSpec : ChangeSpec := { name := "fnExactDeliver", fn := fun _ => fun
  | [d1, d2] => { results := [.lit (.bool true)], args := [d1, d2] }
  | _ => none }
def fnExactDeliverRow : OpenClaim := { program := "ytggigndkamkclaa", sum := "bc3f5ff2edb420b3475f0f57a9334a4be035f11f4ea6c1da031dd8b379b2be57", func := "loop.example/g00978/laws.FnExactDeliver", spec := "fnExactDeliver", apart := false }
def FnExactDeliverSaid : Prop := fnExactDeliverRow.holds Try.pinned (OpenSpec.ofChange fnExactDeliverSpec)

/-- ITS FALSE NEIGHBOUR: 'it returns false'. Refute it at one input. -/
def fnExactDeliverWrong : ChangeSpec := { name := "fnExactDeliver", fn := fun _ => fun
  | [d1, d2] => { results := [.lit (.bool false)], args := [d1, d2] }
  | _ => none }
def FnExactDeliverWrongFalsely : Prop := fnExactDeliverRow.holds Try.pinned (OpenSpec.ofChange fnExactDeliverWrong)

/-- 'laws.FnExactSend': WHATEVER THE INPUT: true; the input reads as it did. -/
def fnExactSendSpec : ChangeSpec := { name := "fnExactSend", fn := fun _ => fun
  | [d1, d2, d3] => { results := [.lit (.bool true)], args := [d1, d2, d3] }
  | _ => none }
def fnExactSendRow : OpenClaim := { program := "ytggigndkamkclaa", sum := "bc3f5ff2edb420b3475f0f57a9334a4be035f11f4ea6c1da031dd8b379b2be57", func := "loop.example/g00978/laws.FnExactSend", spec := "fnExactSend", apart := false }
def FnExactSendSaid : Prop := fnExactSendRow.holds Try.pinned (OpenSpec.ofChange fnExactSendSpec)

/-- ITS FALSE NEIGHBOUR: 'it returns false'. Refute it at one input. -/
def fnExactSendWrong : ChangeSpec := { name := "fnExactSend", fn := fun _ => fun
  | [d1, d2, d3] => { results := [.lit (.bool false)], args := [d1, d2, d3] }
  | _ => none }
def FnExactSendWrongFalsely : Prop := fnExactSendRow.holds Try.pinned (OpenSpec.ofChange fnExactSendWrong)

/- THE SECOND FORM. 'bulk': how many values and letters a reading holds, each counted each time it is reached (what is shared counts as often as it is met; a slice's spare places count too). A statement '..UptoSaid' is the law's where the arguments, and the package variables that the reading takes, are together of bulk at most 1048576: NARROWER than '..Said'. Prove '..Said' where nothing that the law and all that it calls make is longer than what came in: it says more and counts as full. Else prove '..UptoSaid'. A law counts once. -/
mutual
def uptoBulk {H : Type} : DataW H → Nat
  | .lit (.string bytes) => bytes.length + 1
  | .lit _ => 1
  | .nil => 1
  | .ptr d => uptoBulk d + 1
  | .slice elems spare => uptoBulkAll elems + uptoBulkAll spare + 1
  | .agg parts => uptoBulkAll parts + 1
  | .iface _ d => uptoBulk d + 1
  | .map entries => uptoBulkEntries entries + 1
  | .held _ => 1
def uptoBulkAll {H : Type} : List (DataW H) → Nat
  | [] => 0
  | d :: r => uptoBulk d + uptoBulkAll r
def uptoBulkEntries {H : Type} : List (Lit × DataW H) → Nat
  | [] => 0
  | x :: r => uptoBulkEntry x + uptoBulkEntries r
def uptoBulkEntry {H : Type} : Lit × DataW H → Nat
  | (.string bytes, d) => bytes.length + uptoBulk d + 1
  | (_, d) => uptoBulk d + 1
 end
def uptoSmall : (H : Type) → List (DataW H) → Bool := fun _ ds => decide (uptoBulkAll ds ≤ 1048576)
def OpenSpec.upto (s : _root_.Go.ChangeSpec) : _root_.Go.OpenSpec := { _root_.Go.OpenSpec.ofChange s with cond := some uptoSmall }

/-- 'laws.FnInOrder', WHERE WHAT IT READS IS OF BULK AT MOST 1048576: true; the input reads as it did. -/
def fnInOrderUptoRow : OpenClaim := { program := "ytggigndkamkclaa", sum := "bc3f5ff2edb420b3475f0f57a9334a4be035f11f4ea6c1da031dd8b379b2be57", func := "loop.example/g00978/laws.FnInOrder", spec := "fnInOrder", apart := false, narrowed := true }
def FnInOrderUptoSaid : Prop := fnInOrderUptoRow.holds Try.pinned (OpenSpec.upto fnInOrderSpec)

/-- 'laws.FnExactMailNew', WHERE WHAT IT READS IS OF BULK AT MOST 1048576: true; the input reads as it did. -/
def fnExactMailNewUptoRow : OpenClaim := { program := "ytggigndkamkclaa", sum := "bc3f5ff2edb420b3475f0f57a9334a4be035f11f4ea6c1da031dd8b379b2be57", func := "loop.example/g00978/laws.FnExactMailNew", spec := "fnExactMailNew", apart := false, narrowed := true }
def FnExactMailNewUptoSaid : Prop := fnExactMailNewUptoRow.holds Try.pinned (OpenSpec.upto fnExactMailNewSpec)

/-- 'laws.FnExactMailOk', WHERE WHAT IT READS IS OF BULK AT MOST 1048576: true; the input reads as it did. -/
def fnExactMailOkUptoRow : OpenClaim := { program := "ytggigndkamkclaa", sum := "bc3f5ff2edb420b3475f0f57a9334a4be035f11f4ea6c1da031dd8b379b2be57", func := "loop.example/g00978/laws.FnExactMailOk", spec := "fnExactMailOk", apart := false, narrowed := true }
def FnExactMailOkUptoSaid : Prop := fnExactMailOkUptoRow.holds Try.pinned (OpenSpec.upto fnExactMailOkSpec)

/-- 'laws.FnMail', WHERE WHAT IT READS IS OF BULK AT MOST 1048576: true; the input reads as it did. -/
def fnMailUptoRow : OpenClaim := { program := "ytggigndkamkclaa", sum := "bc3f5ff2edb420b3475f0f57a9334a4be035f11f4ea6c1da031dd8b379b2be57", func := "loop.example/g00978/laws.FnMail", spec := "fnMail", apart := false, narrowed := true }
def FnMailUptoSaid : Prop := fnMailUptoRow.holds Try.pinned (OpenSpec.upto fnMailSpec)

/-- 'laws.FnExactInFlight', WHERE WHAT IT READS IS OF BULK AT MOST 1048576: true; the input reads as it did. -/
def fnExactInFlightUptoRow : OpenClaim := { program := "ytggigndkamkclaa", sum := "bc3f5ff2edb420b3475f0f57a9334a4be035f11f4ea6c1da031dd8b379b2be57", func := "loop.example/g00978/laws.FnExactInFlight", spec := "fnExactInFlight", apart := false, narrowed := true }
def FnExactInFlightUptoSaid : Prop := fnExactInFlightUptoRow.holds Try.pinned (OpenSpec.upto fnExactInFlightSpec)

/-- 'laws.FnExactCollect', WHERE WHAT IT READS IS OF BULK AT MOST 1048576: true; the input reads as it did. -/
def fnExactCollectUptoRow : OpenClaim := { program := "ytggigndkamkclaa", sum := "bc3f5ff2edb420b3475f0f57a9334a4be035f11f4ea6c1da031dd8b379b2be57", func := "loop.example/g00978/laws.FnExactCollect", spec := "fnExactCollect", apart := false, narrowed := true }
def FnExactCollectUptoSaid : Prop := fnExactCollectUptoRow.holds Try.pinned (OpenSpec.upto fnExactCollectSpec)

/-- 'laws.FnExactDeliver', WHERE WHAT IT READS IS OF BULK AT MOST 1048576: true; the input reads as it did. -/
def fnExactDeliverUptoRow : OpenClaim := { program := "ytggigndkamkclaa", sum := "bc3f5ff2edb420b3475f0f57a9334a4be035f11f4ea6c1da031dd8b379b2be57", func := "loop.example/g00978/laws.FnExactDeliver", spec := "fnExactDeliver", apart := false, narrowed := true }
def FnExactDeliverUptoSaid : Prop := fnExactDeliverUptoRow.holds Try.pinned (OpenSpec.upto fnExactDeliverSpec)

/-- 'laws.FnExactSend', WHERE WHAT IT READS IS OF BULK AT MOST 1048576: true; the input reads as it did. -/
def fnExactSendUptoRow : OpenClaim := { program := "ytggigndkamkclaa", sum := "bc3f5ff2edb420b3475f0f57a9334a4be035f11f4ea6c1da031dd8b379b2be57", func := "loop.example/g00978/laws.FnExactSend", spec := "fnExactSend", apart := false, narrowed := true }
def FnExactSendUptoSaid : Prop := fnExactSendUptoRow.holds Try.pinned (OpenSpec.upto fnExactSendSpec)

end Rows
end Go.Proofs.Ytggigndkamkclaa
