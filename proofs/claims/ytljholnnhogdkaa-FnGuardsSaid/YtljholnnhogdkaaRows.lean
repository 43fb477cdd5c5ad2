/-
  No cell of these rows narrows 'for every input' (looked for: loops, veiled, ifaces, maps, wideKeys, modest, calm, conditions, laid).
  DERIVED. THE GIVEN ROWS OF THIS SEAT. 5 by the template 'for every input the law returns true; each argument reads behind the call as it read before'; 0 by the template 'total and deterministic' (their statements: YtljholnnhogdkaaTotals.lean).
  GIVEN WITH THE SEED: the statements are not yours to turn. If you find one false, say at which input.
  Laid BY PROGRAM, IN A SANDBOX (cutbox-rows.mjs): the forced cells as the released guide's own fill.sh prints them over the translation c08353b30b93355a… (all of the seat's roots in one cut). By AI agents, Wed Nov 11 2026. No macro, syntax, notation, axiom, sorry.
-/
import Derived.Test.YtljholnnhogdkaaChecked
import GoSem.Claim
import GoSem.ClaimJoined
import GoSem.ClaimMapViews
import Derived.JoinedTies
import Derived.KernelRfl
namespace Go.Proofs.Ytljholnnhogdkaa
/- THE CELL 'sum', in the pinned program and in every row, IS THE sha256 OF THE DUMP (.gsa) THAT YtljholnnhogdkaaProg.lean LOADS. Nothing in Lean hashes anything: it is a label: what it is worth is what the hold of that sum in a sandbox is worth. -/
noncomputable def Try.pinned : Pinned := { name := "ytljholnnhogdkaa", sum := "c08353b30b93355a0dcc4be7f6bd6b59d4867e9330e63cfed487def33eed4781", checked := Try.checked }
namespace Rows
def none {H : Type} : Left H := { results := [], args := [] }

/-- 'laws.FnExactGuardCells': WHATEVER THE INPUT: true; the input reads as it did. -/
def fnExactGuardCellsSpec : ChangeSpec := { name := "fnExactGuardCells", fn := fun _ => fun
  | [d1, d2] => { results := [.lit (.bool true)], args := [d1, d2] }
  | _ => none }
def fnExactGuardCellsRow : OpenClaim := { program := "ytljholnnhogdkaa", sum := "c08353b30b93355a0dcc4be7f6bd6b59d4867e9330e63cfed487def33eed4781", func := "loop.example/g00978/laws.FnExactGuardCells", spec := "fnExactGuardCells", apart := false }
def FnExactGuardCellsSaid : Prop := fnExactGuardCellsRow.holds Try.pinned (OpenSpec.ofChange fnExactGuardCellsSpec)

/-- ITS FALSE NEIGHBOUR: 'it returns false'. Refute it at one input. -/
def fnExactGuardCellsWrong : ChangeSpec := { name := "fnExactGuardCells", fn := fun _ => fun
  | [d1, d2] => { results := [.lit (.bool false)], args := [d1, d2] }
  | _ => none }
def FnExactGuardCellsWrongFalsely : Prop := fnExactGuardCellsRow.holds Try.pinned (OpenSpec.ofChange fnExactGuardCellsWrong)

/-- 'laws.FnGuardCells': WHATEVER THE INPUT: true; the input reads as it did. -/
def fnGuardCellsSpec : ChangeSpec := { name := "fnGuardCells", fn := fun _ => fun
  | [d] => { results := [.lit (.bool true)], args := [d] }
  | _ => none }
def fnGuardCellsRow : OpenClaim := { program := "ytljholnnhogdkaa", sum := "c08353b30b93355a0dcc4be7f6bd6b59d4867e9330e63cfed487def33eed4781", func := "loop.example/g00978/laws.FnGuardCells", spec := "fnGuardCells", apart := false }
def FnGuardCellsSaid : Prop := fnGuardCellsRow.holds Try.pinned (OpenSpec.ofChange fnGuardCellsSpec)

/-- ITS FALSE NEIGHBOUR: 'it returns false'. Refute it at one input. -/
def fnGuardCellsWrong : ChangeSpec := { name := "fnGuardCells", fn := fun _ => fun
  | [d] => { results := [.lit (.bool false)], args := [d] }
  | _ => none }
def FnGuardCellsWrongFalsely : Prop := fnGuardCellsRow.holds Try.pinned (OpenSpec.ofChange fnGuardCellsWrong)

/-- 'laws.FnExactGuardsOk': WHATEVER THE INPUT: true; the input reads as it did. -/
def fnExactGuardsOkSpec : ChangeSpec := { name := "fnExactGuardsOk", fn := fun _ => fun
  | [d1, d2, d3] => { results := [.lit (.bool true)], args := [d1, d2, d3] }
  | _ => none }
def fnExactGuardsOkRow : OpenClaim := { program := "ytljholnnhogdkaa", sum := "c08353b30b93355a0dcc4be7f6bd6b59d4867e9330e63cfed487def33eed4781", func := "loop.example/g00978/laws.FnExactGuardsOk", spec := "fnExactGuardsOk", apart := false }
def FnExactGuardsOkSaid : Prop := fnExactGuardsOkRow.holds Try.pinned (OpenSpec.ofChange fnExactGuardsOkSpec)

/-- ITS FALSE NEIGHBOUR: 'it returns false'. Refute it at one input. -/
def fnExactGuardsOkWrong : ChangeSpec := { name := "fnExactGuardsOk", fn := fun _ => fun
  | [d1, d2, d3] => { results := [.lit (.bool false)], args := [d1, d2, d3] }
  | _ => none }
def FnExactGuardsOkWrongFalsely : Prop := fnExactGuardsOkRow.holds Try.pinned (OpenSpec.ofChange fnExactGuardsOkWrong)

/-- 'laws.FnGuards': WHATEVER THE INPUT: true; the input reads as it did. -/
def fnGuardsSpec : ChangeSpec := { name := "fnGuards", fn := fun _ => fun
  | [d] => { results := [.lit (.bool true)], args := [d] }
  | _ => none }
def fnGuardsRow : OpenClaim := { program := "ytljholnnhogdkaa", sum := "c08353b30b93355a0dcc4be7f6bd6b59d4867e9330e63cfed487def33eed4781", func := "loop.example/g00978/laws.FnGuards", spec := "fnGuards", apart := false }
def FnGuardsSaid : Prop := fnGuardsRow.holds Try.pinned (OpenSpec.ofChange fnGuardsSpec)

/-- ITS FALSE NEIGHBOUR: 'it returns false'. Refute it at one input. -/
def fnGuardsWrong : ChangeSpec := { name := "fnGuards", fn := fun _ => fun
  | [d] => { results := [.lit (.bool false)], args := [d] }
  | _ => none }
def FnGuardsWrongFalsely : Prop := fnGuardsRow.holds Try.pinned (OpenSpec.ofChange fnGuardsWrong)

/-- 'laws.FnExactFirstBroken': WHATEVER THE INPUT: true; the input reads as it did. -/
def fnExactFirstBrokenSpec : ChangeSpec := { name := "fnExactFirstBroken", fn := fun _ => fun
  | [d1, d2, d3] => { results := [.lit (.bool true)], args := [d1, d2, d3] }
  | _ => none }
def fnExactFirstBrokenRow : OpenClaim := { program := "ytljholnnhogdkaa", sum := "c08353b30b93355a0dcc4be7f6bd6b59d4867e9330e63cfed487def33eed4781", func := "loop.example/g00978/laws.FnExactFirstBroken", spec := "fnExactFirstBroken", apart := false }
def FnExactFirstBrokenSaid : Prop := fnExactFirstBrokenRow.holds Try.pinned (OpenSpec.ofChange fnExactFirstBrokenSpec)

/-- ITS FALSE NEIGHBOUR: 'it returns false'. Refute it at one input. -/
def fnExactFirstBrokenWrong : ChangeSpec := { name := "fnExactFirstBroken", fn := fun _ => fun
  | [d1, d2, d3] => { results := [.lit (.bool false)], args := [d1, d2, d3] }
  | _ => none }
def FnExactFirstBrokenWrongFalsely : Prop := fnExactFirstBrokenRow.holds Try.pinned (OpenSpec.ofChange fnExactFirstBrokenWrong)

/- THE SECOND FORM. 'bulk': how many values and letters a reading holds, each counted each time it is reached (what is shared counts as often as it is met; a slice's spare places count too). A statement '..UptoSaid' is the law's where the arguments, and the package variables that the reading takes, are together of bulk at most 1048576: NARROWER than '..Said'. Prove '..Said' where nothing that the law and all that it calls make is longer than what came in: it says more and counts as full. Else prove '..UptoSaid'. A law counts once. -/
mutual
def uptoBulk {H : Type} : DataW H → Nat
  | .lit (.string bytes) => bytes.length + 1
  | .lit _ => 1
  | .nil => 1
  | .ptr d => uptoBulk d + 1
  | .slice elems spare => uptoBulkAll elems + uptoBulkAll spare + 1
  | .agg parts => uptoBulkAll parts + 1
  | .iface _ d => uptoBulk d + 1
  | .map entries => uptoBulkEntries entries + 1
  | .held _ => 1
def uptoBulkAll {H : Type} : List (DataW H) → Nat
  | [] => 0
  | d :: r => uptoBulk d + uptoBulkAll r
def uptoBulkEntries {H : Type} : List (Lit × DataW H) → Nat
  | [] => 0
  | x :: r => uptoBulkEntry x + uptoBulkEntries r
def uptoBulkEntry {H : Type} : Lit × DataW H → Nat
  | (.string bytes, d) => bytes.length + uptoBulk d + 1
  | (_, d) => uptoBulk d + 1
 end
def uptoSmall : (H : Type) → List (DataW H) → Bool := fun _ ds => decide (uptoBulkAll ds ≤ 1048576)
def OpenSpec.upto (s : _root_.Go.ChangeSpec) : _root_.Go.OpenSpec := { _root_.Go.OpenSpec.ofChange s with cond := some uptoSmall }

/-- 'laws.FnExactGuardCells', WHERE WHAT IT READS IS OF BULK AT MOST 1048576: true; the input reads as it did. -/
def fnExactGuardCellsUptoRow : OpenClaim := { program := "ytljholnnhogdkaa", sum := "c08353b30b93355a0dcc4be7f6bd6b59d4867e9330e63cfed487def33eed4781", func := "loop.example/g00978/laws.FnExactGuardCells", spec := "fnExactGuardCells", apart := false, narrowed := true }
def FnExactGuardCellsUptoSaid : Prop := fnExactGuardCellsUptoRow.holds Try.pinned (OpenSpec.upto fnExactGuardCellsSpec)

/-- 'laws.FnGuardCells', WHERE WHAT IT READS IS OF BULK AT MOST 1048576: true; the input reads as it did. -/
def fnGuardCellsUptoRow : OpenClaim := { program := "ytljholnnhogdkaa", sum := "c08353b30b93355a0dcc4be7f6bd6b59d4867e9330e63cfed487def33eed4781", func := "loop.example/g00978/laws.FnGuardCells", spec := "fnGuardCells", apart := false, narrowed := true }
def FnGuardCellsUptoSaid : Prop := fnGuardCellsUptoRow.holds Try.pinned (OpenSpec.upto fnGuardCellsSpec)

/-- 'laws.FnExactGuardsOk', WHERE WHAT IT READS IS OF BULK AT MOST 1048576: true; the input reads as it did. -/
def fnExactGuardsOkUptoRow : OpenClaim := { program := "ytljholnnhogdkaa", sum := "c08353b30b93355a0dcc4be7f6bd6b59d4867e9330e63cfed487def33eed4781", func := "loop.example/g00978/laws.FnExactGuardsOk", spec := "fnExactGuardsOk", apart := false, narrowed := true }
def FnExactGuardsOkUptoSaid : Prop := fnExactGuardsOkUptoRow.holds Try.pinned (OpenSpec.upto fnExactGuardsOkSpec)

/-- 'laws.FnGuards', WHERE WHAT IT READS IS OF BULK AT MOST 1048576: true; the input reads as it did. -/
def fnGuardsUptoRow : OpenClaim := { program := "ytljholnnhogdkaa", sum := "c08353b30b93355a0dcc4be7f6bd6b59d4867e9330e63cfed487def33eed4781", func := "loop.example/g00978/laws.FnGuards", spec := "fnGuards", apart := false, narrowed := true }
def FnGuardsUptoSaid : Prop := fnGuardsUptoRow.holds Try.pinned (OpenSpec.upto fnGuardsSpec)

/-- 'laws.FnExactFirstBroken', WHERE WHAT IT READS IS OF BULK AT MOST 1048576: true; the input reads as it did. -/
def fnExactFirstBrokenUptoRow : OpenClaim := { program := "ytljholnnhogdkaa", sum := "c08353b30b93355a0dcc4be7f6bd6b59d4867e9330e63cfed487def33eed4781", func := "loop.example/g00978/laws.FnExactFirstBroken", spec := "fnExactFirstBroken", apart := false, narrowed := true }
def FnExactFirstBrokenUptoSaid : Prop := fnExactFirstBrokenUptoRow.holds Try.pinned (OpenSpec.upto fnExactFirstBrokenSpec)

end Rows
end Go.Proofs.Ytljholnnhogdkaa
