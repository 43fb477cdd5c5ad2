/-
  No cell of these rows narrows 'for every input' (looked for: loops, veiled, ifaces, maps, wideKeys, modest, calm, conditions, laid).
  DERIVED. THE GIVEN ROWS OF THIS SEAT. 9 by the template 'for every input the law returns true; each argument reads behind the call as it read before'; 0 by the template 'total and deterministic' (their statements: YtoidaeehdekaoaaTotals.lean).
  GIVEN WITH THE SEED: the statements are not yours to turn. If you find one false, say at which input.
  Laid BY PROGRAM, IN A SANDBOX (cutbox-rows.mjs): the forced cells as the released guide's own fill.sh prints them over the translation b4e4b36dbe86e872… (all of the seat's roots in one cut). By AI agents, Wed Nov 11 2026. No macro, syntax, notation, axiom, sorry.
-/
import Derived.Test.YtoidaeehdekaoaaChecked
import GoSem.Claim
import GoSem.ClaimJoined
import GoSem.ClaimMapViews
import Derived.JoinedTies
import Derived.KernelRfl
namespace Go.Proofs.Ytoidaeehdekaoaa
/- THE CELL 'sum', in the pinned program and in every row, IS THE sha256 OF THE DUMP (.gsa) THAT YtoidaeehdekaoaaProg.lean LOADS. Nothing in Lean hashes anything: it is a label: what it is worth is what the hold of that sum in a sandbox is worth. -/
noncomputable def Try.pinned : Pinned := { name := "ytoidaeehdekaoaa", sum := "b4e4b36dbe86e872519b17232f7357c1a5d53db6ab0110575df63b0fa338ffd3", checked := Try.checked }
namespace Rows
def none {H : Type} : Left H := { results := [], args := [] }

/-- 'laws.FnExactSplitPointer': WHATEVER THE INPUT: true; the input reads as it did. -/
def fnExactSplitPointerSpec : ChangeSpec := { name := "fnExactSplitPointer", fn := fun _ => fun
  | [d] => { results := [.lit (.bool true)], args := [d] }
  | _ => none }
def fnExactSplitPointerRow : OpenClaim := { program := "ytoidaeehdekaoaa", sum := "b4e4b36dbe86e872519b17232f7357c1a5d53db6ab0110575df63b0fa338ffd3", func := "loop.example/g00978/laws.FnExactSplitPointer", spec := "fnExactSplitPointer", apart := false }
def FnExactSplitPointerSaid : Prop := fnExactSplitPointerRow.holds Try.pinned (OpenSpec.ofChange fnExactSplitPointerSpec)

/-- ITS FALSE NEIGHBOUR: 'it returns false'. Refute it at one input. -/
def fnExactSplitPointerWrong : ChangeSpec := { name := "fnExactSplitPointer", fn := fun _ => fun
  | [d] => { results := [.lit (.bool false)], args := [d] }
  | _ => none }
def FnExactSplitPointerWrongFalsely : Prop := fnExactSplitPointerRow.holds Try.pinned (OpenSpec.ofChange fnExactSplitPointerWrong)

/-- 'laws.FnExactLargeOk': WHATEVER THE INPUT: true; the input reads as it did. -/
def fnExactLargeOkSpec : ChangeSpec := { name := "fnExactLargeOk", fn := fun _ => fun
  | [d] => { results := [.lit (.bool true)], args := [d] }
  | _ => none }
def fnExactLargeOkRow : OpenClaim := { program := "ytoidaeehdekaoaa", sum := "b4e4b36dbe86e872519b17232f7357c1a5d53db6ab0110575df63b0fa338ffd3", func := "loop.example/g00978/laws.FnExactLargeOk", spec := "fnExactLargeOk", apart := false }
def FnExactLargeOkSaid : Prop := fnExactLargeOkRow.holds Try.pinned (OpenSpec.ofChange fnExactLargeOkSpec)

/-- ITS FALSE NEIGHBOUR: 'it returns false'. Refute it at one input. -/
def fnExactLargeOkWrong : ChangeSpec := { name := "fnExactLargeOk", fn := fun _ => fun
  | [d] => { results := [.lit (.bool false)], args := [d] }
  | _ => none }
def FnExactLargeOkWrongFalsely : Prop := fnExactLargeOkRow.holds Try.pinned (OpenSpec.ofChange fnExactLargeOkWrong)

/-- 'laws.FnExactLargeHas': WHATEVER THE INPUT: true; the input reads as it did. -/
def fnExactLargeHasSpec : ChangeSpec := { name := "fnExactLargeHas", fn := fun _ => fun
  | [d1, d2] => { results := [.lit (.bool true)], args := [d1, d2] }
  | _ => none }
def fnExactLargeHasRow : OpenClaim := { program := "ytoidaeehdekaoaa", sum := "b4e4b36dbe86e872519b17232f7357c1a5d53db6ab0110575df63b0fa338ffd3", func := "loop.example/g00978/laws.FnExactLargeHas", spec := "fnExactLargeHas", apart := false }
def FnExactLargeHasSaid : Prop := fnExactLargeHasRow.holds Try.pinned (OpenSpec.ofChange fnExactLargeHasSpec)

/-- ITS FALSE NEIGHBOUR: 'it returns false'. Refute it at one input. -/
def fnExactLargeHasWrong : ChangeSpec := { name := "fnExactLargeHas", fn := fun _ => fun
  | [d1, d2] => { results := [.lit (.bool false)], args := [d1, d2] }
  | _ => none }
def FnExactLargeHasWrongFalsely : Prop := fnExactLargeHasRow.holds Try.pinned (OpenSpec.ofChange fnExactLargeHasWrong)

/-- 'laws.FnPointers': WHATEVER THE INPUT: true; the input reads as it did. -/
def fnPointersSpec : ChangeSpec := { name := "fnPointers", fn := fun _ => fun
  | [d] => { results := [.lit (.bool true)], args := [d] }
  | _ => none }
def fnPointersRow : OpenClaim := { program := "ytoidaeehdekaoaa", sum := "b4e4b36dbe86e872519b17232f7357c1a5d53db6ab0110575df63b0fa338ffd3", func := "loop.example/g00978/laws.FnPointers", spec := "fnPointers", apart := false }
def FnPointersSaid : Prop := fnPointersRow.holds Try.pinned (OpenSpec.ofChange fnPointersSpec)

/-- ITS FALSE NEIGHBOUR: 'it returns false'. Refute it at one input. -/
def fnPointersWrong : ChangeSpec := { name := "fnPointers", fn := fun _ => fun
  | [d] => { results := [.lit (.bool false)], args := [d] }
  | _ => none }
def FnPointersWrongFalsely : Prop := fnPointersRow.holds Try.pinned (OpenSpec.ofChange fnPointersWrong)

/-- 'laws.FnExactLargeOffset': WHATEVER THE INPUT: true; the input reads as it did. -/
def fnExactLargeOffsetSpec : ChangeSpec := { name := "fnExactLargeOffset", fn := fun _ => fun
  | [d1, d2] => { results := [.lit (.bool true)], args := [d1, d2] }
  | _ => none }
def fnExactLargeOffsetRow : OpenClaim := { program := "ytoidaeehdekaoaa", sum := "b4e4b36dbe86e872519b17232f7357c1a5d53db6ab0110575df63b0fa338ffd3", func := "loop.example/g00978/laws.FnExactLargeOffset", spec := "fnExactLargeOffset", apart := false }
def FnExactLargeOffsetSaid : Prop := fnExactLargeOffsetRow.holds Try.pinned (OpenSpec.ofChange fnExactLargeOffsetSpec)

/-- ITS FALSE NEIGHBOUR: 'it returns false'. Refute it at one input. -/
def fnExactLargeOffsetWrong : ChangeSpec := { name := "fnExactLargeOffset", fn := fun _ => fun
  | [d1, d2] => { results := [.lit (.bool false)], args := [d1, d2] }
  | _ => none }
def FnExactLargeOffsetWrongFalsely : Prop := fnExactLargeOffsetRow.holds Try.pinned (OpenSpec.ofChange fnExactLargeOffsetWrong)

/-- 'laws.FnExactLargeNew': WHATEVER THE INPUT: true; the input reads as it did. -/
def fnExactLargeNewSpec : ChangeSpec := { name := "fnExactLargeNew", fn := fun _ => fun
  | [d1, d2] => { results := [.lit (.bool true)], args := [d1, d2] }
  | _ => none }
def fnExactLargeNewRow : OpenClaim := { program := "ytoidaeehdekaoaa", sum := "b4e4b36dbe86e872519b17232f7357c1a5d53db6ab0110575df63b0fa338ffd3", func := "loop.example/g00978/laws.FnExactLargeNew", spec := "fnExactLargeNew", apart := false }
def FnExactLargeNewSaid : Prop := fnExactLargeNewRow.holds Try.pinned (OpenSpec.ofChange fnExactLargeNewSpec)

/-- ITS FALSE NEIGHBOUR: 'it returns false'. Refute it at one input. -/
def fnExactLargeNewWrong : ChangeSpec := { name := "fnExactLargeNew", fn := fun _ => fun
  | [d1, d2] => { results := [.lit (.bool false)], args := [d1, d2] }
  | _ => none }
def FnExactLargeNewWrongFalsely : Prop := fnExactLargeNewRow.holds Try.pinned (OpenSpec.ofChange fnExactLargeNewWrong)

/-- 'laws.FnInterior': WHATEVER THE INPUT: true; the input reads as it did. -/
def fnInteriorSpec : ChangeSpec := { name := "fnInterior", fn := fun _ => fun
  | [d] => { results := [.lit (.bool true)], args := [d] }
  | _ => none }
def fnInteriorRow : OpenClaim := { program := "ytoidaeehdekaoaa", sum := "b4e4b36dbe86e872519b17232f7357c1a5d53db6ab0110575df63b0fa338ffd3", func := "loop.example/g00978/laws.FnInterior", spec := "fnInterior", apart := false }
def FnInteriorSaid : Prop := fnInteriorRow.holds Try.pinned (OpenSpec.ofChange fnInteriorSpec)

/-- ITS FALSE NEIGHBOUR: 'it returns false'. Refute it at one input. -/
def fnInteriorWrong : ChangeSpec := { name := "fnInterior", fn := fun _ => fun
  | [d] => { results := [.lit (.bool false)], args := [d] }
  | _ => none }
def FnInteriorWrongFalsely : Prop := fnInteriorRow.holds Try.pinned (OpenSpec.ofChange fnInteriorWrong)

/-- 'laws.FnTrimmed': WHATEVER THE INPUT: true; the input reads as it did. -/
def fnTrimmedSpec : ChangeSpec := { name := "fnTrimmed", fn := fun _ => fun
  | [d] => { results := [.lit (.bool true)], args := [d] }
  | _ => none }
def fnTrimmedRow : OpenClaim := { program := "ytoidaeehdekaoaa", sum := "b4e4b36dbe86e872519b17232f7357c1a5d53db6ab0110575df63b0fa338ffd3", func := "loop.example/g00978/laws.FnTrimmed", spec := "fnTrimmed", apart := false }
def FnTrimmedSaid : Prop := fnTrimmedRow.holds Try.pinned (OpenSpec.ofChange fnTrimmedSpec)

/-- ITS FALSE NEIGHBOUR: 'it returns false'. Refute it at one input. -/
def fnTrimmedWrong : ChangeSpec := { name := "fnTrimmed", fn := fun _ => fun
  | [d] => { results := [.lit (.bool false)], args := [d] }
  | _ => none }
def FnTrimmedWrongFalsely : Prop := fnTrimmedRow.holds Try.pinned (OpenSpec.ofChange fnTrimmedWrong)

/-- 'laws.FnExactLargeTrim': WHATEVER THE INPUT: true; the input reads as it did. -/
def fnExactLargeTrimSpec : ChangeSpec := { name := "fnExactLargeTrim", fn := fun _ => fun
  | [d1, d2] => { results := [.lit (.bool true)], args := [d1, d2] }
  | _ => none }
def fnExactLargeTrimRow : OpenClaim := { program := "ytoidaeehdekaoaa", sum := "b4e4b36dbe86e872519b17232f7357c1a5d53db6ab0110575df63b0fa338ffd3", func := "loop.example/g00978/laws.FnExactLargeTrim", spec := "fnExactLargeTrim", apart := false }
def FnExactLargeTrimSaid : Prop := fnExactLargeTrimRow.holds Try.pinned (OpenSpec.ofChange fnExactLargeTrimSpec)

/-- ITS FALSE NEIGHBOUR: 'it returns false'. Refute it at one input. -/
def fnExactLargeTrimWrong : ChangeSpec := { name := "fnExactLargeTrim", fn := fun _ => fun
  | [d1, d2] => { results := [.lit (.bool false)], args := [d1, d2] }
  | _ => none }
def FnExactLargeTrimWrongFalsely : Prop := fnExactLargeTrimRow.holds Try.pinned (OpenSpec.ofChange fnExactLargeTrimWrong)

/- THE SECOND FORM. 'bulk': how many values and letters a reading holds, each counted each time it is reached (what is shared counts as often as it is met; a slice's spare places count too). A statement '..UptoSaid' is the law's where the arguments, and the package variables that the reading takes, are together of bulk at most 1048576: NARROWER than '..Said'. Prove '..Said' where nothing that the law and all that it calls make is longer than what came in: it says more and counts as full. Else prove '..UptoSaid'. A law counts once. -/
mutual
def uptoBulk {H : Type} : DataW H → Nat
  | .lit (.string bytes) => bytes.length + 1
  | .lit _ => 1
  | .nil => 1
  | .ptr d => uptoBulk d + 1
  | .slice elems spare => uptoBulkAll elems + uptoBulkAll spare + 1
  | .agg parts => uptoBulkAll parts + 1
  | .iface _ d => uptoBulk d + 1
  | .map entries => uptoBulkEntries entries + 1
  | .held _ => 1
def uptoBulkAll {H : Type} : List (DataW H) → Nat
  | [] => 0
  | d :: r => uptoBulk d + uptoBulkAll r
def uptoBulkEntries {H : Type} : List (Lit × DataW H) → Nat
  | [] => 0
  | x :: r => uptoBulkEntry x + uptoBulkEntries r
def uptoBulkEntry {H : Type} : Lit × DataW H → Nat
  | (.string bytes, d) => bytes.length + uptoBulk d + 1
  | (_, d) => uptoBulk d + 1
 end
def uptoSmall : (H : Type) → List (DataW H) → Bool := fun _ ds => decide (uptoBulkAll ds ≤ 1048576)
def OpenSpec.upto (s : _root_.Go.ChangeSpec) : _root_.Go.OpenSpec := { _root_.Go.OpenSpec.ofChange s with cond := some uptoSmall }

/-- 'laws.FnExactSplitPointer', WHERE WHAT IT READS IS OF BULK AT MOST 1048576: true; the input reads as it did. -/
def fnExactSplitPointerUptoRow : OpenClaim := { program := "ytoidaeehdekaoaa", sum := "b4e4b36dbe86e872519b17232f7357c1a5d53db6ab0110575df63b0fa338ffd3", func := "loop.example/g00978/laws.FnExactSplitPointer", spec := "fnExactSplitPointer", apart := false, narrowed := true }
def FnExactSplitPointerUptoSaid : Prop := fnExactSplitPointerUptoRow.holds Try.pinned (OpenSpec.upto fnExactSplitPointerSpec)

/-- 'laws.FnExactLargeOk', WHERE WHAT IT READS IS OF BULK AT MOST 1048576: true; the input reads as it did. -/
def fnExactLargeOkUptoRow : OpenClaim := { program := "ytoidaeehdekaoaa", sum := "b4e4b36dbe86e872519b17232f7357c1a5d53db6ab0110575df63b0fa338ffd3", func := "loop.example/g00978/laws.FnExactLargeOk", spec := "fnExactLargeOk", apart := false, narrowed := true }
def FnExactLargeOkUptoSaid : Prop := fnExactLargeOkUptoRow.holds Try.pinned (OpenSpec.upto fnExactLargeOkSpec)

/-- 'laws.FnExactLargeHas', WHERE WHAT IT READS IS OF BULK AT MOST 1048576: true; the input reads as it did. -/
def fnExactLargeHasUptoRow : OpenClaim := { program := "ytoidaeehdekaoaa", sum := "b4e4b36dbe86e872519b17232f7357c1a5d53db6ab0110575df63b0fa338ffd3", func := "loop.example/g00978/laws.FnExactLargeHas", spec := "fnExactLargeHas", apart := false, narrowed := true }
def FnExactLargeHasUptoSaid : Prop := fnExactLargeHasUptoRow.holds Try.pinned (OpenSpec.upto fnExactLargeHasSpec)

/-- 'laws.FnPointers', WHERE WHAT IT READS IS OF BULK AT MOST 1048576: true; the input reads as it did. -/
def fnPointersUptoRow : OpenClaim := { program := "ytoidaeehdekaoaa", sum := "b4e4b36dbe86e872519b17232f7357c1a5d53db6ab0110575df63b0fa338ffd3", func := "loop.example/g00978/laws.FnPointers", spec := "fnPointers", apart := false, narrowed := true }
def FnPointersUptoSaid : Prop := fnPointersUptoRow.holds Try.pinned (OpenSpec.upto fnPointersSpec)

/-- 'laws.FnExactLargeOffset', WHERE WHAT IT READS IS OF BULK AT MOST 1048576: true; the input reads as it did. -/
def fnExactLargeOffsetUptoRow : OpenClaim := { program := "ytoidaeehdekaoaa", sum := "b4e4b36dbe86e872519b17232f7357c1a5d53db6ab0110575df63b0fa338ffd3", func := "loop.example/g00978/laws.FnExactLargeOffset", spec := "fnExactLargeOffset", apart := false, narrowed := true }
def FnExactLargeOffsetUptoSaid : Prop := fnExactLargeOffsetUptoRow.holds Try.pinned (OpenSpec.upto fnExactLargeOffsetSpec)

/-- 'laws.FnExactLargeNew', WHERE WHAT IT READS IS OF BULK AT MOST 1048576: true; the input reads as it did. -/
def fnExactLargeNewUptoRow : OpenClaim := { program := "ytoidaeehdekaoaa", sum := "b4e4b36dbe86e872519b17232f7357c1a5d53db6ab0110575df63b0fa338ffd3", func := "loop.example/g00978/laws.FnExactLargeNew", spec := "fnExactLargeNew", apart := false, narrowed := true }
def FnExactLargeNewUptoSaid : Prop := fnExactLargeNewUptoRow.holds Try.pinned (OpenSpec.upto fnExactLargeNewSpec)

/-- 'laws.FnInterior', WHERE WHAT IT READS IS OF BULK AT MOST 1048576: true; the input reads as it did. -/
def fnInteriorUptoRow : OpenClaim := { program := "ytoidaeehdekaoaa", sum := "b4e4b36dbe86e872519b17232f7357c1a5d53db6ab0110575df63b0fa338ffd3", func := "loop.example/g00978/laws.FnInterior", spec := "fnInterior", apart := false, narrowed := true }
def FnInteriorUptoSaid : Prop := fnInteriorUptoRow.holds Try.pinned (OpenSpec.upto fnInteriorSpec)

/-- 'laws.FnTrimmed', WHERE WHAT IT READS IS OF BULK AT MOST 1048576: true; the input reads as it did. -/
def fnTrimmedUptoRow : OpenClaim := { program := "ytoidaeehdekaoaa", sum := "b4e4b36dbe86e872519b17232f7357c1a5d53db6ab0110575df63b0fa338ffd3", func := "loop.example/g00978/laws.FnTrimmed", spec := "fnTrimmed", apart := false, narrowed := true }
def FnTrimmedUptoSaid : Prop := fnTrimmedUptoRow.holds Try.pinned (OpenSpec.upto fnTrimmedSpec)

/-- 'laws.FnExactLargeTrim', WHERE WHAT IT READS IS OF BULK AT MOST 1048576: true; the input reads as it did. -/
def fnExactLargeTrimUptoRow : OpenClaim := { program := "ytoidaeehdekaoaa", sum := "b4e4b36dbe86e872519b17232f7357c1a5d53db6ab0110575df63b0fa338ffd3", func := "loop.example/g00978/laws.FnExactLargeTrim", spec := "fnExactLargeTrim", apart := false, narrowed := true }
def FnExactLargeTrimUptoSaid : Prop := fnExactLargeTrimUptoRow.holds Try.pinned (OpenSpec.upto fnExactLargeTrimSpec)

end Rows
end Go.Proofs.Ytoidaeehdekaoaa
