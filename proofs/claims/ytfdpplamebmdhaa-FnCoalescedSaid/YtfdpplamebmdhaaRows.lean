/-
  No cell of these rows narrows 'for every input' (looked for: loops, veiled, ifaces, maps, wideKeys, modest, calm, conditions, laid).
  DERIVED. THE GIVEN ROWS OF THIS SEAT. 9 by the template 'for every input the law returns true; each argument reads behind the call as it read before'; 0 by the template 'total and deterministic' (their statements: YtfdpplamebmdhaaTotals.lean).
  GIVEN WITH THE SEED: the statements are not yours to turn. If you find one false, say at which input.
  Laid BY PROGRAM, IN A SANDBOX (cutbox-rows.mjs): the forced cells as the released guide's own fill.sh prints them over the translation d7a6d01daa2eec65… (all of the seat's roots in one cut). By AI agents, Wed Nov 11 2026. No macro, syntax, notation, axiom, sorry.
-/
import Derived.Test.YtfdpplamebmdhaaChecked
import GoSem.Claim
import GoSem.ClaimJoined
import GoSem.ClaimMapViews
import Derived.JoinedTies
import Derived.KernelRfl
namespace Go.Proofs.Ytfdpplamebmdhaa
/- THE CELL 'sum', in the pinned program and in every row, IS THE sha256 OF THE DUMP (.gsa) THAT YtfdpplamebmdhaaProg.lean LOADS. Nothing in Lean hashes anything: it is a label: what it is worth is what the hold of that sum in a sandbox is worth. -/
noncomputable def Try.pinned : Pinned := { name := "ytfdpplamebmdhaa", sum := "d7a6d01daa2eec65993208a9b4b0e8c66865c4cb584d55c41d66b22de95c3ddb", checked := Try.checked }
namespace Rows
def none {H : Type} : Left H := { results := [], args := [] }

/-- 'laws.FnExactRangePages': WHATEVER THE INPUT: true; the input reads as it did. -/
def fnExactRangePagesSpec : ChangeSpec := { name := "fnExactRangePages", fn := fun _ => fun
  | [d] => { results := [.lit (.bool true)], args := [d] }
  | _ => none }
def fnExactRangePagesRow : OpenClaim := { program := "ytfdpplamebmdhaa", sum := "d7a6d01daa2eec65993208a9b4b0e8c66865c4cb584d55c41d66b22de95c3ddb", func := "loop.example/g00978/laws.FnExactRangePages", spec := "fnExactRangePages", apart := false }
def FnExactRangePagesSaid : Prop := fnExactRangePagesRow.holds Try.pinned (OpenSpec.ofChange fnExactRangePagesSpec)

/-- ITS FALSE NEIGHBOUR: 'it returns false'. Refute it at one input. -/
def fnExactRangePagesWrong : ChangeSpec := { name := "fnExactRangePages", fn := fun _ => fun
  | [d] => { results := [.lit (.bool false)], args := [d] }
  | _ => none }
def FnExactRangePagesWrongFalsely : Prop := fnExactRangePagesRow.holds Try.pinned (OpenSpec.ofChange fnExactRangePagesWrong)

/-- 'laws.FnExactWidestRange': WHATEVER THE INPUT: true; the input reads as it did. -/
def fnExactWidestRangeSpec : ChangeSpec := { name := "fnExactWidestRange", fn := fun _ => fun
  | [d] => { results := [.lit (.bool true)], args := [d] }
  | _ => none }
def fnExactWidestRangeRow : OpenClaim := { program := "ytfdpplamebmdhaa", sum := "d7a6d01daa2eec65993208a9b4b0e8c66865c4cb584d55c41d66b22de95c3ddb", func := "loop.example/g00978/laws.FnExactWidestRange", spec := "fnExactWidestRange", apart := false }
def FnExactWidestRangeSaid : Prop := fnExactWidestRangeRow.holds Try.pinned (OpenSpec.ofChange fnExactWidestRangeSpec)

/-- ITS FALSE NEIGHBOUR: 'it returns false'. Refute it at one input. -/
def fnExactWidestRangeWrong : ChangeSpec := { name := "fnExactWidestRange", fn := fun _ => fun
  | [d] => { results := [.lit (.bool false)], args := [d] }
  | _ => none }
def FnExactWidestRangeWrongFalsely : Prop := fnExactWidestRangeRow.holds Try.pinned (OpenSpec.ofChange fnExactWidestRangeWrong)

/-- 'laws.FnExactRangeHas': WHATEVER THE INPUT: true; the input reads as it did. -/
def fnExactRangeHasSpec : ChangeSpec := { name := "fnExactRangeHas", fn := fun _ => fun
  | [d1, d2] => { results := [.lit (.bool true)], args := [d1, d2] }
  | _ => none }
def fnExactRangeHasRow : OpenClaim := { program := "ytfdpplamebmdhaa", sum := "d7a6d01daa2eec65993208a9b4b0e8c66865c4cb584d55c41d66b22de95c3ddb", func := "loop.example/g00978/laws.FnExactRangeHas", spec := "fnExactRangeHas", unfollowed := true, recurses := true, apart := false }
def FnExactRangeHasSaid : Prop := fnExactRangeHasRow.holds Try.pinned (OpenSpec.ofChange fnExactRangeHasSpec)

/-- ITS FALSE NEIGHBOUR: 'it returns false'. Refute it at one input. -/
def fnExactRangeHasWrong : ChangeSpec := { name := "fnExactRangeHas", fn := fun _ => fun
  | [d1, d2] => { results := [.lit (.bool false)], args := [d1, d2] }
  | _ => none }
def FnExactRangeHasWrongFalsely : Prop := fnExactRangeHasRow.holds Try.pinned (OpenSpec.ofChange fnExactRangeHasWrong)

/-- 'laws.FnExactRangesOk': WHATEVER THE INPUT: true; the input reads as it did. -/
def fnExactRangesOkSpec : ChangeSpec := { name := "fnExactRangesOk", fn := fun _ => fun
  | [d1, d2] => { results := [.lit (.bool true)], args := [d1, d2] }
  | _ => none }
def fnExactRangesOkRow : OpenClaim := { program := "ytfdpplamebmdhaa", sum := "d7a6d01daa2eec65993208a9b4b0e8c66865c4cb584d55c41d66b22de95c3ddb", func := "loop.example/g00978/laws.FnExactRangesOk", spec := "fnExactRangesOk", apart := false }
def FnExactRangesOkSaid : Prop := fnExactRangesOkRow.holds Try.pinned (OpenSpec.ofChange fnExactRangesOkSpec)

/-- ITS FALSE NEIGHBOUR: 'it returns false'. Refute it at one input. -/
def fnExactRangesOkWrong : ChangeSpec := { name := "fnExactRangesOk", fn := fun _ => fun
  | [d1, d2] => { results := [.lit (.bool false)], args := [d1, d2] }
  | _ => none }
def FnExactRangesOkWrongFalsely : Prop := fnExactRangesOkRow.holds Try.pinned (OpenSpec.ofChange fnExactRangesOkWrong)

/-- 'laws.FnCoalesced': WHATEVER THE INPUT: true; the input reads as it did. -/
def fnCoalescedSpec : ChangeSpec := { name := "fnCoalesced", fn := fun _ => fun
  | [d] => { results := [.lit (.bool true)], args := [d] }
  | _ => none }
def fnCoalescedRow : OpenClaim := { program := "ytfdpplamebmdhaa", sum := "d7a6d01daa2eec65993208a9b4b0e8c66865c4cb584d55c41d66b22de95c3ddb", func := "loop.example/g00978/laws.FnCoalesced", spec := "fnCoalesced", apart := false }
def FnCoalescedSaid : Prop := fnCoalescedRow.holds Try.pinned (OpenSpec.ofChange fnCoalescedSpec)

/-- ITS FALSE NEIGHBOUR: 'it returns false'. Refute it at one input. -/
def fnCoalescedWrong : ChangeSpec := { name := "fnCoalesced", fn := fun _ => fun
  | [d] => { results := [.lit (.bool false)], args := [d] }
  | _ => none }
def FnCoalescedWrongFalsely : Prop := fnCoalescedRow.holds Try.pinned (OpenSpec.ofChange fnCoalescedWrong)

/-- 'laws.FnExactRangeTake': WHATEVER THE INPUT: true; the input reads as it did. -/
def fnExactRangeTakeSpec : ChangeSpec := { name := "fnExactRangeTake", fn := fun _ => fun
  | [d1, d2, d3] => { results := [.lit (.bool true)], args := [d1, d2, d3] }
  | _ => none }
def fnExactRangeTakeRow : OpenClaim := { program := "ytfdpplamebmdhaa", sum := "d7a6d01daa2eec65993208a9b4b0e8c66865c4cb584d55c41d66b22de95c3ddb", func := "loop.example/g00978/laws.FnExactRangeTake", spec := "fnExactRangeTake", apart := false }
def FnExactRangeTakeSaid : Prop := fnExactRangeTakeRow.holds Try.pinned (OpenSpec.ofChange fnExactRangeTakeSpec)

/-- ITS FALSE NEIGHBOUR: 'it returns false'. Refute it at one input. -/
def fnExactRangeTakeWrong : ChangeSpec := { name := "fnExactRangeTake", fn := fun _ => fun
  | [d1, d2, d3] => { results := [.lit (.bool false)], args := [d1, d2, d3] }
  | _ => none }
def FnExactRangeTakeWrongFalsely : Prop := fnExactRangeTakeRow.holds Try.pinned (OpenSpec.ofChange fnExactRangeTakeWrong)

/-- 'laws.FnExactRangePut': WHATEVER THE INPUT: true; the input reads as it did. -/
def fnExactRangePutSpec : ChangeSpec := { name := "fnExactRangePut", fn := fun _ => fun
  | [d1, d2, d3] => { results := [.lit (.bool true)], args := [d1, d2, d3] }
  | _ => none }
def fnExactRangePutRow : OpenClaim := { program := "ytfdpplamebmdhaa", sum := "d7a6d01daa2eec65993208a9b4b0e8c66865c4cb584d55c41d66b22de95c3ddb", func := "loop.example/g00978/laws.FnExactRangePut", spec := "fnExactRangePut", apart := false }
def FnExactRangePutSaid : Prop := fnExactRangePutRow.holds Try.pinned (OpenSpec.ofChange fnExactRangePutSpec)

/-- ITS FALSE NEIGHBOUR: 'it returns false'. Refute it at one input. -/
def fnExactRangePutWrong : ChangeSpec := { name := "fnExactRangePut", fn := fun _ => fun
  | [d1, d2, d3] => { results := [.lit (.bool false)], args := [d1, d2, d3] }
  | _ => none }
def FnExactRangePutWrongFalsely : Prop := fnExactRangePutRow.holds Try.pinned (OpenSpec.ofChange fnExactRangePutWrong)

/-- 'laws.FnBestFit': WHATEVER THE INPUT: true; the input reads as it did. -/
def fnBestFitSpec : ChangeSpec := { name := "fnBestFit", fn := fun _ => fun
  | [d] => { results := [.lit (.bool true)], args := [d] }
  | _ => none }
def fnBestFitRow : OpenClaim := { program := "ytfdpplamebmdhaa", sum := "d7a6d01daa2eec65993208a9b4b0e8c66865c4cb584d55c41d66b22de95c3ddb", func := "loop.example/g00978/laws.FnBestFit", spec := "fnBestFit", apart := false }
def FnBestFitSaid : Prop := fnBestFitRow.holds Try.pinned (OpenSpec.ofChange fnBestFitSpec)

/-- ITS FALSE NEIGHBOUR: 'it returns false'. Refute it at one input. -/
def fnBestFitWrong : ChangeSpec := { name := "fnBestFit", fn := fun _ => fun
  | [d] => { results := [.lit (.bool false)], args := [d] }
  | _ => none }
def FnBestFitWrongFalsely : Prop := fnBestFitRow.holds Try.pinned (OpenSpec.ofChange fnBestFitWrong)

/-- 'laws.FnRanges': WHATEVER THE INPUT: true; the input reads as it did. -/
def fnRangesSpec : ChangeSpec := { name := "fnRanges", fn := fun _ => fun
  | [d] => { results := [.lit (.bool true)], args := [d] }
  | _ => none }
def fnRangesRow : OpenClaim := { program := "ytfdpplamebmdhaa", sum := "d7a6d01daa2eec65993208a9b4b0e8c66865c4cb584d55c41d66b22de95c3ddb", func := "loop.example/g00978/laws.FnRanges", spec := "fnRanges", unfollowed := true, recurses := true, apart := false }
def FnRangesSaid : Prop := fnRangesRow.holds Try.pinned (OpenSpec.ofChange fnRangesSpec)

/-- ITS FALSE NEIGHBOUR: 'it returns false'. Refute it at one input. -/
def fnRangesWrong : ChangeSpec := { name := "fnRanges", fn := fun _ => fun
  | [d] => { results := [.lit (.bool false)], args := [d] }
  | _ => none }
def FnRangesWrongFalsely : Prop := fnRangesRow.holds Try.pinned (OpenSpec.ofChange fnRangesWrong)

/- THE SECOND FORM. 'bulk': how many values and letters a reading holds, each counted each time it is reached (what is shared counts as often as it is met; a slice's spare places count too). A statement '..UptoSaid' is the law's where the arguments, and the package variables that the reading takes, are together of bulk at most 1048576: NARROWER than '..Said'. Prove '..Said' where nothing that the law and all that it calls make is longer than what came in: it says more and counts as full. Else prove '..UptoSaid'. A law counts once. -/
mutual
def uptoBulk {H : Type} : DataW H → Nat
  | .lit (.string bytes) => bytes.length + 1
  | .lit _ => 1
  | .nil => 1
  | .ptr d => uptoBulk d + 1
  | .slice elems spare => uptoBulkAll elems + uptoBulkAll spare + 1
  | .agg parts => uptoBulkAll parts + 1
  | .iface _ d => uptoBulk d + 1
  | .map entries => uptoBulkEntries entries + 1
  | .held _ => 1
def uptoBulkAll {H : Type} : List (DataW H) → Nat
  | [] => 0
  | d :: r => uptoBulk d + uptoBulkAll r
def uptoBulkEntries {H : Type} : List (Lit × DataW H) → Nat
  | [] => 0
  | x :: r => uptoBulkEntry x + uptoBulkEntries r
def uptoBulkEntry {H : Type} : Lit × DataW H → Nat
  | (.string bytes, d) => bytes.length + uptoBulk d + 1
  | (_, d) => uptoBulk d + 1
 end
def uptoSmall : (H : Type) → List (DataW H) → Bool := fun _ ds => decide (uptoBulkAll ds ≤ 1048576)
def OpenSpec.upto (s : _root_.Go.ChangeSpec) : _root_.Go.OpenSpec := { _root_.Go.OpenSpec.ofChange s with cond := some uptoSmall }

/-- 'laws.FnExactRangePages', WHERE WHAT IT READS IS OF BULK AT MOST 1048576: true; the input reads as it did. -/
def fnExactRangePagesUptoRow : OpenClaim := { program := "ytfdpplamebmdhaa", sum := "d7a6d01daa2eec65993208a9b4b0e8c66865c4cb584d55c41d66b22de95c3ddb", func := "loop.example/g00978/laws.FnExactRangePages", spec := "fnExactRangePages", apart := false, narrowed := true }
def FnExactRangePagesUptoSaid : Prop := fnExactRangePagesUptoRow.holds Try.pinned (OpenSpec.upto fnExactRangePagesSpec)

/-- 'laws.FnExactWidestRange', WHERE WHAT IT READS IS OF BULK AT MOST 1048576: true; the input reads as it did. -/
def fnExactWidestRangeUptoRow : OpenClaim := { program := "ytfdpplamebmdhaa", sum := "d7a6d01daa2eec65993208a9b4b0e8c66865c4cb584d55c41d66b22de95c3ddb", func := "loop.example/g00978/laws.FnExactWidestRange", spec := "fnExactWidestRange", apart := false, narrowed := true }
def FnExactWidestRangeUptoSaid : Prop := fnExactWidestRangeUptoRow.holds Try.pinned (OpenSpec.upto fnExactWidestRangeSpec)

/-- 'laws.FnExactRangeHas', WHERE WHAT IT READS IS OF BULK AT MOST 1048576: true; the input reads as it did. -/
def fnExactRangeHasUptoRow : OpenClaim := { program := "ytfdpplamebmdhaa", sum := "d7a6d01daa2eec65993208a9b4b0e8c66865c4cb584d55c41d66b22de95c3ddb", func := "loop.example/g00978/laws.FnExactRangeHas", spec := "fnExactRangeHas", unfollowed := true, recurses := true, apart := false, narrowed := true }
def FnExactRangeHasUptoSaid : Prop := fnExactRangeHasUptoRow.holds Try.pinned (OpenSpec.upto fnExactRangeHasSpec)

/-- 'laws.FnExactRangesOk', WHERE WHAT IT READS IS OF BULK AT MOST 1048576: true; the input reads as it did. -/
def fnExactRangesOkUptoRow : OpenClaim := { program := "ytfdpplamebmdhaa", sum := "d7a6d01daa2eec65993208a9b4b0e8c66865c4cb584d55c41d66b22de95c3ddb", func := "loop.example/g00978/laws.FnExactRangesOk", spec := "fnExactRangesOk", apart := false, narrowed := true }
def FnExactRangesOkUptoSaid : Prop := fnExactRangesOkUptoRow.holds Try.pinned (OpenSpec.upto fnExactRangesOkSpec)

/-- 'laws.FnCoalesced', WHERE WHAT IT READS IS OF BULK AT MOST 1048576: true; the input reads as it did. -/
def fnCoalescedUptoRow : OpenClaim := { program := "ytfdpplamebmdhaa", sum := "d7a6d01daa2eec65993208a9b4b0e8c66865c4cb584d55c41d66b22de95c3ddb", func := "loop.example/g00978/laws.FnCoalesced", spec := "fnCoalesced", apart := false, narrowed := true }
def FnCoalescedUptoSaid : Prop := fnCoalescedUptoRow.holds Try.pinned (OpenSpec.upto fnCoalescedSpec)

/-- 'laws.FnExactRangeTake', WHERE WHAT IT READS IS OF BULK AT MOST 1048576: true; the input reads as it did. -/
def fnExactRangeTakeUptoRow : OpenClaim := { program := "ytfdpplamebmdhaa", sum := "d7a6d01daa2eec65993208a9b4b0e8c66865c4cb584d55c41d66b22de95c3ddb", func := "loop.example/g00978/laws.FnExactRangeTake", spec := "fnExactRangeTake", apart := false, narrowed := true }
def FnExactRangeTakeUptoSaid : Prop := fnExactRangeTakeUptoRow.holds Try.pinned (OpenSpec.upto fnExactRangeTakeSpec)

/-- 'laws.FnExactRangePut', WHERE WHAT IT READS IS OF BULK AT MOST 1048576: true; the input reads as it did. -/
def fnExactRangePutUptoRow : OpenClaim := { program := "ytfdpplamebmdhaa", sum := "d7a6d01daa2eec65993208a9b4b0e8c66865c4cb584d55c41d66b22de95c3ddb", func := "loop.example/g00978/laws.FnExactRangePut", spec := "fnExactRangePut", apart := false, narrowed := true }
def FnExactRangePutUptoSaid : Prop := fnExactRangePutUptoRow.holds Try.pinned (OpenSpec.upto fnExactRangePutSpec)

/-- 'laws.FnBestFit', WHERE WHAT IT READS IS OF BULK AT MOST 1048576: true; the input reads as it did. -/
def fnBestFitUptoRow : OpenClaim := { program := "ytfdpplamebmdhaa", sum := "d7a6d01daa2eec65993208a9b4b0e8c66865c4cb584d55c41d66b22de95c3ddb", func := "loop.example/g00978/laws.FnBestFit", spec := "fnBestFit", apart := false, narrowed := true }
def FnBestFitUptoSaid : Prop := fnBestFitUptoRow.holds Try.pinned (OpenSpec.upto fnBestFitSpec)

/-- 'laws.FnRanges', WHERE WHAT IT READS IS OF BULK AT MOST 1048576: true; the input reads as it did. -/
def fnRangesUptoRow : OpenClaim := { program := "ytfdpplamebmdhaa", sum := "d7a6d01daa2eec65993208a9b4b0e8c66865c4cb584d55c41d66b22de95c3ddb", func := "loop.example/g00978/laws.FnRanges", spec := "fnRanges", unfollowed := true, recurses := true, apart := false, narrowed := true }
def FnRangesUptoSaid : Prop := fnRangesUptoRow.holds Try.pinned (OpenSpec.upto fnRangesSpec)

end Rows
end Go.Proofs.Ytfdpplamebmdhaa
