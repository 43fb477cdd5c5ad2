/-
  No cell of these rows narrows 'for every input' (looked for: loops, veiled, ifaces, maps, wideKeys, modest, calm, conditions, laid).
  DERIVED. THE GIVEN ROWS OF THIS SEAT. 8 by the template 'for every input the law returns true; each argument reads behind the call as it read before'; 0 by the template 'total and deterministic' (their statements: YtjimpmdelnnflaaTotals.lean).
  GIVEN WITH THE SEED: the statements are not yours to turn. If you find one false, say at which input.
  Laid BY PROGRAM, IN A SANDBOX (cutbox-rows.mjs): the forced cells as the released guide's own fill.sh prints them over the translation c86836f1751e7d87… (all of the seat's roots in one cut). By AI agents, Wed Nov 11 2026. No macro, syntax, notation, axiom, sorry.
-/
import Derived.Test.YtjimpmdelnnflaaChecked
import GoSem.Claim
import GoSem.ClaimJoined
import GoSem.ClaimMapViews
import Derived.JoinedTies
import Derived.KernelRfl
namespace Go.Proofs.Ytjimpmdelnnflaa
/- THE CELL 'sum', in the pinned program and in every row, IS THE sha256 OF THE DUMP (.gsa) THAT YtjimpmdelnnflaaProg.lean LOADS. Nothing in Lean hashes anything: it is a label: what it is worth is what the hold of that sum in a sandbox is worth. -/
noncomputable def Try.pinned : Pinned := { name := "ytjimpmdelnnflaa", sum := "c86836f1751e7d87529f49c8171ba9fbe489f5edf1e11f8e99e73503ddaf013d", checked := Try.checked }
namespace Rows
def none {H : Type} : Left H := { results := [], args := [] }

/-- 'laws.FnDenotes': WHATEVER THE INPUT: true; the input reads as it did. -/
def fnDenotesSpec : ChangeSpec := { name := "fnDenotes", fn := fun _ => fun
  | [d] => { results := [.lit (.bool true)], args := [d] }
  | _ => none }
def fnDenotesRow : OpenClaim := { program := "ytjimpmdelnnflaa", sum := "c86836f1751e7d87529f49c8171ba9fbe489f5edf1e11f8e99e73503ddaf013d", func := "loop.example/g00978/laws.FnDenotes", spec := "fnDenotes", unfollowed := true, recurses := true, apart := false }
def FnDenotesSaid : Prop := fnDenotesRow.holds Try.pinned (OpenSpec.ofChange fnDenotesSpec)

/-- ITS FALSE NEIGHBOUR: 'it returns false'. Refute it at one input. -/
def fnDenotesWrong : ChangeSpec := { name := "fnDenotes", fn := fun _ => fun
  | [d] => { results := [.lit (.bool false)], args := [d] }
  | _ => none }
def FnDenotesWrongFalsely : Prop := fnDenotesRow.holds Try.pinned (OpenSpec.ofChange fnDenotesWrong)

/-- 'laws.FnExactLiveAddrs': WHATEVER THE INPUT: true; the input reads as it did. -/
def fnExactLiveAddrsSpec : ChangeSpec := { name := "fnExactLiveAddrs", fn := fun _ => fun
  | [d1, d2] => { results := [.lit (.bool true)], args := [d1, d2] }
  | _ => none }
def fnExactLiveAddrsRow : OpenClaim := { program := "ytjimpmdelnnflaa", sum := "c86836f1751e7d87529f49c8171ba9fbe489f5edf1e11f8e99e73503ddaf013d", func := "loop.example/g00978/laws.FnExactLiveAddrs", spec := "fnExactLiveAddrs", unfollowed := true, recurses := true, apart := false }
def FnExactLiveAddrsSaid : Prop := fnExactLiveAddrsRow.holds Try.pinned (OpenSpec.ofChange fnExactLiveAddrsSpec)

/-- ITS FALSE NEIGHBOUR: 'it returns false'. Refute it at one input. -/
def fnExactLiveAddrsWrong : ChangeSpec := { name := "fnExactLiveAddrs", fn := fun _ => fun
  | [d1, d2] => { results := [.lit (.bool false)], args := [d1, d2] }
  | _ => none }
def FnExactLiveAddrsWrongFalsely : Prop := fnExactLiveAddrsRow.holds Try.pinned (OpenSpec.ofChange fnExactLiveAddrsWrong)

/-- 'laws.FnExactLayoutOk': WHATEVER THE INPUT: true; the input reads as it did. -/
def fnExactLayoutOkSpec : ChangeSpec := { name := "fnExactLayoutOk", fn := fun _ => fun
  | [d1, d2] => { results := [.lit (.bool true)], args := [d1, d2] }
  | _ => none }
def fnExactLayoutOkRow : OpenClaim := { program := "ytjimpmdelnnflaa", sum := "c86836f1751e7d87529f49c8171ba9fbe489f5edf1e11f8e99e73503ddaf013d", func := "loop.example/g00978/laws.FnExactLayoutOk", spec := "fnExactLayoutOk", unfollowed := true, recurses := true, apart := false }
def FnExactLayoutOkSaid : Prop := fnExactLayoutOkRow.holds Try.pinned (OpenSpec.ofChange fnExactLayoutOkSpec)

/-- ITS FALSE NEIGHBOUR: 'it returns false'. Refute it at one input. -/
def fnExactLayoutOkWrong : ChangeSpec := { name := "fnExactLayoutOk", fn := fun _ => fun
  | [d1, d2] => { results := [.lit (.bool false)], args := [d1, d2] }
  | _ => none }
def FnExactLayoutOkWrongFalsely : Prop := fnExactLayoutOkRow.holds Try.pinned (OpenSpec.ofChange fnExactLayoutOkWrong)

/-- 'laws.FnOffsets': WHATEVER THE INPUT: true; the input reads as it did. -/
def fnOffsetsSpec : ChangeSpec := { name := "fnOffsets", fn := fun _ => fun
  | [d] => { results := [.lit (.bool true)], args := [d] }
  | _ => none }
def fnOffsetsRow : OpenClaim := { program := "ytjimpmdelnnflaa", sum := "c86836f1751e7d87529f49c8171ba9fbe489f5edf1e11f8e99e73503ddaf013d", func := "loop.example/g00978/laws.FnOffsets", spec := "fnOffsets", unfollowed := true, recurses := true, apart := false }
def FnOffsetsSaid : Prop := fnOffsetsRow.holds Try.pinned (OpenSpec.ofChange fnOffsetsSpec)

/-- ITS FALSE NEIGHBOUR: 'it returns false'. Refute it at one input. -/
def fnOffsetsWrong : ChangeSpec := { name := "fnOffsets", fn := fun _ => fun
  | [d] => { results := [.lit (.bool false)], args := [d] }
  | _ => none }
def FnOffsetsWrongFalsely : Prop := fnOffsetsRow.holds Try.pinned (OpenSpec.ofChange fnOffsetsWrong)

/-- 'laws.FnLive': WHATEVER THE INPUT: true; the input reads as it did. -/
def fnLiveSpec : ChangeSpec := { name := "fnLive", fn := fun _ => fun
  | [d] => { results := [.lit (.bool true)], args := [d] }
  | _ => none }
def fnLiveRow : OpenClaim := { program := "ytjimpmdelnnflaa", sum := "c86836f1751e7d87529f49c8171ba9fbe489f5edf1e11f8e99e73503ddaf013d", func := "loop.example/g00978/laws.FnLive", spec := "fnLive", unfollowed := true, recurses := true, apart := false }
def FnLiveSaid : Prop := fnLiveRow.holds Try.pinned (OpenSpec.ofChange fnLiveSpec)

/-- ITS FALSE NEIGHBOUR: 'it returns false'. Refute it at one input. -/
def fnLiveWrong : ChangeSpec := { name := "fnLive", fn := fun _ => fun
  | [d] => { results := [.lit (.bool false)], args := [d] }
  | _ => none }
def FnLiveWrongFalsely : Prop := fnLiveRow.holds Try.pinned (OpenSpec.ofChange fnLiveWrong)

/-- 'laws.FnExactLiveCells': WHATEVER THE INPUT: true; the input reads as it did. -/
def fnExactLiveCellsSpec : ChangeSpec := { name := "fnExactLiveCells", fn := fun _ => fun
  | [d1, d2] => { results := [.lit (.bool true)], args := [d1, d2] }
  | _ => none }
def fnExactLiveCellsRow : OpenClaim := { program := "ytjimpmdelnnflaa", sum := "c86836f1751e7d87529f49c8171ba9fbe489f5edf1e11f8e99e73503ddaf013d", func := "loop.example/g00978/laws.FnExactLiveCells", spec := "fnExactLiveCells", unfollowed := true, recurses := true, apart := false }
def FnExactLiveCellsSaid : Prop := fnExactLiveCellsRow.holds Try.pinned (OpenSpec.ofChange fnExactLiveCellsSpec)

/-- ITS FALSE NEIGHBOUR: 'it returns false'. Refute it at one input. -/
def fnExactLiveCellsWrong : ChangeSpec := { name := "fnExactLiveCells", fn := fun _ => fun
  | [d1, d2] => { results := [.lit (.bool false)], args := [d1, d2] }
  | _ => none }
def FnExactLiveCellsWrongFalsely : Prop := fnExactLiveCellsRow.holds Try.pinned (OpenSpec.ofChange fnExactLiveCellsWrong)

/-- 'laws.FnExactDenotes': WHATEVER THE INPUT: true; the input reads as it did. -/
def fnExactDenotesSpec : ChangeSpec := { name := "fnExactDenotes", fn := fun _ => fun
  | [d1, d2, d3] => { results := [.lit (.bool true)], args := [d1, d2, d3] }
  | _ => none }
def fnExactDenotesRow : OpenClaim := { program := "ytjimpmdelnnflaa", sum := "c86836f1751e7d87529f49c8171ba9fbe489f5edf1e11f8e99e73503ddaf013d", func := "loop.example/g00978/laws.FnExactDenotes", spec := "fnExactDenotes", unfollowed := true, recurses := true, apart := false }
def FnExactDenotesSaid : Prop := fnExactDenotesRow.holds Try.pinned (OpenSpec.ofChange fnExactDenotesSpec)

/-- ITS FALSE NEIGHBOUR: 'it returns false'. Refute it at one input. -/
def fnExactDenotesWrong : ChangeSpec := { name := "fnExactDenotes", fn := fun _ => fun
  | [d1, d2, d3] => { results := [.lit (.bool false)], args := [d1, d2, d3] }
  | _ => none }
def FnExactDenotesWrongFalsely : Prop := fnExactDenotesRow.holds Try.pinned (OpenSpec.ofChange fnExactDenotesWrong)

/-- 'laws.FnExactFreeCode': WHATEVER THE INPUT: true; the input reads as it did. -/
def fnExactFreeCodeSpec : ChangeSpec := { name := "fnExactFreeCode", fn := fun _ => fun
  | [d1, d2, d3] => { results := [.lit (.bool true)], args := [d1, d2, d3] }
  | _ => none }
def fnExactFreeCodeRow : OpenClaim := { program := "ytjimpmdelnnflaa", sum := "c86836f1751e7d87529f49c8171ba9fbe489f5edf1e11f8e99e73503ddaf013d", func := "loop.example/g00978/laws.FnExactFreeCode", spec := "fnExactFreeCode", unfollowed := true, recurses := true, apart := false }
def FnExactFreeCodeSaid : Prop := fnExactFreeCodeRow.holds Try.pinned (OpenSpec.ofChange fnExactFreeCodeSpec)

/-- ITS FALSE NEIGHBOUR: 'it returns false'. Refute it at one input. -/
def fnExactFreeCodeWrong : ChangeSpec := { name := "fnExactFreeCode", fn := fun _ => fun
  | [d1, d2, d3] => { results := [.lit (.bool false)], args := [d1, d2, d3] }
  | _ => none }
def FnExactFreeCodeWrongFalsely : Prop := fnExactFreeCodeRow.holds Try.pinned (OpenSpec.ofChange fnExactFreeCodeWrong)

/- THE SECOND FORM. 'bulk': how many values and letters a reading holds, each counted each time it is reached (what is shared counts as often as it is met; a slice's spare places count too). A statement '..UptoSaid' is the law's where the arguments, and the package variables that the reading takes, are together of bulk at most 1048576: NARROWER than '..Said'. Prove '..Said' where nothing that the law and all that it calls make is longer than what came in: it says more and counts as full. Else prove '..UptoSaid'. A law counts once. -/
mutual
def uptoBulk {H : Type} : DataW H → Nat
  | .lit (.string bytes) => bytes.length + 1
  | .lit _ => 1
  | .nil => 1
  | .ptr d => uptoBulk d + 1
  | .slice elems spare => uptoBulkAll elems + uptoBulkAll spare + 1
  | .agg parts => uptoBulkAll parts + 1
  | .iface _ d => uptoBulk d + 1
  | .map entries => uptoBulkEntries entries + 1
  | .held _ => 1
def uptoBulkAll {H : Type} : List (DataW H) → Nat
  | [] => 0
  | d :: r => uptoBulk d + uptoBulkAll r
def uptoBulkEntries {H : Type} : List (Lit × DataW H) → Nat
  | [] => 0
  | x :: r => uptoBulkEntry x + uptoBulkEntries r
def uptoBulkEntry {H : Type} : Lit × DataW H → Nat
  | (.string bytes, d) => bytes.length + uptoBulk d + 1
  | (_, d) => uptoBulk d + 1
 end
def uptoSmall : (H : Type) → List (DataW H) → Bool := fun _ ds => decide (uptoBulkAll ds ≤ 1048576)
def OpenSpec.upto (s : _root_.Go.ChangeSpec) : _root_.Go.OpenSpec := { _root_.Go.OpenSpec.ofChange s with cond := some uptoSmall }

/-- 'laws.FnDenotes', WHERE WHAT IT READS IS OF BULK AT MOST 1048576: true; the input reads as it did. -/
def fnDenotesUptoRow : OpenClaim := { program := "ytjimpmdelnnflaa", sum := "c86836f1751e7d87529f49c8171ba9fbe489f5edf1e11f8e99e73503ddaf013d", func := "loop.example/g00978/laws.FnDenotes", spec := "fnDenotes", unfollowed := true, recurses := true, apart := false, narrowed := true }
def FnDenotesUptoSaid : Prop := fnDenotesUptoRow.holds Try.pinned (OpenSpec.upto fnDenotesSpec)

/-- 'laws.FnExactLiveAddrs', WHERE WHAT IT READS IS OF BULK AT MOST 1048576: true; the input reads as it did. -/
def fnExactLiveAddrsUptoRow : OpenClaim := { program := "ytjimpmdelnnflaa", sum := "c86836f1751e7d87529f49c8171ba9fbe489f5edf1e11f8e99e73503ddaf013d", func := "loop.example/g00978/laws.FnExactLiveAddrs", spec := "fnExactLiveAddrs", unfollowed := true, recurses := true, apart := false, narrowed := true }
def FnExactLiveAddrsUptoSaid : Prop := fnExactLiveAddrsUptoRow.holds Try.pinned (OpenSpec.upto fnExactLiveAddrsSpec)

/-- 'laws.FnExactLayoutOk', WHERE WHAT IT READS IS OF BULK AT MOST 1048576: true; the input reads as it did. -/
def fnExactLayoutOkUptoRow : OpenClaim := { program := "ytjimpmdelnnflaa", sum := "c86836f1751e7d87529f49c8171ba9fbe489f5edf1e11f8e99e73503ddaf013d", func := "loop.example/g00978/laws.FnExactLayoutOk", spec := "fnExactLayoutOk", unfollowed := true, recurses := true, apart := false, narrowed := true }
def FnExactLayoutOkUptoSaid : Prop := fnExactLayoutOkUptoRow.holds Try.pinned (OpenSpec.upto fnExactLayoutOkSpec)

/-- 'laws.FnOffsets', WHERE WHAT IT READS IS OF BULK AT MOST 1048576: true; the input reads as it did. -/
def fnOffsetsUptoRow : OpenClaim := { program := "ytjimpmdelnnflaa", sum := "c86836f1751e7d87529f49c8171ba9fbe489f5edf1e11f8e99e73503ddaf013d", func := "loop.example/g00978/laws.FnOffsets", spec := "fnOffsets", unfollowed := true, recurses := true, apart := false, narrowed := true }
def FnOffsetsUptoSaid : Prop := fnOffsetsUptoRow.holds Try.pinned (OpenSpec.upto fnOffsetsSpec)

/-- 'laws.FnLive', WHERE WHAT IT READS IS OF BULK AT MOST 1048576: true; the input reads as it did. -/
def fnLiveUptoRow : OpenClaim := { program := "ytjimpmdelnnflaa", sum := "c86836f1751e7d87529f49c8171ba9fbe489f5edf1e11f8e99e73503ddaf013d", func := "loop.example/g00978/laws.FnLive", spec := "fnLive", unfollowed := true, recurses := true, apart := false, narrowed := true }
def FnLiveUptoSaid : Prop := fnLiveUptoRow.holds Try.pinned (OpenSpec.upto fnLiveSpec)

/-- 'laws.FnExactLiveCells', WHERE WHAT IT READS IS OF BULK AT MOST 1048576: true; the input reads as it did. -/
def fnExactLiveCellsUptoRow : OpenClaim := { program := "ytjimpmdelnnflaa", sum := "c86836f1751e7d87529f49c8171ba9fbe489f5edf1e11f8e99e73503ddaf013d", func := "loop.example/g00978/laws.FnExactLiveCells", spec := "fnExactLiveCells", unfollowed := true, recurses := true, apart := false, narrowed := true }
def FnExactLiveCellsUptoSaid : Prop := fnExactLiveCellsUptoRow.holds Try.pinned (OpenSpec.upto fnExactLiveCellsSpec)

/-- 'laws.FnExactDenotes', WHERE WHAT IT READS IS OF BULK AT MOST 1048576: true; the input reads as it did. -/
def fnExactDenotesUptoRow : OpenClaim := { program := "ytjimpmdelnnflaa", sum := "c86836f1751e7d87529f49c8171ba9fbe489f5edf1e11f8e99e73503ddaf013d", func := "loop.example/g00978/laws.FnExactDenotes", spec := "fnExactDenotes", unfollowed := true, recurses := true, apart := false, narrowed := true }
def FnExactDenotesUptoSaid : Prop := fnExactDenotesUptoRow.holds Try.pinned (OpenSpec.upto fnExactDenotesSpec)

/-- 'laws.FnExactFreeCode', WHERE WHAT IT READS IS OF BULK AT MOST 1048576: true; the input reads as it did. -/
def fnExactFreeCodeUptoRow : OpenClaim := { program := "ytjimpmdelnnflaa", sum := "c86836f1751e7d87529f49c8171ba9fbe489f5edf1e11f8e99e73503ddaf013d", func := "loop.example/g00978/laws.FnExactFreeCode", spec := "fnExactFreeCode", unfollowed := true, recurses := true, apart := false, narrowed := true }
def FnExactFreeCodeUptoSaid : Prop := fnExactFreeCodeUptoRow.holds Try.pinned (OpenSpec.upto fnExactFreeCodeSpec)

end Rows
end Go.Proofs.Ytjimpmdelnnflaa
