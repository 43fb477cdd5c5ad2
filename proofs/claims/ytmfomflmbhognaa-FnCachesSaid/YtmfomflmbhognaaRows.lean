/-
  No cell of these rows narrows 'for every input' (looked for: loops, veiled, ifaces, maps, wideKeys, modest, calm, conditions, laid).
  DERIVED. THE GIVEN ROWS OF THIS SEAT. 9 by the template 'for every input the law returns true; each argument reads behind the call as it read before'; 0 by the template 'total and deterministic' (their statements: YtmfomflmbhognaaTotals.lean).
  GIVEN WITH THE SEED: the statements are not yours to turn. If you find one false, say at which input.
  Laid BY PROGRAM, IN A SANDBOX (cutbox-rows.mjs): the forced cells as the released guide's own fill.sh prints them over the translation 38330104f271743e… (all of the seat's roots in one cut). By AI agents, Wed Nov 11 2026. No macro, syntax, notation, axiom, sorry.
-/
import Derived.Test.YtmfomflmbhognaaChecked
import GoSem.Claim
import GoSem.ClaimJoined
import GoSem.ClaimMapViews
import Derived.JoinedTies
import Derived.KernelRfl
namespace Go.Proofs.Ytmfomflmbhognaa
/- THE CELL 'sum', in the pinned program and in every row, IS THE sha256 OF THE DUMP (.gsa) THAT YtmfomflmbhognaaProg.lean LOADS. Nothing in Lean hashes anything: it is a label: what it is worth is what the hold of that sum in a sandbox is worth. -/
noncomputable def Try.pinned : Pinned := { name := "ytmfomflmbhognaa", sum := "38330104f271743e8def302e284ef16b3e4cdb27309413d6f11bdfd51dc9da38", checked := Try.checked }
namespace Rows
def none {H : Type} : Left H := { results := [], args := [] }

/-- 'laws.FnLastIn': WHATEVER THE INPUT: true; the input reads as it did. -/
def fnLastInSpec : ChangeSpec := { name := "fnLastIn", fn := fun _ => fun
  | [d] => { results := [.lit (.bool true)], args := [d] }
  | _ => none }
def fnLastInRow : OpenClaim := { program := "ytmfomflmbhognaa", sum := "38330104f271743e8def302e284ef16b3e4cdb27309413d6f11bdfd51dc9da38", func := "loop.example/g00978/laws.FnLastIn", spec := "fnLastIn", apart := false }
def FnLastInSaid : Prop := fnLastInRow.holds Try.pinned (OpenSpec.ofChange fnLastInSpec)

/-- ITS FALSE NEIGHBOUR: 'it returns false'. Refute it at one input. -/
def fnLastInWrong : ChangeSpec := { name := "fnLastIn", fn := fun _ => fun
  | [d] => { results := [.lit (.bool false)], args := [d] }
  | _ => none }
def FnLastInWrongFalsely : Prop := fnLastInRow.holds Try.pinned (OpenSpec.ofChange fnLastInWrong)

/-- 'laws.FnExactCacheHas': WHATEVER THE INPUT: true; the input reads as it did. -/
def fnExactCacheHasSpec : ChangeSpec := { name := "fnExactCacheHas", fn := fun _ => fun
  | [d1, d2] => { results := [.lit (.bool true)], args := [d1, d2] }
  | _ => none }
def fnExactCacheHasRow : OpenClaim := { program := "ytmfomflmbhognaa", sum := "38330104f271743e8def302e284ef16b3e4cdb27309413d6f11bdfd51dc9da38", func := "loop.example/g00978/laws.FnExactCacheHas", spec := "fnExactCacheHas", unfollowed := true, recurses := true, apart := false }
def FnExactCacheHasSaid : Prop := fnExactCacheHasRow.holds Try.pinned (OpenSpec.ofChange fnExactCacheHasSpec)

/-- ITS FALSE NEIGHBOUR: 'it returns false'. Refute it at one input. -/
def fnExactCacheHasWrong : ChangeSpec := { name := "fnExactCacheHas", fn := fun _ => fun
  | [d1, d2] => { results := [.lit (.bool false)], args := [d1, d2] }
  | _ => none }
def FnExactCacheHasWrongFalsely : Prop := fnExactCacheHasRow.holds Try.pinned (OpenSpec.ofChange fnExactCacheHasWrong)

/-- 'laws.FnExactCacheOk': WHATEVER THE INPUT: true; the input reads as it did. -/
def fnExactCacheOkSpec : ChangeSpec := { name := "fnExactCacheOk", fn := fun _ => fun
  | [d] => { results := [.lit (.bool true)], args := [d] }
  | _ => none }
def fnExactCacheOkRow : OpenClaim := { program := "ytmfomflmbhognaa", sum := "38330104f271743e8def302e284ef16b3e4cdb27309413d6f11bdfd51dc9da38", func := "loop.example/g00978/laws.FnExactCacheOk", spec := "fnExactCacheOk", apart := false }
def FnExactCacheOkSaid : Prop := fnExactCacheOkRow.holds Try.pinned (OpenSpec.ofChange fnExactCacheOkSpec)

/-- ITS FALSE NEIGHBOUR: 'it returns false'. Refute it at one input. -/
def fnExactCacheOkWrong : ChangeSpec := { name := "fnExactCacheOk", fn := fun _ => fun
  | [d] => { results := [.lit (.bool false)], args := [d] }
  | _ => none }
def FnExactCacheOkWrongFalsely : Prop := fnExactCacheOkRow.holds Try.pinned (OpenSpec.ofChange fnExactCacheOkWrong)

/-- 'laws.FnExactCacheCells': WHATEVER THE INPUT: true; the input reads as it did. -/
def fnExactCacheCellsSpec : ChangeSpec := { name := "fnExactCacheCells", fn := fun _ => fun
  | [d] => { results := [.lit (.bool true)], args := [d] }
  | _ => none }
def fnExactCacheCellsRow : OpenClaim := { program := "ytmfomflmbhognaa", sum := "38330104f271743e8def302e284ef16b3e4cdb27309413d6f11bdfd51dc9da38", func := "loop.example/g00978/laws.FnExactCacheCells", spec := "fnExactCacheCells", apart := false }
def FnExactCacheCellsSaid : Prop := fnExactCacheCellsRow.holds Try.pinned (OpenSpec.ofChange fnExactCacheCellsSpec)

/-- ITS FALSE NEIGHBOUR: 'it returns false'. Refute it at one input. -/
def fnExactCacheCellsWrong : ChangeSpec := { name := "fnExactCacheCells", fn := fun _ => fun
  | [d] => { results := [.lit (.bool false)], args := [d] }
  | _ => none }
def FnExactCacheCellsWrongFalsely : Prop := fnExactCacheCellsRow.holds Try.pinned (OpenSpec.ofChange fnExactCacheCellsWrong)

/-- 'laws.FnSpilled': WHATEVER THE INPUT: true; the input reads as it did. -/
def fnSpilledSpec : ChangeSpec := { name := "fnSpilled", fn := fun _ => fun
  | [d] => { results := [.lit (.bool true)], args := [d] }
  | _ => none }
def fnSpilledRow : OpenClaim := { program := "ytmfomflmbhognaa", sum := "38330104f271743e8def302e284ef16b3e4cdb27309413d6f11bdfd51dc9da38", func := "loop.example/g00978/laws.FnSpilled", spec := "fnSpilled", apart := false }
def FnSpilledSaid : Prop := fnSpilledRow.holds Try.pinned (OpenSpec.ofChange fnSpilledSpec)

/-- ITS FALSE NEIGHBOUR: 'it returns false'. Refute it at one input. -/
def fnSpilledWrong : ChangeSpec := { name := "fnSpilled", fn := fun _ => fun
  | [d] => { results := [.lit (.bool false)], args := [d] }
  | _ => none }
def FnSpilledWrongFalsely : Prop := fnSpilledRow.holds Try.pinned (OpenSpec.ofChange fnSpilledWrong)

/-- 'laws.FnExactCacheSpill': WHATEVER THE INPUT: true; the input reads as it did. -/
def fnExactCacheSpillSpec : ChangeSpec := { name := "fnExactCacheSpill", fn := fun _ => fun
  | [d1, d2, d3] => { results := [.lit (.bool true)], args := [d1, d2, d3] }
  | _ => none }
def fnExactCacheSpillRow : OpenClaim := { program := "ytmfomflmbhognaa", sum := "38330104f271743e8def302e284ef16b3e4cdb27309413d6f11bdfd51dc9da38", func := "loop.example/g00978/laws.FnExactCacheSpill", spec := "fnExactCacheSpill", apart := false }
def FnExactCacheSpillSaid : Prop := fnExactCacheSpillRow.holds Try.pinned (OpenSpec.ofChange fnExactCacheSpillSpec)

/-- ITS FALSE NEIGHBOUR: 'it returns false'. Refute it at one input. -/
def fnExactCacheSpillWrong : ChangeSpec := { name := "fnExactCacheSpill", fn := fun _ => fun
  | [d1, d2, d3] => { results := [.lit (.bool false)], args := [d1, d2, d3] }
  | _ => none }
def FnExactCacheSpillWrongFalsely : Prop := fnExactCacheSpillRow.holds Try.pinned (OpenSpec.ofChange fnExactCacheSpillWrong)

/-- 'laws.FnExactCacheTake': WHATEVER THE INPUT: true; the input reads as it did. -/
def fnExactCacheTakeSpec : ChangeSpec := { name := "fnExactCacheTake", fn := fun _ => fun
  | [d1, d2] => { results := [.lit (.bool true)], args := [d1, d2] }
  | _ => none }
def fnExactCacheTakeRow : OpenClaim := { program := "ytmfomflmbhognaa", sum := "38330104f271743e8def302e284ef16b3e4cdb27309413d6f11bdfd51dc9da38", func := "loop.example/g00978/laws.FnExactCacheTake", spec := "fnExactCacheTake", apart := false }
def FnExactCacheTakeSaid : Prop := fnExactCacheTakeRow.holds Try.pinned (OpenSpec.ofChange fnExactCacheTakeSpec)

/-- ITS FALSE NEIGHBOUR: 'it returns false'. Refute it at one input. -/
def fnExactCacheTakeWrong : ChangeSpec := { name := "fnExactCacheTake", fn := fun _ => fun
  | [d1, d2] => { results := [.lit (.bool false)], args := [d1, d2] }
  | _ => none }
def FnExactCacheTakeWrongFalsely : Prop := fnExactCacheTakeRow.holds Try.pinned (OpenSpec.ofChange fnExactCacheTakeWrong)

/-- 'laws.FnExactCachePut': WHATEVER THE INPUT: true; the input reads as it did. -/
def fnExactCachePutSpec : ChangeSpec := { name := "fnExactCachePut", fn := fun _ => fun
  | [d1, d2, d3] => { results := [.lit (.bool true)], args := [d1, d2, d3] }
  | _ => none }
def fnExactCachePutRow : OpenClaim := { program := "ytmfomflmbhognaa", sum := "38330104f271743e8def302e284ef16b3e4cdb27309413d6f11bdfd51dc9da38", func := "loop.example/g00978/laws.FnExactCachePut", spec := "fnExactCachePut", apart := false }
def FnExactCachePutSaid : Prop := fnExactCachePutRow.holds Try.pinned (OpenSpec.ofChange fnExactCachePutSpec)

/-- ITS FALSE NEIGHBOUR: 'it returns false'. Refute it at one input. -/
def fnExactCachePutWrong : ChangeSpec := { name := "fnExactCachePut", fn := fun _ => fun
  | [d1, d2, d3] => { results := [.lit (.bool false)], args := [d1, d2, d3] }
  | _ => none }
def FnExactCachePutWrongFalsely : Prop := fnExactCachePutRow.holds Try.pinned (OpenSpec.ofChange fnExactCachePutWrong)

/-- 'laws.FnCaches': WHATEVER THE INPUT: true; the input reads as it did. -/
def fnCachesSpec : ChangeSpec := { name := "fnCaches", fn := fun _ => fun
  | [d] => { results := [.lit (.bool true)], args := [d] }
  | _ => none }
def fnCachesRow : OpenClaim := { program := "ytmfomflmbhognaa", sum := "38330104f271743e8def302e284ef16b3e4cdb27309413d6f11bdfd51dc9da38", func := "loop.example/g00978/laws.FnCaches", spec := "fnCaches", unfollowed := true, recurses := true, apart := false }
def FnCachesSaid : Prop := fnCachesRow.holds Try.pinned (OpenSpec.ofChange fnCachesSpec)

/-- ITS FALSE NEIGHBOUR: 'it returns false'. Refute it at one input. -/
def fnCachesWrong : ChangeSpec := { name := "fnCaches", fn := fun _ => fun
  | [d] => { results := [.lit (.bool false)], args := [d] }
  | _ => none }
def FnCachesWrongFalsely : Prop := fnCachesRow.holds Try.pinned (OpenSpec.ofChange fnCachesWrong)

/- THE SECOND FORM. 'bulk': how many values and letters a reading holds, each counted each time it is reached (what is shared counts as often as it is met; a slice's spare places count too). A statement '..UptoSaid' is the law's where the arguments, and the package variables that the reading takes, are together of bulk at most 1048576: NARROWER than '..Said'. Prove '..Said' where nothing that the law and all that it calls make is longer than what came in: it says more and counts as full. Else prove '..UptoSaid'. A law counts once. -/
mutual
def uptoBulk {H : Type} : DataW H → Nat
  | .lit (.string bytes) => bytes.length + 1
  | .lit _ => 1
  | .nil => 1
  | .ptr d => uptoBulk d + 1
  | .slice elems spare => uptoBulkAll elems + uptoBulkAll spare + 1
  | .agg parts => uptoBulkAll parts + 1
  | .iface _ d => uptoBulk d + 1
  | .map entries => uptoBulkEntries entries + 1
  | .held _ => 1
def uptoBulkAll {H : Type} : List (DataW H) → Nat
  | [] => 0
  | d :: r => uptoBulk d + uptoBulkAll r
def uptoBulkEntries {H : Type} : List (Lit × DataW H) → Nat
  | [] => 0
  | x :: r => uptoBulkEntry x + uptoBulkEntries r
def uptoBulkEntry {H : Type} : Lit × DataW H → Nat
  | (.string bytes, d) => bytes.length + uptoBulk d + 1
  | (_, d) => uptoBulk d + 1
 end
def uptoSmall : (H : Type) → List (DataW H) → Bool := fun _ ds => decide (uptoBulkAll ds ≤ 1048576)
def OpenSpec.upto (s : _root_.Go.ChangeSpec) : _root_.Go.OpenSpec := { _root_.Go.OpenSpec.ofChange s with cond := some uptoSmall }

/-- 'laws.FnLastIn', WHERE WHAT IT READS IS OF BULK AT MOST 1048576: true; the input reads as it did. -/
def fnLastInUptoRow : OpenClaim := { program := "ytmfomflmbhognaa", sum := "38330104f271743e8def302e284ef16b3e4cdb27309413d6f11bdfd51dc9da38", func := "loop.example/g00978/laws.FnLastIn", spec := "fnLastIn", apart := false, narrowed := true }
def FnLastInUptoSaid : Prop := fnLastInUptoRow.holds Try.pinned (OpenSpec.upto fnLastInSpec)

/-- 'laws.FnExactCacheHas', WHERE WHAT IT READS IS OF BULK AT MOST 1048576: true; the input reads as it did. -/
def fnExactCacheHasUptoRow : OpenClaim := { program := "ytmfomflmbhognaa", sum := "38330104f271743e8def302e284ef16b3e4cdb27309413d6f11bdfd51dc9da38", func := "loop.example/g00978/laws.FnExactCacheHas", spec := "fnExactCacheHas", unfollowed := true, recurses := true, apart := false, narrowed := true }
def FnExactCacheHasUptoSaid : Prop := fnExactCacheHasUptoRow.holds Try.pinned (OpenSpec.upto fnExactCacheHasSpec)

/-- 'laws.FnExactCacheOk', WHERE WHAT IT READS IS OF BULK AT MOST 1048576: true; the input reads as it did. -/
def fnExactCacheOkUptoRow : OpenClaim := { program := "ytmfomflmbhognaa", sum := "38330104f271743e8def302e284ef16b3e4cdb27309413d6f11bdfd51dc9da38", func := "loop.example/g00978/laws.FnExactCacheOk", spec := "fnExactCacheOk", apart := false, narrowed := true }
def FnExactCacheOkUptoSaid : Prop := fnExactCacheOkUptoRow.holds Try.pinned (OpenSpec.upto fnExactCacheOkSpec)

/-- 'laws.FnExactCacheCells', WHERE WHAT IT READS IS OF BULK AT MOST 1048576: true; the input reads as it did. -/
def fnExactCacheCellsUptoRow : OpenClaim := { program := "ytmfomflmbhognaa", sum := "38330104f271743e8def302e284ef16b3e4cdb27309413d6f11bdfd51dc9da38", func := "loop.example/g00978/laws.FnExactCacheCells", spec := "fnExactCacheCells", apart := false, narrowed := true }
def FnExactCacheCellsUptoSaid : Prop := fnExactCacheCellsUptoRow.holds Try.pinned (OpenSpec.upto fnExactCacheCellsSpec)

/-- 'laws.FnSpilled', WHERE WHAT IT READS IS OF BULK AT MOST 1048576: true; the input reads as it did. -/
def fnSpilledUptoRow : OpenClaim := { program := "ytmfomflmbhognaa", sum := "38330104f271743e8def302e284ef16b3e4cdb27309413d6f11bdfd51dc9da38", func := "loop.example/g00978/laws.FnSpilled", spec := "fnSpilled", apart := false, narrowed := true }
def FnSpilledUptoSaid : Prop := fnSpilledUptoRow.holds Try.pinned (OpenSpec.upto fnSpilledSpec)

/-- 'laws.FnExactCacheSpill', WHERE WHAT IT READS IS OF BULK AT MOST 1048576: true; the input reads as it did. -/
def fnExactCacheSpillUptoRow : OpenClaim := { program := "ytmfomflmbhognaa", sum := "38330104f271743e8def302e284ef16b3e4cdb27309413d6f11bdfd51dc9da38", func := "loop.example/g00978/laws.FnExactCacheSpill", spec := "fnExactCacheSpill", apart := false, narrowed := true }
def FnExactCacheSpillUptoSaid : Prop := fnExactCacheSpillUptoRow.holds Try.pinned (OpenSpec.upto fnExactCacheSpillSpec)

/-- 'laws.FnExactCacheTake', WHERE WHAT IT READS IS OF BULK AT MOST 1048576: true; the input reads as it did. -/
def fnExactCacheTakeUptoRow : OpenClaim := { program := "ytmfomflmbhognaa", sum := "38330104f271743e8def302e284ef16b3e4cdb27309413d6f11bdfd51dc9da38", func := "loop.example/g00978/laws.FnExactCacheTake", spec := "fnExactCacheTake", apart := false, narrowed := true }
def FnExactCacheTakeUptoSaid : Prop := fnExactCacheTakeUptoRow.holds Try.pinned (OpenSpec.upto fnExactCacheTakeSpec)

/-- 'laws.FnExactCachePut', WHERE WHAT IT READS IS OF BULK AT MOST 1048576: true; the input reads as it did. -/
def fnExactCachePutUptoRow : OpenClaim := { program := "ytmfomflmbhognaa", sum := "38330104f271743e8def302e284ef16b3e4cdb27309413d6f11bdfd51dc9da38", func := "loop.example/g00978/laws.FnExactCachePut", spec := "fnExactCachePut", apart := false, narrowed := true }
def FnExactCachePutUptoSaid : Prop := fnExactCachePutUptoRow.holds Try.pinned (OpenSpec.upto fnExactCachePutSpec)

/-- 'laws.FnCaches', WHERE WHAT IT READS IS OF BULK AT MOST 1048576: true; the input reads as it did. -/
def fnCachesUptoRow : OpenClaim := { program := "ytmfomflmbhognaa", sum := "38330104f271743e8def302e284ef16b3e4cdb27309413d6f11bdfd51dc9da38", func := "loop.example/g00978/laws.FnCaches", spec := "fnCaches", unfollowed := true, recurses := true, apart := false, narrowed := true }
def FnCachesUptoSaid : Prop := fnCachesUptoRow.holds Try.pinned (OpenSpec.upto fnCachesSpec)

end Rows
end Go.Proofs.Ytmfomflmbhognaa
