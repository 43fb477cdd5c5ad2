/-
  No cell of these rows narrows 'for every input' (looked for: loops, veiled, ifaces, maps, wideKeys, modest, calm, conditions, laid).
  DERIVED. THE GIVEN ROWS OF THIS SEAT. 6 by the template 'for every input the law returns true; each argument reads behind the call as it read before'; 0 by the template 'total and deterministic' (their statements: YtlohnaodoniajaaTotals.lean).
  GIVEN WITH THE SEED: the statements are not yours to turn. If you find one false, say at which input.
  Laid BY PROGRAM, IN A SANDBOX (cutbox-rows.mjs): the forced cells as the released guide's own fill.sh prints them over the translation 2fcbb30fff82d676… (all of the seat's roots in one cut). By AI agents, Wed Nov 11 2026. No macro, syntax, notation, axiom, sorry.
-/
import Derived.Test.YtlohnaodoniajaaChecked
import GoSem.Claim
import GoSem.ClaimJoined
import GoSem.ClaimMapViews
import Derived.JoinedTies
import Derived.KernelRfl
namespace Go.Proofs.Ytlohnaodoniajaa
/- THE CELL 'sum', in the pinned program and in every row, IS THE sha256 OF THE DUMP (.gsa) THAT YtlohnaodoniajaaProg.lean LOADS. Nothing in Lean hashes anything: it is a label: what it is worth is what the hold of that sum in a sandbox is worth. -/
noncomputable def Try.pinned : Pinned := { name := "ytlohnaodoniajaa", sum := "2fcbb30fff82d676b634b8b1b8ea1a74eb9f5eb1c40cc0c621289f09cd28f7ab", checked := Try.checked }
namespace Rows
def none {H : Type} : Left H := { results := [], args := [] }

/-- 'laws.FnExactTagsNew': WHATEVER THE INPUT: true; the input reads as it did. -/
def fnExactTagsNewSpec : ChangeSpec := { name := "fnExactTagsNew", fn := fun _ => fun
  | [d] => { results := [.lit (.bool true)], args := [d] }
  | _ => none }
def fnExactTagsNewRow : OpenClaim := { program := "ytlohnaodoniajaa", sum := "2fcbb30fff82d676b634b8b1b8ea1a74eb9f5eb1c40cc0c621289f09cd28f7ab", func := "loop.example/g00978/laws.FnExactTagsNew", spec := "fnExactTagsNew", apart := false }
def FnExactTagsNewSaid : Prop := fnExactTagsNewRow.holds Try.pinned (OpenSpec.ofChange fnExactTagsNewSpec)

/-- ITS FALSE NEIGHBOUR: 'it returns false'. Refute it at one input. -/
def fnExactTagsNewWrong : ChangeSpec := { name := "fnExactTagsNew", fn := fun _ => fun
  | [d] => { results := [.lit (.bool false)], args := [d] }
  | _ => none }
def FnExactTagsNewWrongFalsely : Prop := fnExactTagsNewRow.holds Try.pinned (OpenSpec.ofChange fnExactTagsNewWrong)

/-- 'laws.FnExactTagsOk': WHATEVER THE INPUT: true; the input reads as it did. -/
def fnExactTagsOkSpec : ChangeSpec := { name := "fnExactTagsOk", fn := fun _ => fun
  | [d] => { results := [.lit (.bool true)], args := [d] }
  | _ => none }
def fnExactTagsOkRow : OpenClaim := { program := "ytlohnaodoniajaa", sum := "2fcbb30fff82d676b634b8b1b8ea1a74eb9f5eb1c40cc0c621289f09cd28f7ab", func := "loop.example/g00978/laws.FnExactTagsOk", spec := "fnExactTagsOk", apart := false }
def FnExactTagsOkSaid : Prop := fnExactTagsOkRow.holds Try.pinned (OpenSpec.ofChange fnExactTagsOkSpec)

/-- ITS FALSE NEIGHBOUR: 'it returns false'. Refute it at one input. -/
def fnExactTagsOkWrong : ChangeSpec := { name := "fnExactTagsOk", fn := fun _ => fun
  | [d] => { results := [.lit (.bool false)], args := [d] }
  | _ => none }
def FnExactTagsOkWrongFalsely : Prop := fnExactTagsOkRow.holds Try.pinned (OpenSpec.ofChange fnExactTagsOkWrong)

/-- 'laws.FnExactPointerTo': WHATEVER THE INPUT: true; the input reads as it did. -/
def fnExactPointerToSpec : ChangeSpec := { name := "fnExactPointerTo", fn := fun _ => fun
  | [d1, d2] => { results := [.lit (.bool true)], args := [d1, d2] }
  | _ => none }
def fnExactPointerToRow : OpenClaim := { program := "ytlohnaodoniajaa", sum := "2fcbb30fff82d676b634b8b1b8ea1a74eb9f5eb1c40cc0c621289f09cd28f7ab", func := "loop.example/g00978/laws.FnExactPointerTo", spec := "fnExactPointerTo", apart := false }
def FnExactPointerToSaid : Prop := fnExactPointerToRow.holds Try.pinned (OpenSpec.ofChange fnExactPointerToSpec)

/-- ITS FALSE NEIGHBOUR: 'it returns false'. Refute it at one input. -/
def fnExactPointerToWrong : ChangeSpec := { name := "fnExactPointerTo", fn := fun _ => fun
  | [d1, d2] => { results := [.lit (.bool false)], args := [d1, d2] }
  | _ => none }
def FnExactPointerToWrongFalsely : Prop := fnExactPointerToRow.holds Try.pinned (OpenSpec.ofChange fnExactPointerToWrong)

/-- 'laws.FnTags': WHATEVER THE INPUT: true; the input reads as it did. -/
def fnTagsSpec : ChangeSpec := { name := "fnTags", fn := fun _ => fun
  | [d] => { results := [.lit (.bool true)], args := [d] }
  | _ => none }
def fnTagsRow : OpenClaim := { program := "ytlohnaodoniajaa", sum := "2fcbb30fff82d676b634b8b1b8ea1a74eb9f5eb1c40cc0c621289f09cd28f7ab", func := "loop.example/g00978/laws.FnTags", spec := "fnTags", apart := false }
def FnTagsSaid : Prop := fnTagsRow.holds Try.pinned (OpenSpec.ofChange fnTagsSpec)

/-- ITS FALSE NEIGHBOUR: 'it returns false'. Refute it at one input. -/
def fnTagsWrong : ChangeSpec := { name := "fnTags", fn := fun _ => fun
  | [d] => { results := [.lit (.bool false)], args := [d] }
  | _ => none }
def FnTagsWrongFalsely : Prop := fnTagsRow.holds Try.pinned (OpenSpec.ofChange fnTagsWrong)

/-- 'laws.FnExactTagFits': WHATEVER THE INPUT: true; the input reads as it did. -/
def fnExactTagFitsSpec : ChangeSpec := { name := "fnExactTagFits", fn := fun _ => fun
  | [d1, d2] => { results := [.lit (.bool true)], args := [d1, d2] }
  | _ => none }
def fnExactTagFitsRow : OpenClaim := { program := "ytlohnaodoniajaa", sum := "2fcbb30fff82d676b634b8b1b8ea1a74eb9f5eb1c40cc0c621289f09cd28f7ab", func := "loop.example/g00978/laws.FnExactTagFits", spec := "fnExactTagFits", apart := false }
def FnExactTagFitsSaid : Prop := fnExactTagFitsRow.holds Try.pinned (OpenSpec.ofChange fnExactTagFitsSpec)

/-- ITS FALSE NEIGHBOUR: 'it returns false'. Refute it at one input. -/
def fnExactTagFitsWrong : ChangeSpec := { name := "fnExactTagFits", fn := fun _ => fun
  | [d1, d2] => { results := [.lit (.bool false)], args := [d1, d2] }
  | _ => none }
def FnExactTagFitsWrongFalsely : Prop := fnExactTagFitsRow.holds Try.pinned (OpenSpec.ofChange fnExactTagFitsWrong)

/-- 'laws.FnExactRetag': WHATEVER THE INPUT: true; the input reads as it did. -/
def fnExactRetagSpec : ChangeSpec := { name := "fnExactRetag", fn := fun _ => fun
  | [d1, d2] => { results := [.lit (.bool true)], args := [d1, d2] }
  | _ => none }
def fnExactRetagRow : OpenClaim := { program := "ytlohnaodoniajaa", sum := "2fcbb30fff82d676b634b8b1b8ea1a74eb9f5eb1c40cc0c621289f09cd28f7ab", func := "loop.example/g00978/laws.FnExactRetag", spec := "fnExactRetag", apart := false }
def FnExactRetagSaid : Prop := fnExactRetagRow.holds Try.pinned (OpenSpec.ofChange fnExactRetagSpec)

/-- ITS FALSE NEIGHBOUR: 'it returns false'. Refute it at one input. -/
def fnExactRetagWrong : ChangeSpec := { name := "fnExactRetag", fn := fun _ => fun
  | [d1, d2] => { results := [.lit (.bool false)], args := [d1, d2] }
  | _ => none }
def FnExactRetagWrongFalsely : Prop := fnExactRetagRow.holds Try.pinned (OpenSpec.ofChange fnExactRetagWrong)

/- THE SECOND FORM. 'bulk': how many values and letters a reading holds, each counted each time it is reached (what is shared counts as often as it is met; a slice's spare places count too). A statement '..UptoSaid' is the law's where the arguments, and the package variables that the reading takes, are together of bulk at most 1048576: NARROWER than '..Said'. Prove '..Said' where nothing that the law and all that it calls make is longer than what came in: it says more and counts as full. Else prove '..UptoSaid'. A law counts once. -/
mutual
def uptoBulk {H : Type} : DataW H → Nat
  | .lit (.string bytes) => bytes.length + 1
  | .lit _ => 1
  | .nil => 1
  | .ptr d => uptoBulk d + 1
  | .slice elems spare => uptoBulkAll elems + uptoBulkAll spare + 1
  | .agg parts => uptoBulkAll parts + 1
  | .iface _ d => uptoBulk d + 1
  | .map entries => uptoBulkEntries entries + 1
  | .held _ => 1
def uptoBulkAll {H : Type} : List (DataW H) → Nat
  | [] => 0
  | d :: r => uptoBulk d + uptoBulkAll r
def uptoBulkEntries {H : Type} : List (Lit × DataW H) → Nat
  | [] => 0
  | x :: r => uptoBulkEntry x + uptoBulkEntries r
def uptoBulkEntry {H : Type} : Lit × DataW H → Nat
  | (.string bytes, d) => bytes.length + uptoBulk d + 1
  | (_, d) => uptoBulk d + 1
 end
def uptoSmall : (H : Type) → List (DataW H) → Bool := fun _ ds => decide (uptoBulkAll ds ≤ 1048576)
def OpenSpec.upto (s : _root_.Go.ChangeSpec) : _root_.Go.OpenSpec := { _root_.Go.OpenSpec.ofChange s with cond := some uptoSmall }

/-- 'laws.FnExactTagsNew', WHERE WHAT IT READS IS OF BULK AT MOST 1048576: true; the input reads as it did. -/
def fnExactTagsNewUptoRow : OpenClaim := { program := "ytlohnaodoniajaa", sum := "2fcbb30fff82d676b634b8b1b8ea1a74eb9f5eb1c40cc0c621289f09cd28f7ab", func := "loop.example/g00978/laws.FnExactTagsNew", spec := "fnExactTagsNew", apart := false, narrowed := true }
def FnExactTagsNewUptoSaid : Prop := fnExactTagsNewUptoRow.holds Try.pinned (OpenSpec.upto fnExactTagsNewSpec)

/-- 'laws.FnExactTagsOk', WHERE WHAT IT READS IS OF BULK AT MOST 1048576: true; the input reads as it did. -/
def fnExactTagsOkUptoRow : OpenClaim := { program := "ytlohnaodoniajaa", sum := "2fcbb30fff82d676b634b8b1b8ea1a74eb9f5eb1c40cc0c621289f09cd28f7ab", func := "loop.example/g00978/laws.FnExactTagsOk", spec := "fnExactTagsOk", apart := false, narrowed := true }
def FnExactTagsOkUptoSaid : Prop := fnExactTagsOkUptoRow.holds Try.pinned (OpenSpec.upto fnExactTagsOkSpec)

/-- 'laws.FnExactPointerTo', WHERE WHAT IT READS IS OF BULK AT MOST 1048576: true; the input reads as it did. -/
def fnExactPointerToUptoRow : OpenClaim := { program := "ytlohnaodoniajaa", sum := "2fcbb30fff82d676b634b8b1b8ea1a74eb9f5eb1c40cc0c621289f09cd28f7ab", func := "loop.example/g00978/laws.FnExactPointerTo", spec := "fnExactPointerTo", apart := false, narrowed := true }
def FnExactPointerToUptoSaid : Prop := fnExactPointerToUptoRow.holds Try.pinned (OpenSpec.upto fnExactPointerToSpec)

/-- 'laws.FnTags', WHERE WHAT IT READS IS OF BULK AT MOST 1048576: true; the input reads as it did. -/
def fnTagsUptoRow : OpenClaim := { program := "ytlohnaodoniajaa", sum := "2fcbb30fff82d676b634b8b1b8ea1a74eb9f5eb1c40cc0c621289f09cd28f7ab", func := "loop.example/g00978/laws.FnTags", spec := "fnTags", apart := false, narrowed := true }
def FnTagsUptoSaid : Prop := fnTagsUptoRow.holds Try.pinned (OpenSpec.upto fnTagsSpec)

/-- 'laws.FnExactTagFits', WHERE WHAT IT READS IS OF BULK AT MOST 1048576: true; the input reads as it did. -/
def fnExactTagFitsUptoRow : OpenClaim := { program := "ytlohnaodoniajaa", sum := "2fcbb30fff82d676b634b8b1b8ea1a74eb9f5eb1c40cc0c621289f09cd28f7ab", func := "loop.example/g00978/laws.FnExactTagFits", spec := "fnExactTagFits", apart := false, narrowed := true }
def FnExactTagFitsUptoSaid : Prop := fnExactTagFitsUptoRow.holds Try.pinned (OpenSpec.upto fnExactTagFitsSpec)

/-- 'laws.FnExactRetag', WHERE WHAT IT READS IS OF BULK AT MOST 1048576: true; the input reads as it did. -/
def fnExactRetagUptoRow : OpenClaim := { program := "ytlohnaodoniajaa", sum := "2fcbb30fff82d676b634b8b1b8ea1a74eb9f5eb1c40cc0c621289f09cd28f7ab", func := "loop.example/g00978/laws.FnExactRetag", spec := "fnExactRetag", apart := false, narrowed := true }
def FnExactRetagUptoSaid : Prop := fnExactRetagUptoRow.holds Try.pinned (OpenSpec.upto fnExactRetagSpec)

end Rows
end Go.Proofs.Ytlohnaodoniajaa
