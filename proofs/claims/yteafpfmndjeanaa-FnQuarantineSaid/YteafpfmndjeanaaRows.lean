/-
  No cell of these rows narrows 'for every input' (looked for: loops, veiled, ifaces, maps, wideKeys, modest, calm, conditions, laid).
  DERIVED. THE GIVEN ROWS OF THIS SEAT. 7 by the template 'for every input the law returns true; each argument reads behind the call as it read before'; 0 by the template 'total and deterministic' (their statements: YteafpfmndjeanaaTotals.lean).
  GIVEN WITH THE SEED: the statements are not yours to turn. If you find one false, say at which input.
  Laid BY PROGRAM, IN A SANDBOX (cutbox-rows.mjs): the forced cells as the released guide's own fill.sh prints them over the translation 193aa5ffea3c606e… (all of the seat's roots in one cut). By AI agents, Wed Nov 11 2026. No macro, syntax, notation, axiom, sorry.
-/
import Derived.Test.YteafpfmndjeanaaChecked
import GoSem.Claim
import GoSem.ClaimJoined
import GoSem.ClaimMapViews
import Derived.JoinedTies
import Derived.KernelRfl
namespace Go.Proofs.Yteafpfmndjeanaa
/- THE CELL 'sum', in the pinned program and in every row, IS THE sha256 OF THE DUMP (.gsa) THAT YteafpfmndjeanaaProg.lean LOADS. Nothing in Lean hashes anything: it is a label: what it is worth is what the hold of that sum in a sandbox is worth. -/
noncomputable def Try.pinned : Pinned := { name := "yteafpfmndjeanaa", sum := "193aa5ffea3c606e755e8d7530b5a93292f4ca03fa81c30226dd13d09f7846a0", checked := Try.checked }
namespace Rows
def none {H : Type} : Left H := { results := [], args := [] }

/-- 'laws.FnExactQuarNew': WHATEVER THE INPUT: true; the input reads as it did. -/
def fnExactQuarNewSpec : ChangeSpec := { name := "fnExactQuarNew", fn := fun _ => fun
  | [d] => { results := [.lit (.bool true)], args := [d] }
  | _ => none }
def fnExactQuarNewRow : OpenClaim := { program := "yteafpfmndjeanaa", sum := "193aa5ffea3c606e755e8d7530b5a93292f4ca03fa81c30226dd13d09f7846a0", func := "loop.example/g00978/laws.FnExactQuarNew", spec := "fnExactQuarNew", apart := false }
def FnExactQuarNewSaid : Prop := fnExactQuarNewRow.holds Try.pinned (OpenSpec.ofChange fnExactQuarNewSpec)

/-- ITS FALSE NEIGHBOUR: 'it returns false'. Refute it at one input. -/
def fnExactQuarNewWrong : ChangeSpec := { name := "fnExactQuarNew", fn := fun _ => fun
  | [d] => { results := [.lit (.bool false)], args := [d] }
  | _ => none }
def FnExactQuarNewWrongFalsely : Prop := fnExactQuarNewRow.holds Try.pinned (OpenSpec.ofChange fnExactQuarNewWrong)

/-- 'laws.FnExactQuarHas': WHATEVER THE INPUT: true; the input reads as it did. -/
def fnExactQuarHasSpec : ChangeSpec := { name := "fnExactQuarHas", fn := fun _ => fun
  | [d1, d2] => { results := [.lit (.bool true)], args := [d1, d2] }
  | _ => none }
def fnExactQuarHasRow : OpenClaim := { program := "yteafpfmndjeanaa", sum := "193aa5ffea3c606e755e8d7530b5a93292f4ca03fa81c30226dd13d09f7846a0", func := "loop.example/g00978/laws.FnExactQuarHas", spec := "fnExactQuarHas", unfollowed := true, recurses := true, apart := false }
def FnExactQuarHasSaid : Prop := fnExactQuarHasRow.holds Try.pinned (OpenSpec.ofChange fnExactQuarHasSpec)

/-- ITS FALSE NEIGHBOUR: 'it returns false'. Refute it at one input. -/
def fnExactQuarHasWrong : ChangeSpec := { name := "fnExactQuarHas", fn := fun _ => fun
  | [d1, d2] => { results := [.lit (.bool false)], args := [d1, d2] }
  | _ => none }
def FnExactQuarHasWrongFalsely : Prop := fnExactQuarHasRow.holds Try.pinned (OpenSpec.ofChange fnExactQuarHasWrong)

/-- 'laws.FnExactQuarOk': WHATEVER THE INPUT: true; the input reads as it did. -/
def fnExactQuarOkSpec : ChangeSpec := { name := "fnExactQuarOk", fn := fun _ => fun
  | [d] => { results := [.lit (.bool true)], args := [d] }
  | _ => none }
def fnExactQuarOkRow : OpenClaim := { program := "yteafpfmndjeanaa", sum := "193aa5ffea3c606e755e8d7530b5a93292f4ca03fa81c30226dd13d09f7846a0", func := "loop.example/g00978/laws.FnExactQuarOk", spec := "fnExactQuarOk", unfollowed := true, recurses := true, apart := false }
def FnExactQuarOkSaid : Prop := fnExactQuarOkRow.holds Try.pinned (OpenSpec.ofChange fnExactQuarOkSpec)

/-- ITS FALSE NEIGHBOUR: 'it returns false'. Refute it at one input. -/
def fnExactQuarOkWrong : ChangeSpec := { name := "fnExactQuarOk", fn := fun _ => fun
  | [d] => { results := [.lit (.bool false)], args := [d] }
  | _ => none }
def FnExactQuarOkWrongFalsely : Prop := fnExactQuarOkRow.holds Try.pinned (OpenSpec.ofChange fnExactQuarOkWrong)

/-- 'laws.FnExpired': WHATEVER THE INPUT: true; the input reads as it did. -/
def fnExpiredSpec : ChangeSpec := { name := "fnExpired", fn := fun _ => fun
  | [d] => { results := [.lit (.bool true)], args := [d] }
  | _ => none }
def fnExpiredRow : OpenClaim := { program := "yteafpfmndjeanaa", sum := "193aa5ffea3c606e755e8d7530b5a93292f4ca03fa81c30226dd13d09f7846a0", func := "loop.example/g00978/laws.FnExpired", spec := "fnExpired", unfollowed := true, recurses := true, apart := false }
def FnExpiredSaid : Prop := fnExpiredRow.holds Try.pinned (OpenSpec.ofChange fnExpiredSpec)

/-- ITS FALSE NEIGHBOUR: 'it returns false'. Refute it at one input. -/
def fnExpiredWrong : ChangeSpec := { name := "fnExpired", fn := fun _ => fun
  | [d] => { results := [.lit (.bool false)], args := [d] }
  | _ => none }
def FnExpiredWrongFalsely : Prop := fnExpiredRow.holds Try.pinned (OpenSpec.ofChange fnExpiredWrong)

/-- 'laws.FnQuarantine': WHATEVER THE INPUT: true; the input reads as it did. -/
def fnQuarantineSpec : ChangeSpec := { name := "fnQuarantine", fn := fun _ => fun
  | [d] => { results := [.lit (.bool true)], args := [d] }
  | _ => none }
def fnQuarantineRow : OpenClaim := { program := "yteafpfmndjeanaa", sum := "193aa5ffea3c606e755e8d7530b5a93292f4ca03fa81c30226dd13d09f7846a0", func := "loop.example/g00978/laws.FnQuarantine", spec := "fnQuarantine", unfollowed := true, recurses := true, apart := false }
def FnQuarantineSaid : Prop := fnQuarantineRow.holds Try.pinned (OpenSpec.ofChange fnQuarantineSpec)

/-- ITS FALSE NEIGHBOUR: 'it returns false'. Refute it at one input. -/
def fnQuarantineWrong : ChangeSpec := { name := "fnQuarantine", fn := fun _ => fun
  | [d] => { results := [.lit (.bool false)], args := [d] }
  | _ => none }
def FnQuarantineWrongFalsely : Prop := fnQuarantineRow.holds Try.pinned (OpenSpec.ofChange fnQuarantineWrong)

/-- 'laws.FnExactQuarExpire': WHATEVER THE INPUT: true; the input reads as it did. -/
def fnExactQuarExpireSpec : ChangeSpec := { name := "fnExactQuarExpire", fn := fun _ => fun
  | [d1, d2, d3] => { results := [.lit (.bool true)], args := [d1, d2, d3] }
  | _ => none }
def fnExactQuarExpireRow : OpenClaim := { program := "yteafpfmndjeanaa", sum := "193aa5ffea3c606e755e8d7530b5a93292f4ca03fa81c30226dd13d09f7846a0", func := "loop.example/g00978/laws.FnExactQuarExpire", spec := "fnExactQuarExpire", unfollowed := true, recurses := true, apart := false }
def FnExactQuarExpireSaid : Prop := fnExactQuarExpireRow.holds Try.pinned (OpenSpec.ofChange fnExactQuarExpireSpec)

/-- ITS FALSE NEIGHBOUR: 'it returns false'. Refute it at one input. -/
def fnExactQuarExpireWrong : ChangeSpec := { name := "fnExactQuarExpire", fn := fun _ => fun
  | [d1, d2, d3] => { results := [.lit (.bool false)], args := [d1, d2, d3] }
  | _ => none }
def FnExactQuarExpireWrongFalsely : Prop := fnExactQuarExpireRow.holds Try.pinned (OpenSpec.ofChange fnExactQuarExpireWrong)

/-- 'laws.FnExactQuarAdd': WHATEVER THE INPUT: true; the input reads as it did. -/
def fnExactQuarAddSpec : ChangeSpec := { name := "fnExactQuarAdd", fn := fun _ => fun
  | [d1, d2] => { results := [.lit (.bool true)], args := [d1, d2] }
  | _ => none }
def fnExactQuarAddRow : OpenClaim := { program := "yteafpfmndjeanaa", sum := "193aa5ffea3c606e755e8d7530b5a93292f4ca03fa81c30226dd13d09f7846a0", func := "loop.example/g00978/laws.FnExactQuarAdd", spec := "fnExactQuarAdd", unfollowed := true, recurses := true, apart := false }
def FnExactQuarAddSaid : Prop := fnExactQuarAddRow.holds Try.pinned (OpenSpec.ofChange fnExactQuarAddSpec)

/-- ITS FALSE NEIGHBOUR: 'it returns false'. Refute it at one input. -/
def fnExactQuarAddWrong : ChangeSpec := { name := "fnExactQuarAdd", fn := fun _ => fun
  | [d1, d2] => { results := [.lit (.bool false)], args := [d1, d2] }
  | _ => none }
def FnExactQuarAddWrongFalsely : Prop := fnExactQuarAddRow.holds Try.pinned (OpenSpec.ofChange fnExactQuarAddWrong)

/- THE SECOND FORM. 'bulk': how many values and letters a reading holds, each counted each time it is reached (what is shared counts as often as it is met; a slice's spare places count too). A statement '..UptoSaid' is the law's where the arguments, and the package variables that the reading takes, are together of bulk at most 1048576: NARROWER than '..Said'. Prove '..Said' where nothing that the law and all that it calls make is longer than what came in: it says more and counts as full. Else prove '..UptoSaid'. A law counts once. -/
mutual
def uptoBulk {H : Type} : DataW H → Nat
  | .lit (.string bytes) => bytes.length + 1
  | .lit _ => 1
  | .nil => 1
  | .ptr d => uptoBulk d + 1
  | .slice elems spare => uptoBulkAll elems + uptoBulkAll spare + 1
  | .agg parts => uptoBulkAll parts + 1
  | .iface _ d => uptoBulk d + 1
  | .map entries => uptoBulkEntries entries + 1
  | .held _ => 1
def uptoBulkAll {H : Type} : List (DataW H) → Nat
  | [] => 0
  | d :: r => uptoBulk d + uptoBulkAll r
def uptoBulkEntries {H : Type} : List (Lit × DataW H) → Nat
  | [] => 0
  | x :: r => uptoBulkEntry x + uptoBulkEntries r
def uptoBulkEntry {H : Type} : Lit × DataW H → Nat
  | (.string bytes, d) => bytes.length + uptoBulk d + 1
  | (_, d) => uptoBulk d + 1
 end
def uptoSmall : (H : Type) → List (DataW H) → Bool := fun _ ds => decide (uptoBulkAll ds ≤ 1048576)
def OpenSpec.upto (s : _root_.Go.ChangeSpec) : _root_.Go.OpenSpec := { _root_.Go.OpenSpec.ofChange s with cond := some uptoSmall }

/-- 'laws.FnExactQuarNew', WHERE WHAT IT READS IS OF BULK AT MOST 1048576: true; the input reads as it did. -/
def fnExactQuarNewUptoRow : OpenClaim := { program := "yteafpfmndjeanaa", sum := "193aa5ffea3c606e755e8d7530b5a93292f4ca03fa81c30226dd13d09f7846a0", func := "loop.example/g00978/laws.FnExactQuarNew", spec := "fnExactQuarNew", apart := false, narrowed := true }
def FnExactQuarNewUptoSaid : Prop := fnExactQuarNewUptoRow.holds Try.pinned (OpenSpec.upto fnExactQuarNewSpec)

/-- 'laws.FnExactQuarHas', WHERE WHAT IT READS IS OF BULK AT MOST 1048576: true; the input reads as it did. -/
def fnExactQuarHasUptoRow : OpenClaim := { program := "yteafpfmndjeanaa", sum := "193aa5ffea3c606e755e8d7530b5a93292f4ca03fa81c30226dd13d09f7846a0", func := "loop.example/g00978/laws.FnExactQuarHas", spec := "fnExactQuarHas", unfollowed := true, recurses := true, apart := false, narrowed := true }
def FnExactQuarHasUptoSaid : Prop := fnExactQuarHasUptoRow.holds Try.pinned (OpenSpec.upto fnExactQuarHasSpec)

/-- 'laws.FnExactQuarOk', WHERE WHAT IT READS IS OF BULK AT MOST 1048576: true; the input reads as it did. -/
def fnExactQuarOkUptoRow : OpenClaim := { program := "yteafpfmndjeanaa", sum := "193aa5ffea3c606e755e8d7530b5a93292f4ca03fa81c30226dd13d09f7846a0", func := "loop.example/g00978/laws.FnExactQuarOk", spec := "fnExactQuarOk", unfollowed := true, recurses := true, apart := false, narrowed := true }
def FnExactQuarOkUptoSaid : Prop := fnExactQuarOkUptoRow.holds Try.pinned (OpenSpec.upto fnExactQuarOkSpec)

/-- 'laws.FnExpired', WHERE WHAT IT READS IS OF BULK AT MOST 1048576: true; the input reads as it did. -/
def fnExpiredUptoRow : OpenClaim := { program := "yteafpfmndjeanaa", sum := "193aa5ffea3c606e755e8d7530b5a93292f4ca03fa81c30226dd13d09f7846a0", func := "loop.example/g00978/laws.FnExpired", spec := "fnExpired", unfollowed := true, recurses := true, apart := false, narrowed := true }
def FnExpiredUptoSaid : Prop := fnExpiredUptoRow.holds Try.pinned (OpenSpec.upto fnExpiredSpec)

/-- 'laws.FnQuarantine', WHERE WHAT IT READS IS OF BULK AT MOST 1048576: true; the input reads as it did. -/
def fnQuarantineUptoRow : OpenClaim := { program := "yteafpfmndjeanaa", sum := "193aa5ffea3c606e755e8d7530b5a93292f4ca03fa81c30226dd13d09f7846a0", func := "loop.example/g00978/laws.FnQuarantine", spec := "fnQuarantine", unfollowed := true, recurses := true, apart := false, narrowed := true }
def FnQuarantineUptoSaid : Prop := fnQuarantineUptoRow.holds Try.pinned (OpenSpec.upto fnQuarantineSpec)

/-- 'laws.FnExactQuarExpire', WHERE WHAT IT READS IS OF BULK AT MOST 1048576: true; the input reads as it did. -/
def fnExactQuarExpireUptoRow : OpenClaim := { program := "yteafpfmndjeanaa", sum := "193aa5ffea3c606e755e8d7530b5a93292f4ca03fa81c30226dd13d09f7846a0", func := "loop.example/g00978/laws.FnExactQuarExpire", spec := "fnExactQuarExpire", unfollowed := true, recurses := true, apart := false, narrowed := true }
def FnExactQuarExpireUptoSaid : Prop := fnExactQuarExpireUptoRow.holds Try.pinned (OpenSpec.upto fnExactQuarExpireSpec)

/-- 'laws.FnExactQuarAdd', WHERE WHAT IT READS IS OF BULK AT MOST 1048576: true; the input reads as it did. -/
def fnExactQuarAddUptoRow : OpenClaim := { program := "yteafpfmndjeanaa", sum := "193aa5ffea3c606e755e8d7530b5a93292f4ca03fa81c30226dd13d09f7846a0", func := "loop.example/g00978/laws.FnExactQuarAdd", spec := "fnExactQuarAdd", unfollowed := true, recurses := true, apart := false, narrowed := true }
def FnExactQuarAddUptoSaid : Prop := fnExactQuarAddUptoRow.holds Try.pinned (OpenSpec.upto fnExactQuarAddSpec)

end Rows
end Go.Proofs.Yteafpfmndjeanaa
