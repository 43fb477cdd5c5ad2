/- FNExactFirstBroken: for every input the law returns true, and its arguments read as they did. Conditions: none. -/
import Derived.Test.YtljholnnhogdkaaGuardL2
import Derived.Test.YtljholnnhogdkaaOpenM
import Derived.Lib.SmallJoins
namespace Go.Proofs.Ytljholnnhogdkaa.fnExactFirstBroken
open Go.ChangeShapes Go.WideShapes Go.ChangeAt Go.RowKit
set_option linter.unusedVariables false

theorem own : ownKnob Try.prog.godebug = none := by kernel_rfl
theorem laidOut : laidOutB Try.prog = true := by kernel_rfl

set_option maxRecDepth 100000 in
theorem lifted (os : Os) (started : os.Started) (H : Type) (enc : TypeId × Value → H) :
    ReturnsInHanded {} Try.checked os 7 .any (Rows.fnExactFirstBrokenSpec.pre6 enc Try.prog Try.f7 Rows.fnExactFirstBrokenRow.domain false) (Rows.fnExactFirstBrokenSpec.post enc Try.prog Try.f7 false true false false) := by
  refine returnsInHanded_of_change (C := Try.checked) own started (by kernel_rfl) Try.func7
    (ChangeSpec.witness6 (enc := enc) (C := Try.checked) false ⟨#[], #[.agg #[.slice none 0 0, .slice none 0 0, .slice none 0 0], .int .i64 0, .int .i64 0], []⟩ 8 (by kernel_rfl) (by kernel_rfl) (by kernel_rfl) (by kernel_rfl)) ?_
  intro W base args ds gs before hval0 hW hcnd _
  have hval : ∀ (j : Nat) t v, Try.f7.params[j]? = some t → args[j]? = some v → Value.okWide Try.prog W .any base t v := hval0
  have hW' := hW
  obtain ⟨p, q, hA0, hV, rfl, hfz, hnd⟩ := hW
  have hA : DataW.TrodAll enc Try.prog W 0 (fun _ => true) true Try.f7.params.toList args.toList ds p := hA0
  rw [Try.params7] at hA hval
  obtain ⟨v0, vs0, d0, ds0, p0, q0, hargs, rfl, rfl, h0, r0⟩ := trodAll_cons hA
  obtain ⟨v1, vs1, d1, ds1, p1, q1, rfl, rfl, rfl, h1, r1⟩ := trodAll_cons r0
  obtain ⟨v2, vs2, d2, ds2, p2, q2, rfl, rfl, rfl, h2, r2⟩ := trodAll_cons r1
  obtain ⟨rfl, rfl, rfl⟩ := trodAll_nil r2
  obtain rfl : args = #[v0, v1, v2] := by cases args; simp_all
  obtain ⟨rfl, rfl⟩ := trodVars_none hV
  have k0 := h0
  have lt0 : ∀ x ∈ p0, x.block < W.heap.size := by obtain ⟨m, hm⟩ := k0; exact DataW.trod_lt m _ _ _ hm
  obtain ⟨v00, v01, v02, y00, y01, y02, n00, n01, n02, rfl, hy00, hy01, hy02⟩ := open_mach Try.underlying39 rfl (by kernel_rfl) rfl (by kernel_rfl) (by kernel_rfl) Try.underlying34 (by kernel_rfl) Try.underlying37 (by kernel_rfl) (hval 0 39 v0 rfl rfl) h0
  obtain ⟨A0, c0, x0, rfl, hr0, hm0⟩ := open_rd2 (encr := iv) Try.underlying31 (by kernel_rfl) (fun _ _ _ h => open_rd_ints Try.underlying22 Try.underlying3 (by kernel_rfl) h) hy00
  obtain ⟨B0, d0, u0, rfl, hs0, hp0⟩ := open_rd_bools Try.underlying32 Try.underlying4 (by kernel_rfl) hy01
  obtain ⟨E0, f0, t0, rfl, ht0, hq0⟩ := open_rd_fl (f := Go.Proofs.Ytljholnnhogdkaa.p2) (n0 := 2) (by omega) (fun _ => rfl) Try.underlying35 (by kernel_rfl) (cells2_of Try.underlying114 (by kernel_rfl) Try.underlying3 Try.underlying3) hy02
  obtain ⟨a1, rfl, rfl, rfl, w1⟩ := open_int Try.underlying3 (hval 1 3 v1 rfl rfl) h1
  obtain ⟨a2, rfl, rfl, rfl, w2⟩ := open_int Try.underlying3 (hval 2 3 v2 rfl rfl) h2
  clear hA0 hval0
  refine (law_firstBroken A0 c0 B0 d0 E0 f0 x0 u0 t0 a1 a2 W hr0 hs0 ht0 hm0 hp0 hq0 (wf_i64 w1) (wf_i64 w2)).mono fun e W' ⟨he, bel⟩ => ?_
  subst he
  exact ⟨_, rfl, _, _, _, [], _, [], hW', trodAll_mk1 (shut_bool Try.underlying4 _), (trodAll_cons_mk (Below.trod laidOut (by kernel_rfl) (of_decide_eq_true (by kernel_rfl)) k0 bel lt0) (trodAll_cons_mk (shut_int Try.underlying3 w1) (trodAll_cons_mk (shut_int Try.underlying3 w2) trodAll_mk0))), rfl, bel.frame _, fun h => by cases h⟩

theorem over : Rows.fnExactFirstBrokenRow.holds Try.pinned (OpenSpec.ofChange Rows.fnExactFirstBrokenSpec) :=
  OpenClaim.holds_of_wide 7 Try.f7 rfl rfl rfl rfl rfl rfl rfl ⟨rfl, rfl, rfl, rfl, rfl⟩ rfl rfl rfl rfl rfl (by kernel_rfl) Try.func7 (by kernel_rfl)
    (of_decide_eq_true (by kernel_rfl)) (by unfold Func.isWrapper; first | (rw [if_pos (by decide +kernel)]; kernel_rfl) | (rw [if_neg (by decide +kernel)]; exact ⟨rfl, rfl⟩))
    (fun os started H enc _ => lifted os started H enc)

theorem proved : Rows.FnExactFirstBrokenSaid := over
end Go.Proofs.Ytljholnnhogdkaa.fnExactFirstBroken
