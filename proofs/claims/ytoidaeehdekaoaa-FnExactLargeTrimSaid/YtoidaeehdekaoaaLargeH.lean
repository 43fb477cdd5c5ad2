/- The walks of the exact laws on LargeNew, LargeTrim. -/
import Derived.Test.YtoidaeehdekaoaaLargeE
import Derived.Test.YtoidaeehdekaoaaLargeF
namespace Go.Proofs.Ytoidaeehdekaoaa
open Go.ChangeShapes Go.WideShapes Go.ChangeAt Go.RowKit
set_option linter.unusedVariables false

set_option maxHeartbeats 4000000 in
theorem law_largeNew (P S : Int) (w : World) : Calls Try.prog 8 #[.int .i64 P, .int .i64 S] w fun e w' => e = .returned (.bool true) ∧ Below w.heap.size w w' := by
  obtain ⟨P', N', S', ok, H1, H2⟩ : ∃ (P' N' S' : Int) (ok : Bool),
      (∀ W, Calls Try.prog 23 #[.int .i64 P, .int .i64 S] W fun e w' => e = .returned (.tuple #[.agg #[.int .i64 P', .int .i64 N', .int .i64 S'], .bool ok]) ∧ Below W.heap.size W w') ∧
      (∀ W, Calls Try.prog 24 #[.int .i64 P, .int .i64 S] W fun e w' => e = .returned (.tuple #[.agg #[.int .i64 P', .int .i64 N', .int .i64 S'], .bool ok]) ∧ Below W.heap.size W w') := by
    cases hk : lOk P (pagesFor S) S with
    | false => exact ⟨0, 0, 0, false, fun W => largeNew_s_no _ _ W hk, fun W => largeNew_i_no _ _ W hk⟩
    | true => exact ⟨P, pagesFor S, S, true, fun W => largeNew_s_yes _ _ W hk, fun W => largeNew_i_yes _ _ W hk⟩
  have H1 := Lib.hid H1
  have H2 := Lib.hid H2
  go_enter Try.func8, Try.ntmps8
  go_wp2_with fail
  refine (H1.out _).mono ?_
  rintro e w1 ⟨rfl, hb1⟩
  go_wp2_with fail
  refine (H2.out _).mono ?_
  rintro e w2 ⟨rfl, hb2⟩
  have b0 : w2.cell? ⟨w1.heap.size, 0, none⟩ = some (.int .i64 P') := keep hb2 (by simp [go_sem])
  have b1 : w2.cell? ⟨w1.heap.size, 1, none⟩ = some (.int .i64 N') := keep hb2 (by simp [go_sem])
  have b2 : w2.cell? ⟨w1.heap.size, 2, none⟩ = some (.int .i64 S') := keep hb2 (by simp [go_sem])
  have hz := lt_of_cell' b0
  go_wp2_with fail
  refine (eqLarge_same _ _ _ _).mono ?_
  rintro e w3 ⟨rfl, hb3⟩
  go_wp2
  go_ret
  exact ⟨rfl, by (repeat' (first | (with_reducible exact Below.refl _ _) | (with_reducible refine bel_alloc ?_ ?_ _) | (with_reducible refine Below.setCell ?_ ?_ _) | (with_reducible refine below_drewN ?_ _) | (with_reducible refine Below.drew ?_) | (with_reducible refine bel_step hb1 ?_ ?_) | (with_reducible refine bel_step hb2 ?_ ?_) | (with_reducible refine bel_step hb3 ?_ ?_) | (with_reducible exact Nat.le_refl _) | (with_reducible assumption) | omega | (simp only [World.size_alloc, World.size_setCell, World.size_drew]; omega) | (simp; omega) | (simp; done)))⟩

set_option maxHeartbeats 4000000 in
theorem law_largeTrim (P N S Z : Int) (w : World) : Calls Try.prog 11 #[.agg #[.int .i64 P, .int .i64 N, .int .i64 S], .int .i64 Z] w fun e w' => e = .returned (.bool true) ∧ Below w.heap.size w w' := by
  obtain ⟨P', N', S', A', L', ok, H1, H2⟩ : ∃ (P' N' S' A' L' : Int) (ok : Bool),
      (∀ W, Calls Try.prog 28 #[.agg #[.int .i64 P, .int .i64 N, .int .i64 S], .int .i64 Z] W fun e w' => e = .returned (.tuple #[.agg #[.int .i64 P', .int .i64 N', .int .i64 S'], .agg #[.int .i64 A', .int .i64 L'], .bool ok]) ∧ Below W.heap.size W w') ∧
      (∀ W, Calls Try.prog 26 #[.agg #[.int .i64 P, .int .i64 N, .int .i64 S], .int .i64 Z] W fun e w' => e = .returned (.tuple #[.agg #[.int .i64 P', .int .i64 N', .int .i64 S'], .agg #[.int .i64 A', .int .i64 L'], .bool ok]) ∧ Below W.heap.size W w') := by
    cases h1 : lOk P N S with
    | false => exact ⟨P, N, S, 0, 0, false, fun W => largeTrim_s_no1 _ _ _ _ W h1, fun W => largeTrim_i_no1 _ _ _ _ W h1⟩
    | true =>
      cases h2 : btw Z 9 S with
      | false => exact ⟨P, N, S, 0, 0, false, fun W => largeTrim_s_no2 _ _ _ _ W h1 h2, fun W => largeTrim_i_no2 _ _ _ _ W h1 h2⟩
      | true =>
        have hz := of_btw h2
        have hy := lOk_yes h1
        have hm := pagesFor_mono hz.1 hz.2 hy.2.1
        have hN : pagesFor S = N := by rw [pagesFor_in hy.1 hy.2.1]; omega
        by_cases h3 : pagesFor Z = N
        · exact ⟨P, N, Z, 0, 0, true, fun W => largeTrim_s_eq _ _ _ _ W h1 h2 h3, fun W => largeTrim_i_eq _ _ _ _ W h1 h2 h3⟩
        · exact ⟨P, pagesFor Z, Z, P + pagesFor Z, N - pagesFor Z, true, fun W => largeTrim_s_lt _ _ _ _ _ W h1 h2 rfl (by omega), fun W => largeTrim_i_lt _ _ _ _ _ W h1 h2 rfl (by omega)⟩
  have H1 := Lib.hid H1
  have H2 := Lib.hid H2
  go_enter Try.func11, Try.ntmps11
  go_wp2_with fail
  refine (toLarge_any _ _ _ _).mono ?_
  rintro e w1 ⟨rfl, hb1⟩
  have b0 : w1.cell? ⟨w.heap.size, 0, none⟩ = some (.int .i64 P) := keep hb1 (by simp [go_sem])
  have b1 : w1.cell? ⟨w.heap.size, 1, none⟩ = some (.int .i64 N) := keep hb1 (by simp [go_sem])
  have b2 : w1.cell? ⟨w.heap.size, 2, none⟩ = some (.int .i64 S) := keep hb1 (by simp [go_sem])
  go_wp2_with fail
  refine (H1.out _).mono ?_
  rintro e w2 ⟨rfl, hb2⟩
  have b0 := keep hb2 b0
  have b1 := keep hb2 b1
  have b2 := keep hb2 b2
  have hz2 := lt_of_cell' b0
  go_wp2_with fail
  refine (toLarge_any _ _ _ _).mono ?_
  rintro e w3 ⟨rfl, hb3⟩
  have c0 : w3.cell? ⟨w2.heap.size, 0, none⟩ = some (.int .i64 P') := keep hb3 (by simp [go_sem])
  have c1 : w3.cell? ⟨w2.heap.size, 1, none⟩ = some (.int .i64 N') := keep hb3 (by simp [go_sem])
  have c2 : w3.cell? ⟨w2.heap.size, 2, none⟩ = some (.int .i64 S') := keep hb3 (by simp [go_sem])
  have d0 : w3.cell? ⟨w2.heap.size + 1, 0, none⟩ = some (.int .i64 A') := keep hb3 (by simp [go_sem])
  have d1 : w3.cell? ⟨w2.heap.size + 1, 1, none⟩ = some (.int .i64 L') := keep hb3 (by simp [go_sem])
  go_wp2_with fail
  refine (H2.out _).mono ?_
  rintro e w4 ⟨rfl, hb4⟩
  have c0 := keep hb4 c0
  have c1 := keep hb4 c1
  have c2 := keep hb4 c2
  have d0 := keep hb4 d0
  have d1 := keep hb4 d1
  have hc4 := lt_of_cell' c0
  have hd4 := lt_of_cell' d0
  have hd5 : w2.heap.size < w4.heap.size := by omega
  go_wp2_with fail
  refine (eqLarge_same _ _ _ _).mono ?_
  rintro e w5 ⟨rfl, hb5⟩
  have d0 : w5.cell? ⟨w2.heap.size + 1, 0, none⟩ = some (.int .i64 A') := keep hb5 (cell_al (cell_al d0 _) _)
  have d1 : w5.cell? ⟨w2.heap.size + 1, 1, none⟩ = some (.int .i64 L') := keep hb5 (cell_al (cell_al d1 _) _)
  have f0 : w5.cell? ⟨w4.heap.size + 1, 0, none⟩ = some (.int .i64 A') := keep hb5 (by simp [go_sem])
  have f1 : w5.cell? ⟨w4.heap.size + 1, 1, none⟩ = some (.int .i64 L') := keep hb5 (by simp [go_sem])
  go_wp2_with fail
  refine (eqRange_same _ _ _).mono ?_
  rintro e w6 ⟨rfl, hb6⟩
  go_wp2
  go_ret
  exact ⟨rfl, by (repeat' (first | (with_reducible exact Below.refl _ _) | (with_reducible refine bel_alloc ?_ ?_ _) | (with_reducible refine Below.setCell ?_ ?_ _) | (with_reducible refine below_drewN ?_ _) | (with_reducible refine Below.drew ?_) | (with_reducible refine bel_step hb1 ?_ ?_) | (with_reducible refine bel_step hb2 ?_ ?_) | (with_reducible refine bel_step hb3 ?_ ?_) | (with_reducible refine bel_step hb4 ?_ ?_) | (with_reducible refine bel_step hb5 ?_ ?_) | (with_reducible refine bel_step hb6 ?_ ?_) | (with_reducible exact Nat.le_refl _) | (with_reducible assumption) | omega | (simp only [World.size_alloc, World.size_setCell, World.size_drew]; omega) | (simp; omega) | (simp; done)))⟩
end Go.Proofs.Ytoidaeehdekaoaa
