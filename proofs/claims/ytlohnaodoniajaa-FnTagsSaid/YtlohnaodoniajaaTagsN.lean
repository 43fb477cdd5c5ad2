/- TagsNew, of the program and of the reference. -/
import Derived.Test.YtlohnaodoniajaaTagsE
namespace Go.Proofs.Ytlohnaodoniajaa
open Go.ChangeShapes Go.WideShapes Go.ChangeAt Go.RowKit
set_option linter.unusedVariables false

theorem iv_replicate (n : Nat) : (madeCells (Value.int .i64 0).cells (n * 1)).toList = iv (List.replicate n 0) := by
  have h : (Value.int .i64 0).cells = #[Value.int .i64 0] := rfl
  rw [h, toList_madeCells_one, Nat.mul_one]
  simp [iv]
theorem made_facts {w w1 : World} {v : Value} {t : TypeId} (hg : (w.alloc (.cells #[v] t)).grownBy w1 none) : Below w.heap.size w w1 ∧ Cl w1 ⟨w.heap.size, 0, none⟩ v := by
  refine ⟨bel_grown hg (by (repeat' (first | (with_reducible exact Below.refl _ _) | (with_reducible refine bel_alloc ?_ ?_ _) | (with_reducible refine Below.setCell ?_ ?_ _) | (with_reducible refine below_drewN ?_ _) | (with_reducible refine Below.drew ?_) | (with_reducible exact Nat.le_refl _) | (with_reducible assumption) | omega | (simp only [World.size_alloc, World.size_setCell, World.size_drew]; omega) | (simp; omega) | (simp; done)))) (Nat.le_refl _) (by simp), ?_⟩
  have F : Cl (w.alloc (.cells #[v] t)) ⟨w.heap.size, 0, none⟩ v := Cl.new rfl rfl
  exact F.out (lo := 0) (hi := 0) (Out.of_grown hg (by simp)) (by simp)
set_option maxHeartbeats 1000000 in
theorem tagsNew_i_no (n : Int) (w : World) (h : btw n 1 512 = false) : Calls Try.prog 10 #[.int .i64 n] w (MadeTagsB [] false w) := by
  go_enter Try.func10, Try.ntmps10
  go_wp2_with (go_at_call 27; refine (between_q _ _ _ _).mono ?_; rintro e w2 ⟨rfl, rfl⟩)
  refine bodyPost_ret (v := .tuple #[.agg #[.slice none 0 0], .bool false]) (by simp [results, Try.results10, go_sem]) rfl ⟨none, 0, rfl, ⟨World.ownsRow_nil _ _ _ _, by simp⟩, ?_⟩
  (repeat' (first | (with_reducible exact Below.refl _ _) | (with_reducible refine bel_alloc ?_ ?_ _) | (with_reducible refine Below.setCell ?_ ?_ _) | (with_reducible refine below_drewN ?_ _) | (with_reducible refine Below.drew ?_) | (with_reducible exact Nat.le_refl _) | (with_reducible assumption) | omega | (simp only [World.size_alloc, World.size_setCell, World.size_drew]; omega) | (simp; omega) | (simp; done)))
set_option maxHeartbeats 1000000 in
theorem tagsNew_i_yes (n : Nat) (w : World) (h : btw (n : Int) 1 512 = true) : Calls Try.prog 10 #[.int .i64 n] w (MadeTagsB (List.replicate n 0) true w) := by
  obtain ⟨i0, hi, hz0, hz1, hz2⟩ := info_parts infoInt
  have hb := of_btw h
  unfold MadeTagsB
  rw [List.length_replicate]
  go_enter Try.func10, Try.ntmps10
  go_wp2_with (first | (go_at_call 27; refine (between_q _ _ _ _).mono ?_; rintro e w2 ⟨rfl, rfl⟩) | ((with_reducible refine wpList_make_full _ rfl (.tmp 8) (.tmp 8) _ rfl (w.heap.size + 1) 3 i0 (.int .i64 0) 1 Try.underlying22 hi hz0 hz1 .i64 .i64 _ _ n rfl rfl rfl rfl (by rw [hz2]; omega) (by unfold maxLen; omega) (by simp) ?_); intro w1 hown hgrow; obtain ⟨hb1, d0, df0⟩ := made_facts hgrow; clear hgrow))
  refine bodyPost_ret (v := .tuple #[.agg #[.slice (some ⟨w.heap.size + 1, 0, none⟩) n n], .bool true]) (by simp [results, Try.results10, go_sem, d0]) rfl ⟨_, n, rfl, ?_, ?_⟩
  · have ho := Ow.mk' hown
    rw [iv_replicate] at ho
    unfold OwI
    rw [List.length_replicate]
    have h2 := ho.set (b := w.heap.size) (o := 0) (.slice (some ⟨w.heap.size + 1, 0, none⟩) n n) (.inl (by omega))
    refine Ow.mono (hi := w1.heap.size) (lo := w.heap.size + 1) ?_ (by omega) (by simp)
    simpa using h2
  · exact hb1.setCell (by simp) _
set_option maxHeartbeats 1000000 in
theorem tagsNew_s_no (n : Int) (w : World) (h : btw n 1 512 = false) : Calls Try.prog 9 #[.int .i64 n] w (MadeTagsB [] false w) := by
  go_enter Try.func9, Try.ntmps9
  go_wp2_with (go_at_call 26; refine (l01In_q _ _ _ _).mono ?_; rintro e w2 ⟨rfl, rfl⟩)
  refine bodyPost_ret (v := .tuple #[.agg #[.slice none 0 0], .bool false]) (by simp [results, Try.results9, go_sem]) rfl ⟨none, 0, rfl, ⟨World.ownsRow_nil _ _ _ _, by simp⟩, ?_⟩
  (repeat' (first | (with_reducible exact Below.refl _ _) | (with_reducible refine bel_alloc ?_ ?_ _) | (with_reducible refine Below.setCell ?_ ?_ _) | (with_reducible refine below_drewN ?_ _) | (with_reducible refine Below.drew ?_) | (with_reducible exact Nat.le_refl _) | (with_reducible assumption) | omega | (simp only [World.size_alloc, World.size_setCell, World.size_drew]; omega) | (simp; omega) | (simp; done)))
set_option maxHeartbeats 1000000 in
theorem tagsNew_s_yes (n : Nat) (w : World) (h : btw (n : Int) 1 512 = true) : Calls Try.prog 9 #[.int .i64 n] w (MadeTagsB (List.replicate n 0) true w) := by
  obtain ⟨i0, hi, hz0, hz1, hz2⟩ := info_parts infoInt
  have hb := of_btw h
  unfold MadeTagsB
  rw [List.length_replicate]
  go_enter Try.func9, Try.ntmps9
  go_wp2_with (first | (go_at_call 26; refine (l01In_q _ _ _ _).mono ?_; rintro e w2 ⟨rfl, rfl⟩) | ((with_reducible refine wpList_make_full _ rfl (.tmp 8) (.tmp 8) _ rfl (w.heap.size + 1) 3 i0 (.int .i64 0) 1 Try.underlying22 hi hz0 hz1 .i64 .i64 _ _ n rfl rfl rfl rfl (by rw [hz2]; omega) (by unfold maxLen; omega) (by simp) ?_); intro w1 hown hgrow; obtain ⟨hb1, d0, df0⟩ := made_facts hgrow; clear hgrow))
  refine bodyPost_ret (v := .tuple #[.agg #[.slice (some ⟨w.heap.size + 1, 0, none⟩) n n], .bool true]) (by simp [results, Try.results9, go_sem, d0]) rfl ⟨_, n, rfl, ?_, ?_⟩
  · have ho := Ow.mk' hown
    rw [iv_replicate] at ho
    unfold OwI
    rw [List.length_replicate]
    have h2 := ho.set (b := w.heap.size) (o := 0) (.slice (some ⟨w.heap.size + 1, 0, none⟩) n n) (.inl (by omega))
    refine Ow.mono (hi := w1.heap.size) (lo := w.heap.size + 1) ?_ (by omega) (by simp)
    simpa using h2
  · exact hb1.setCell (by simp) _
end Go.Proofs.Ytlohnaodoniajaa
