/- Retag, of the reference. -/
import Derived.Test.YtlohnaodoniajaaTagsE
namespace Go.Proofs.Ytlohnaodoniajaa
open Go.ChangeShapes Go.WideShapes Go.ChangeAt Go.RowKit
set_option linter.unusedVariables false

set_option maxHeartbeats 2000000 in
theorem retag_s_no (A : Option Addr) (c : Nat) (xs : List Int) (a : Int) (w : World) {B : Nat} (hr : Rd w B A (iv xs)) (hn : xs.length ≤ 1048576) (hb : hasB xs a = false) :
    Calls Try.prog 25 #[.agg #[.slice A xs.length c], .int .i64 a] w (MadeTagsB xs false w) := by
  obtain ⟨i0, hi, hz0, hz1, hz2⟩ := info_parts infoInt
  have hcase : tOkB xs = false ∨ (tOkB xs = true ∧ btw a 0 ((xs.length : Int) - 1) = false) := by
    simp only [hasB, Bool.and_eq_false_iff] at hb
    cases h : tOkB xs
    · exact .inl rfl
    · rcases hb with h1 | h1
      · exact .inr ⟨rfl, h1⟩
      · rw [h] at h1; cases h1
  rcases hcase with h1 | ⟨h1, h2⟩
  all_goals
    clear hb
    go_enter Try.func25, Try.ntmps25
    go_wp2_with (at_builtin; refine wpList_append_rd _ rfl (.tmp 7) (.tmp 9) _ rfl (w.heap.size + 1 + 1) 3 i0 (.int .i64 0) 1 8 Try.underlying22 hi hz0 hz1 hz2 rfl (by omega) (.slice (some ⟨w.heap.size + 1 + 1, 0, none⟩) 0 0) 0 [] rfl (own_empty (by simp) (Nat.le_refl _)) A xs.length c (iv xs) rfl (by simp) (((hr.alloc _).alloc _).alloc _) (iv_one _) (by unfold maxLen; omega) (by omega) (by simp) ?_; intro v' w1 hown hgrow hat; obtain ⟨A', c', rfl⟩ := own_form hown; have hO := Out.of_grown (lo := w.heap.size + 1 + 1) (hi := w.heap.size + 1 + 1 + 1) hgrow (by intro g hg; simp [Value.ownBlock] at hg; omega); have b0 := hO.cell (p := ⟨w.heap.size, 0, none⟩) (v := .slice A xs.length c) (by simp [go_sem]) (by simp; omega); have hb0 := lt_of_cell' b0)
    have hbW := bel_out (a := w) hO (by (repeat' (first | (with_reducible exact Below.refl _ _) | (with_reducible refine bel_alloc ?_ ?_ _) | (with_reducible refine Below.setCell ?_ ?_ _) | (with_reducible refine below_drewN ?_ _) | (with_reducible refine Below.drew ?_) | (with_reducible exact Nat.le_refl _) | (with_reducible assumption) | omega | (simp only [World.size_alloc, World.size_setCell, World.size_drew]; omega) | (simp; omega) | (simp; done)))) (Nat.le_refl _) (by omega)
    have F1 : Cl w1 ⟨w.heap.size + 1, 0, none⟩ (.slice none 0 0) := Cl.out (Cl.alloc (Cl.new (by simp) rfl) _) hO (by simp)
    have ho := Ow.mk' hown
    simp only [Nat.zero_add, List.nil_append] at ho
    clear hown hgrow hat hO
    refine (tagsOk_s _ _ _ _ ((hr.below hbW).alloc _) hn).mono ?_
    rintro e w2 ⟨rfl, hb2⟩
    have F := (F1.alloc _).below hb2
    obtain ⟨f0, ff0⟩ := F
    have b0 := keep hb2 (cell_al b0 _)
    have d0 : w2.cell? ⟨w1.heap.size, 0, none⟩ = some (.slice A' xs.length c') := keep hb2 (by simp [go_sem])
    go_wp2_with (go_at_call 26; refine (l01In_q _ _ _ _).mono ?_; rintro e w3 ⟨rfl, rfl⟩)
    refine bodyPost_ret (v := .tuple #[.agg #[.slice A' xs.length c'], .bool false]) (by simp [results, Try.results25, go_sem, f0]) rfl ⟨A', c', rfl, ?_, ?_⟩
    · simp only [World.size_setCell]
      exact (((ho.alloc _).below hb2).set _ (.inl (by simp))).mono (by omega) (by have := hb2.size; simp at this; omega)
    · exact (bel_step hb2 (bel_alloc hbW (Nat.le_refl _) _) (Nat.le_refl _)).setCell (by simp) _
set_option maxHeartbeats 2000000 in
theorem retag_s_yes (A : Option Addr) (c : Nat) (xs : List Int) (k : Nat) (w : World) {B : Nat} (hr : Rd w B A (iv xs)) (hn : xs.length ≤ 1048576) (hb : hasB xs k = true) :
    Calls Try.prog 25 #[.agg #[.slice A xs.length c], .int .i64 k] w (MadeTagsB (bump xs k) true w) := by
  obtain ⟨i0, hi, hz0, hz1, hz2⟩ := info_parts infoInt
  obtain ⟨k', hke, hk, hx0, hx1, hl, h1⟩ := hasB_yes hb
  have h2 : btw (k : Int) 0 ((xs.length : Int) - 1) = true := by simp only [hasB, Bool.and_eq_true] at hb; exact hb.1
  obtain rfl : k' = k := by omega
  clear hke hb
  obtain ⟨x, hx⟩ : ∃ x, x = xs[k'] := ⟨_, rfl⟩
  rw [← hx] at hx0 hx1
  have HB := Lib.hid (show iv (bump xs k') = (iv xs).set k' (.int .i64 ((x + 1) % 8)) by simp [bump, iv, List.map_set, hx, hk])
  have HX := Lib.hid (show (iv xs)[k']? = some (.int .i64 x) by rw [iv_at hk, hx])
  obtain ⟨b, off, hA, hBw, hcell⟩ := hr.int hk
  rw [← hx] at hcell
  clear hx
  subst hA
  unfold MadeTagsB
  rw [bump_length]
  go_enter Try.func25, Try.ntmps25
  go_wp2_with (at_builtin; refine wpList_append_rd _ rfl (.tmp 7) (.tmp 9) _ rfl (w.heap.size + 1 + 1) 3 i0 (.int .i64 0) 1 8 Try.underlying22 hi hz0 hz1 hz2 rfl (by omega) (.slice (some ⟨w.heap.size + 1 + 1, 0, none⟩) 0 0) 0 [] rfl (own_empty (by simp) (Nat.le_refl _)) (some ⟨b, off, none⟩) xs.length c (iv xs) rfl (by simp) (((hr.alloc _).alloc _).alloc _) (iv_one _) (by unfold maxLen; omega) (by omega) (by simp) ?_; intro v' w1 hown hgrow hat; obtain ⟨A', c', rfl⟩ := own_form hown; have hO := Out.of_grown (lo := w.heap.size + 1 + 1) (hi := w.heap.size + 1 + 1 + 1) hgrow (by intro g hg; simp [Value.ownBlock] at hg; omega); have b0 := hO.cell (p := ⟨w.heap.size, 0, none⟩) (v := .slice (some ⟨b, off, none⟩) xs.length c) (by simp [go_sem]) (by simp; omega); have hb0 := lt_of_cell' b0)
  have hbW := bel_out (a := w) hO (by (repeat' (first | (with_reducible exact Below.refl _ _) | (with_reducible refine bel_alloc ?_ ?_ _) | (with_reducible refine Below.setCell ?_ ?_ _) | (with_reducible refine below_drewN ?_ _) | (with_reducible refine Below.drew ?_) | (with_reducible exact Nat.le_refl _) | (with_reducible assumption) | omega | (simp only [World.size_alloc, World.size_setCell, World.size_drew]; omega) | (simp; omega) | (simp; done)))) (Nat.le_refl _) (by omega)
  have F1 : Cl w1 ⟨w.heap.size + 1, 0, none⟩ (.slice none 0 0) := Cl.out (Cl.alloc (Cl.new (by simp) rfl) _) hO (by simp)
  have ho := Ow.mk' hown
  simp only [Nat.zero_add, List.nil_append] at ho
  clear hown hgrow hat hO
  refine (tagsOk_s _ _ _ _ ((hr.below hbW).alloc _) hn).mono ?_
  rintro e w2 ⟨rfl, hb2⟩
  have F := (F1.alloc _).below hb2
  obtain ⟨f0, ff0⟩ := F
  have b0 := keep hb2 (cell_al b0 _)
  have q0 := keep hb2 (cell_al (keep hbW hcell) _)
  have d0 : w2.cell? ⟨w1.heap.size, 0, none⟩ = some (.slice A' xs.length c') := keep hb2 (by simp [go_sem])
  have ho2 := (ho.alloc (.cells #[.slice A' xs.length c'] 24)).below hb2
  obtain ⟨g, rfl, hg1, hg2⟩ := ho2.some_ (by omega)
  have e0 : w2.cell? ⟨g, k', none⟩ = some (.int .i64 x) := by rw [ho2.1.cellAt k' (by omega)]; exact HX.out
  have ef0 := ho2.1.frozenAt k'
  have j0 : (0 : Int) ≤ (k' : Int) := by omega
  have j1 : (k' : Int) < (xs.length : Int) := by omega
  have hgw : w.heap.size ≤ g := by omega
  have hne : g ≠ w.heap.size + 1 := by omega
  have hne2 : g ≠ w1.heap.size := by omega
  have hm8 : IntKind.i64.wrap (x + 1) = x + 1 := IntWalk.i64_in _ (by omega)
  go_wp2_with (go_at_call 26; refine (l01In_q _ _ _ _).mono ?_; rintro e w3 ⟨rfl, rfl⟩)
  go_region
  all_goals
    go_wp2
    refine bodyPost_ret (v := .tuple #[.agg #[.slice (some ⟨g, 0, none⟩) xs.length c'], .bool true]) (by simp [results, Try.results25, go_sem, f0, hne, hne2]) rfl ⟨some ⟨g, 0, none⟩, c', rfl, ?_, ?_⟩
    · have h3 : Ow (World.setCell _ ⟨g, k', none⟩ (.int .i64 ((x + 1) % 8))) _ _ 3 1 (some ⟨g, 0, none⟩) xs.length c' _ := ⟨(ho2.1.stored k' _).1, ho2.2⟩
      show Ow _ _ _ _ _ _ (bump xs k').length _ _
      rw [bump_length, HB.out]
      exact (h3.set _ (.inl (by simp))).mono (by omega) (by have := hb2.size; simp at this ⊢; omega)
    · exact (((bel_step hb2 (bel_alloc hbW (Nat.le_refl _) _) (Nat.le_refl _)).setCell (by omega) _).setCell (by simp) _).drew
end Go.Proofs.Ytlohnaodoniajaa
