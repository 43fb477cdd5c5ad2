/- MailNew, of the program and of the reference. -/
import Derived.Test.YtggigndkamkclaaMailA
import Derived.Test.YtggigndkamkclaaNum
import Derived.BigRegion
import Derived.Deep.OwnRows
namespace Go.Proofs.Ytggigndkamkclaa
open Go.ChangeShapes Go.WideShapes Go.ChangeAt Go.RowKit
set_option linter.unusedVariables false

def MadeMailB (xss : List (List Po)) (yss : List (List Int)) (ok : Bool) (w : World) (e : Ending) (w' : World) : Prop :=
  ∃ A c B d S T, e = .returned (.tuple #[.agg #[.slice A xss.length c, .slice B yss.length d], .bool ok]) ∧ Wr2 pv w' S A xss ∧ Wr2 iv w' T B yss ∧ New S w w' ∧ New T w w' ∧ (∀ b, S b → ¬ T b) ∧ Below w.heap.size w w'
theorem wr2_nils {α : Type} {enc : List α → List Value} (h0 : enc [] = []) {w : World} {g n : Nat} (hc : ∀ k, k < n → w.cell? ⟨g, k, none⟩ = some (.slice none 0 0)) : Wr2 enc w (fun b => b = g) (some ⟨g, 0, none⟩) (List.replicate n []) := by
  refine .inr ⟨g, 0, fun _ _ => False, fun _ => (none, 0), rfl, rfl, fun _ _ _ h => h.elim, fun k hk => ?_, fun k hk => .inl (by simpa using h0), fun _ _ _ h => h.elim, fun _ _ _ _ _ h => h.elim⟩
  have hk' : k < n := by simpa using hk
  rw [Nat.zero_add, hc k hk']
  simp
theorem madeNil (n k : Nat) (hk : k < n) : (madeCells #[Value.slice none 0 0] n)[k]? = some (.slice none 0 0) := by
  rw [← Array.getElem?_toList, toList_madeCells_one]
  simp [hk]
set_option maxHeartbeats 4000000 in
theorem mailNew_i (t : Int) (w : World) (v : Bool) (hv : btw t 1 4 = v) : Calls Try.prog 13 #[.int .i64 t] w (MadeMailB (if v then List.replicate t.toNat [] else []) (if v then List.replicate t.toNat [] else []) v w) := by
  cases v with
  | false =>
    go_enter Try.func13, Try.ntmps13
    go_wp2_with (go_at_call 38; refine (between_q _ _ _ _).mono ?_; rintro e w2 ⟨rfl, rfl⟩)
    refine bodyPost_ret (v := .tuple #[.agg #[.slice none 0 0, .slice none 0 0], .bool false]) (by simp [results, Try.results13, go_sem]) rfl ⟨none, 0, none, 0, fun _ => False, fun _ => False, rfl, .inl rfl, .inl rfl, fun _ h => h.elim, fun _ h => h.elim, fun _ h => h.elim, ?_⟩
    (repeat' (first | (with_reducible exact Below.refl _ _) | (with_reducible refine bel_alloc ?_ ?_ _) | (with_reducible refine Below.setCell ?_ ?_ _) | (with_reducible refine below_drewN ?_ _) | (with_reducible refine Below.drew ?_) | (with_reducible exact Nat.le_refl _) | (with_reducible assumption) | omega | (simp only [World.size_alloc, World.size_setCell, World.size_drew]; omega) | (simp; omega) | (simp; done)))
  | true =>
    have hb := of_btw hv
    obtain ⟨n, rfl⟩ := Int.eq_ofNat_of_zero_le (show 0 ≤ t by omega)
    have hm1 := fun W => Go.run_make_row' (P := Try.prog) 26 49 (.slice none 0 0) 24 Try.underlying26 infoPostSS rfl .i64 .i64 n (by omega) (by omega) W
    have hm2 := fun W => Go.run_make_row' (P := Try.prog) 27 24 (.slice none 0 0) 24 Try.underlying27 infoIntSS rfl .i64 .i64 n (by omega) (by omega) W
    have HM := Lib.hid (madeNil n)
    go_enter Try.func13, Try.ntmps13
    go_wp2_with (go_at_call 38; refine (between_q _ _ _ _).mono ?_; rintro e w2 ⟨rfl, rfl⟩)
    generalize madeCells #[.slice none 0 0] n = cs at *
    go_region
    all_goals
      go_wp2
    · refine bodyPost_ret (v := .tuple #[.agg #[.slice (some ⟨w.heap.size + 1, 0, none⟩) n n, .slice (some ⟨w.heap.size + 1 + 1, 0, none⟩) n n], .bool true]) (by simp [results, Try.results13, go_sem]) rfl ⟨some ⟨w.heap.size + 1, 0, none⟩, n, some ⟨w.heap.size + 1 + 1, 0, none⟩, n, fun b => b = w.heap.size + 1, fun b => b = w.heap.size + 1 + 1, by simp, ?_, ?_, fun b hb => by simp only [World.size_setCell, World.size_alloc, World.size_drew]; have h : b = _ := hb; omega, fun b hb => by simp only [World.size_setCell, World.size_alloc, World.size_drew]; have h : b = _ := hb; omega, fun b h1 h2 => by have e1 : b = _ := h1; have e2 : b = _ := h2; omega, ?_⟩
      · exact wr2_nils rfl (fun k hk => ((Cl.new (w := w.alloc _) (cs := cs) (t := 49) (by simp) (HM.out k hk)).alloc _).1)
      · exact wr2_nils rfl (fun k hk => (Cl.new (w := (w.alloc _).alloc _) (cs := cs) (t := 24) (by simp) (HM.out k hk)).1)
      · (repeat' (first | (with_reducible exact Below.refl _ _) | (with_reducible refine bel_alloc ?_ ?_ _) | (with_reducible refine Below.setCell ?_ ?_ _) | (with_reducible refine below_drewN ?_ _) | (with_reducible refine Below.drew ?_) | (with_reducible exact Nat.le_refl _) | (with_reducible assumption) | omega | (simp only [World.size_alloc, World.size_setCell, World.size_drew]; omega) | (simp; omega) | (simp; done)))
    · refine bodyPost_ret (v := .tuple #[.agg #[.slice (some ⟨w.heap.size + 1 + 1, 0, none⟩) n n, .slice (some ⟨w.heap.size + 1, 0, none⟩) n n], .bool true]) (by simp [results, Try.results13, go_sem]) rfl ⟨some ⟨w.heap.size + 1 + 1, 0, none⟩, n, some ⟨w.heap.size + 1, 0, none⟩, n, fun b => b = w.heap.size + 1 + 1, fun b => b = w.heap.size + 1, by simp, ?_, ?_, fun b hb => by simp only [World.size_setCell, World.size_alloc, World.size_drew]; have h : b = _ := hb; omega, fun b hb => by simp only [World.size_setCell, World.size_alloc, World.size_drew]; have h : b = _ := hb; omega, fun b h1 h2 => by have e1 : b = _ := h1; have e2 : b = _ := h2; omega, ?_⟩
      · exact wr2_nils rfl (fun k hk => (Cl.new (w := (w.alloc _).alloc _) (cs := cs) (t := 49) (by simp) (HM.out k hk)).1)
      · exact wr2_nils rfl (fun k hk => ((Cl.new (w := w.alloc _) (cs := cs) (t := 24) (by simp) (HM.out k hk)).alloc _).1)
      · (repeat' (first | (with_reducible exact Below.refl _ _) | (with_reducible refine bel_alloc ?_ ?_ _) | (with_reducible refine Below.setCell ?_ ?_ _) | (with_reducible refine below_drewN ?_ _) | (with_reducible refine Below.drew ?_) | (with_reducible exact Nat.le_refl _) | (with_reducible assumption) | omega | (simp only [World.size_alloc, World.size_setCell, World.size_drew]; omega) | (simp; omega) | (simp; done)))
set_option maxHeartbeats 4000000 in
theorem mailNew_s (t : Int) (w : World) (v : Bool) (hv : btw t 1 4 = v) : Calls Try.prog 17 #[.int .i64 t] w (MadeMailB (if v then List.replicate t.toNat [] else []) (if v then List.replicate t.toNat [] else []) v w) := by
  cases v with
  | false =>
    go_enter Try.func17, Try.ntmps17
    go_wp2_with (go_at_call 42; refine (l01In_q _ _ _ _).mono ?_; rintro e w2 ⟨rfl, rfl⟩)
    refine bodyPost_ret (v := .tuple #[.agg #[.slice none 0 0, .slice none 0 0], .bool false]) (by simp [results, Try.results17, go_sem]) rfl ⟨none, 0, none, 0, fun _ => False, fun _ => False, rfl, .inl rfl, .inl rfl, fun _ h => h.elim, fun _ h => h.elim, fun _ h => h.elim, ?_⟩
    (repeat' (first | (with_reducible exact Below.refl _ _) | (with_reducible refine bel_alloc ?_ ?_ _) | (with_reducible refine Below.setCell ?_ ?_ _) | (with_reducible refine below_drewN ?_ _) | (with_reducible refine Below.drew ?_) | (with_reducible exact Nat.le_refl _) | (with_reducible assumption) | omega | (simp only [World.size_alloc, World.size_setCell, World.size_drew]; omega) | (simp; omega) | (simp; done)))
  | true =>
    have hb := of_btw hv
    obtain ⟨n, rfl⟩ := Int.eq_ofNat_of_zero_le (show 0 ≤ t by omega)
    have hm1 := fun W => Go.run_make_row' (P := Try.prog) 26 49 (.slice none 0 0) 24 Try.underlying26 infoPostSS rfl .i64 .i64 n (by omega) (by omega) W
    have hm2 := fun W => Go.run_make_row' (P := Try.prog) 27 24 (.slice none 0 0) 24 Try.underlying27 infoIntSS rfl .i64 .i64 n (by omega) (by omega) W
    have HM := Lib.hid (madeNil n)
    go_enter Try.func17, Try.ntmps17
    go_wp2_with (go_at_call 42; refine (l01In_q _ _ _ _).mono ?_; rintro e w2 ⟨rfl, rfl⟩)
    generalize madeCells #[.slice none 0 0] n = cs at *
    go_region
    all_goals
      go_wp2
    · refine bodyPost_ret (v := .tuple #[.agg #[.slice (some ⟨w.heap.size + 1, 0, none⟩) n n, .slice (some ⟨w.heap.size + 1 + 1, 0, none⟩) n n], .bool true]) (by simp [results, Try.results17, go_sem]) rfl ⟨some ⟨w.heap.size + 1, 0, none⟩, n, some ⟨w.heap.size + 1 + 1, 0, none⟩, n, fun b => b = w.heap.size + 1, fun b => b = w.heap.size + 1 + 1, by simp, ?_, ?_, fun b hb => by simp only [World.size_setCell, World.size_alloc, World.size_drew]; have h : b = _ := hb; omega, fun b hb => by simp only [World.size_setCell, World.size_alloc, World.size_drew]; have h : b = _ := hb; omega, fun b h1 h2 => by have e1 : b = _ := h1; have e2 : b = _ := h2; omega, ?_⟩
      · exact wr2_nils rfl (fun k hk => ((Cl.new (w := w.alloc _) (cs := cs) (t := 49) (by simp) (HM.out k hk)).alloc _).1)
      · exact wr2_nils rfl (fun k hk => (Cl.new (w := (w.alloc _).alloc _) (cs := cs) (t := 24) (by simp) (HM.out k hk)).1)
      · (repeat' (first | (with_reducible exact Below.refl _ _) | (with_reducible refine bel_alloc ?_ ?_ _) | (with_reducible refine Below.setCell ?_ ?_ _) | (with_reducible refine below_drewN ?_ _) | (with_reducible refine Below.drew ?_) | (with_reducible exact Nat.le_refl _) | (with_reducible assumption) | omega | (simp only [World.size_alloc, World.size_setCell, World.size_drew]; omega) | (simp; omega) | (simp; done)))
    · refine bodyPost_ret (v := .tuple #[.agg #[.slice (some ⟨w.heap.size + 1 + 1, 0, none⟩) n n, .slice (some ⟨w.heap.size + 1, 0, none⟩) n n], .bool true]) (by simp [results, Try.results17, go_sem]) rfl ⟨some ⟨w.heap.size + 1 + 1, 0, none⟩, n, some ⟨w.heap.size + 1, 0, none⟩, n, fun b => b = w.heap.size + 1 + 1, fun b => b = w.heap.size + 1, by simp, ?_, ?_, fun b hb => by simp only [World.size_setCell, World.size_alloc, World.size_drew]; have h : b = _ := hb; omega, fun b hb => by simp only [World.size_setCell, World.size_alloc, World.size_drew]; have h : b = _ := hb; omega, fun b h1 h2 => by have e1 : b = _ := h1; have e2 : b = _ := h2; omega, ?_⟩
      · exact wr2_nils rfl (fun k hk => (Cl.new (w := (w.alloc _).alloc _) (cs := cs) (t := 49) (by simp) (HM.out k hk)).1)
      · exact wr2_nils rfl (fun k hk => ((Cl.new (w := w.alloc _) (cs := cs) (t := 24) (by simp) (HM.out k hk)).alloc _).1)
      · (repeat' (first | (with_reducible exact Below.refl _ _) | (with_reducible refine bel_alloc ?_ ?_ _) | (with_reducible refine Below.setCell ?_ ?_ _) | (with_reducible refine below_drewN ?_ _) | (with_reducible refine Below.drew ?_) | (with_reducible exact Nat.le_refl _) | (with_reducible assumption) | omega | (simp only [World.size_alloc, World.size_setCell, World.size_drew]; omega) | (simp; omega) | (simp; done)))
end Go.Proofs.Ytggigndkamkclaa
