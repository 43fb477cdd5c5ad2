/- MailNew of the reference, with capacities. -/
import Derived.Test.YtggigndkamkclaaMailC
import Derived.Deep.RegionHeld3
import Derived.Deep.RegionLaw
import Derived.Deep.DrawnRows
import Derived.Deep.DeepCutAuto
namespace Go.Proofs.Ytggigndkamkclaa
open Go.ChangeShapes Go.WideShapes Go.ChangeAt Go.RowKit
set_option linter.unusedVariables false
set_option linter.unusedSimpArgs false
attribute [local go_sem ↓] Go.wp_at_zero Go.wp_at_succ

set_option maxHeartbeats 4000000 in
theorem mailNew_c (t : Int) (w : World) (hv : btw t 1 4 = true) : Calls Try.prog 17 #[.int .i64 t] w (MadeMBc (List.replicate t.toNat []) (List.replicate t.toNat []) true w) := by
  have hb := of_btw hv
  obtain ⟨n, rfl⟩ := Int.eq_ofNat_of_zero_le (show 0 ≤ t by omega)
  have hm1 := fun W => Go.run_make_row' (P := Try.prog) 26 49 (.slice none 0 0) 24 Try.underlying26 infoPostSS rfl .i64 .i64 n (by omega) (by omega) W
  have hm2 := fun W => Go.run_make_row' (P := Try.prog) 27 24 (.slice none 0 0) 24 Try.underlying27 infoIntSS rfl .i64 .i64 n (by omega) (by omega) W
  have HM := Lib.hid (madeNil n)
  go_enter Try.func17, Try.ntmps17
  go_wp2_with (go_at_call 42; refine (l01In_q _ _ _ _).mono ?_; rintro e w2 ⟨rfl, rfl⟩)
  generalize madeCells #[.slice none 0 0] n = cs at *
  go_region
  all_goals
    go_wp2
  · refine bodyPost_ret (v := .tuple #[.agg #[.slice (some ⟨w.heap.size + 1, 0, none⟩) n n, .slice (some ⟨w.heap.size + 1 + 1, 0, none⟩) n n], .bool true]) (by simp [results, Try.results17, go_sem]) rfl ⟨some ⟨w.heap.size + 1, 0, none⟩, n, some ⟨w.heap.size + 1 + 1, 0, none⟩, n, fun b => b = w.heap.size + 1, fun b => b = w.heap.size + 1 + 1, by simp, ?_, ?_, fun b hb => by simp only [World.size_setCell, World.size_alloc, World.size_drew]; have h : b = _ := hb; omega, fun b hb => by simp only [World.size_setCell, World.size_alloc, World.size_drew]; have h : b = _ := hb; omega, fun b h1 h2 => by have e1 : b = _ := h1; have e2 : b = _ := h2; omega, ?_⟩
    · exact wr2c_nils rfl (fun k hk => ((Cl.new (w := w.alloc _) (cs := cs) (t := 49) (by simp) (HM.out k hk)).alloc _).1)
    · exact wr2_nils rfl (fun k hk => (Cl.new (w := (w.alloc _).alloc _) (cs := cs) (t := 24) (by simp) (HM.out k hk)).1)
    · (repeat' (first | (with_reducible exact Below.refl _ _) | (with_reducible refine bel_alloc ?_ ?_ _) | (with_reducible refine Below.setCell ?_ ?_ _) | (with_reducible refine below_drewN ?_ _) | (with_reducible refine Below.drew ?_) | (with_reducible exact Nat.le_refl _) | (with_reducible assumption) | omega | (simp only [World.size_alloc, World.size_setCell, World.size_drew]; omega) | (simp; omega) | (simp; done)))
  · refine bodyPost_ret (v := .tuple #[.agg #[.slice (some ⟨w.heap.size + 1 + 1, 0, none⟩) n n, .slice (some ⟨w.heap.size + 1, 0, none⟩) n n], .bool true]) (by simp [results, Try.results17, go_sem]) rfl ⟨some ⟨w.heap.size + 1 + 1, 0, none⟩, n, some ⟨w.heap.size + 1, 0, none⟩, n, fun b => b = w.heap.size + 1 + 1, fun b => b = w.heap.size + 1, by simp, ?_, ?_, fun b hb => by simp only [World.size_setCell, World.size_alloc, World.size_drew]; have h : b = _ := hb; omega, fun b hb => by simp only [World.size_setCell, World.size_alloc, World.size_drew]; have h : b = _ := hb; omega, fun b h1 h2 => by have e1 : b = _ := h1; have e2 : b = _ := h2; omega, ?_⟩
    · exact wr2c_nils rfl (fun k hk => (Cl.new (w := (w.alloc _).alloc _) (cs := cs) (t := 49) (by simp) (HM.out k hk)).1)
    · exact wr2_nils rfl (fun k hk => ((Cl.new (w := w.alloc _) (cs := cs) (t := 24) (by simp) (HM.out k hk)).alloc _).1)
    · (repeat' (first | (with_reducible exact Below.refl _ _) | (with_reducible refine bel_alloc ?_ ?_ _) | (with_reducible refine Below.setCell ?_ ?_ _) | (with_reducible refine below_drewN ?_ _) | (with_reducible refine Below.drew ?_) | (with_reducible exact Nat.le_refl _) | (with_reducible assumption) | omega | (simp only [World.size_alloc, World.size_setCell, World.size_drew]; omega) | (simp; omega) | (simp; done)))
end Go.Proofs.Ytggigndkamkclaa
