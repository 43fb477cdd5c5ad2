/- The walk of the exact law on QuarAdd. -/
import Derived.Test.YteafpfmndjeanaaQuarM
import Derived.Test.YteafpfmndjeanaaQuarQ
import Derived.Test.YteafpfmndjeanaaOpenH
import Derived.Test.YteafpfmndjeanaaL2
import Derived.Deep.RegionHeld3
import Derived.Deep.DrawnRows
import Derived.Deep.DeepCutAuto
namespace Go.Proofs.Yteafpfmndjeanaa
open Go.ChangeShapes Go.WideShapes Go.ChangeAt Go.RowKit
set_option linter.unusedVariables false
attribute [local go_sem ↓] Go.wp_at_zero Go.wp_at_succ

set_option maxHeartbeats 16000000 in
set_option maxRecDepth 100000 in
theorem law_quarAdd (A0 : Option Addr) (c0 : Nat) (r0 : Int) (x0 : List (Int × Int × Int)) (q10 : Int) (q11 : Int) (q12 : Int) (w : World) (hr00 : Rd w w.heap.size A0 (tv x0)) (hm00 : x0.length ≤ maxLen) (hm01 : ∀ x ∈ x0, I3 x) (hq10 : -9223372036854775808 ≤ q10 ∧ q10 ≤ 9223372036854775807) (hq11 : -9223372036854775808 ≤ q11 ∧ q11 ≤ 9223372036854775807) (hq12 : -9223372036854775808 ≤ q12 ∧ q12 ≤ 9223372036854775807) : Calls Try.prog 9 #[.agg #[.int .i64 r0, .slice A0 x0.length c0], .agg #[.int .i64 q10, .int .i64 q11, .int .i64 q12]] w fun e w' => e = .returned (.bool true) ∧ Below w.heap.size w w' := by
  obtain ⟨ys, zs, HS, HI, hy⟩ : ∃ (ys zs : List St), (∀ (A : Option Addr) (c : Nat) (W : World) {B : Nat}, Rd W B A (tv x0) → x0.length ≤ 1048576 → (x0.length ≤ c ∧ c ≤ maxLen) → Calls Try.prog 31 #[.agg #[.int .i64 r0, .slice A x0.length c], .agg #[.int .i64 q10, .int .i64 q11, .int .i64 q12]] W (MadeAdd r0 ys zs W)) ∧
      (∀ (A : Option Addr) (c : Nat) (W : World) {B : Nat}, Rd W B A (tv x0) → x0.length ≤ 1048576 → (x0.length ≤ c ∧ c ≤ maxLen) → Calls Try.prog 26 #[.agg #[.int .i64 r0, .slice A x0.length c], .agg #[.int .i64 q10, .int .i64 q11, .int .i64 q12]] W (MadeAdd r0 ys zs W)) ∧ (x0.length ≤ 1048576 → ys.length ≤ 1048576 ∧ zs.length ≤ 1048576) := by
    by_cases h : qOkB r0 x0 = true ∧ stOk x0 (q10, q11, q12) = true
    · obtain ⟨h1, h2⟩ := h
      refine ⟨_, _, fun A c W B hr hn hc => quarAdd_s_yes r0 A _ c x0 q10 q11 q12 W hr rfl hn hc h1 h2 (qOk_room h1) _ _ rfl rfl, fun A c W B hr hn hc => quarAdd_i_yes r0 A _ c x0 q10 q11 q12 W hr rfl hn hc h1 h2 (qOk_room h1) _ _ rfl rfl, fun hn => ⟨?_, ?_⟩⟩ <;> (have := qOk_len h1; simp; omega)
    · have h' : qOkB r0 x0 = false ∨ stOk x0 (q10, q11, q12) = false := by
        cases h1 : qOkB r0 x0 <;> cases h2 : stOk x0 (q10, q11, q12) <;> simp_all
      exact ⟨x0, [], fun A c W B hr hn hc => quarAdd_s_no r0 A _ c x0 q10 q11 q12 W hr rfl hn hc h', fun A c W B hr hn hc => quarAdd_i_no r0 A _ c x0 q10 q11 q12 W hr rfl hn hc h', fun hn => ⟨by omega, by simp⟩⟩
  replace HS := Lib.hid HS
  replace HI := Lib.hid HI
  replace hy := Lib.hid hy
  go_enter Try.func9, Try.ntmps9
  go_wp2_with fail
  refine (szQuar_any _ _ _ _ _ _ (by omega) (by omega) hm00).mono ?_
  rintro e m1 ⟨rz0, rfl, qz0, sz0, hb1⟩
  replace hr00 := ((hr00.alloc _).alloc _).below hb1
  have a00 : m1.cell? ⟨w.heap.size, 0, none⟩ = some (.int .i64 r0) := keep hb1 (by simp [go_sem])
  have a01 : m1.cell? ⟨w.heap.size, 1, none⟩ = some (.slice A0 x0.length c0) := keep hb1 (by simp [go_sem])
  have a10 : m1.cell? ⟨w.heap.size + 1, 0, none⟩ = some (.int .i64 q10) := keep hb1 (by simp [go_sem])
  have a11 : m1.cell? ⟨w.heap.size + 1, 1, none⟩ = some (.int .i64 q11) := keep hb1 (by simp [go_sem])
  have a12 : m1.cell? ⟨w.heap.size + 1, 2, none⟩ = some (.int .i64 q12) := keep hb1 (by simp [go_sem])
  have hz1 := hb1.size
  try simp only [World.size_alloc, World.size_drew] at hz1
  have la00 := lt_of_cell' a00
  have la10 := lt_of_cell' a10
  by_cases hneg0 : rz0 < 0
  · go_wp2
    go_ret
    exact ⟨rfl, by (repeat' (first | (with_reducible exact Below.refl _ _) | (with_reducible refine bel_alloc ?_ ?_ _) | (with_reducible refine Below.setCell ?_ ?_ _) | (with_reducible refine below_drewN ?_ _) | (with_reducible refine Below.drew ?_) | (with_reducible refine bel_step hb1 ?_ ?_) | (with_reducible exact Nat.le_refl _) | (with_reducible assumption) | omega | (simp only [World.size_alloc, World.size_setCell, World.size_drew]; omega) | (simp; omega) | (simp; done)))⟩
  have hn00 : x0.length ≤ 1048576 := by have := sz0 (by omega); first | exact this | omega | exact ⟨by omega, this.2⟩
  clear sz0 qz0
  have hyA := (hy.out hn00).1
  have hyB := (hy.out hn00).2
  go_wp2_with fail
  clear la00 la10
  go_cut [6, 7] (fun s0 s1 W => ∃ (gv tlo thi : Nat) (Aw0 : Option Addr) (cw0 : Nat) (Aw1 : Option Addr) (cw1 : Nat) (Tw00 : Nat → Prop) (Tw10 : Nat → Prop), s0 = .pointer (some ⟨gv, 0, none⟩) ∧ s1 = .slice Aw1 zs.length cw1 ∧ Below m1.heap.size m1 W ∧ W.cell? ⟨gv, 0, none⟩ = some (.int .i64 r0) ∧ W.cell? ⟨gv, 1, none⟩ = some (.slice Aw0 ys.length cw0) ∧ Wr W Tw00 Aw0 (tv ys) ∧ Wr W Tw10 Aw1 (tv zs) ∧ (∀ b, Tw00 b → tlo ≤ b ∧ b < thi) ∧ (∀ b, Tw10 b → tlo ≤ b ∧ b < thi) ∧ (∀ b, Tw00 b → ¬ Tw10 b) ∧ m1.heap.size ≤ gv ∧ gv < W.heap.size ∧ m1.heap.size ≤ tlo ∧ thi ≤ W.heap.size ∧ (gv < tlo ∨ thi ≤ gv))
  case first =>
    have X0 : (World.drew m1).cell? ⟨w.heap.size, 0, none⟩ = some (.int .i64 r0) := a00
    have X1 : (World.drew m1).cell? ⟨w.heap.size, 1, none⟩ = some (.slice A0 x0.length c0) := a01
    have X2 : (World.drew m1).cell? ⟨w.heap.size + 1, 0, none⟩ = some (.int .i64 q10) := a10
    have X3 : (World.drew m1).cell? ⟨w.heap.size + 1, 1, none⟩ = some (.int .i64 q11) := a11
    have X4 : (World.drew m1).cell? ⟨w.heap.size + 1, 2, none⟩ = some (.int .i64 q12) := a12
    have lX0 : w.heap.size < m1.heap.size := by
      have h := lt_of_cell' X0
      first | exact h | (simp only [World.size_alloc, World.size_drew] at h; omega)
    have lX2 : w.heap.size + 1 < m1.heap.size := by
      have h := lt_of_cell' X2
      first | exact h | (simp only [World.size_alloc, World.size_drew] at h; omega)
    have Z_hr00 := (hr00).drew
    go_region_held3 (fun w' => w'.cell? ⟨w.heap.size, 0, none⟩ = some (.int .i64 r0) ∧ w'.cell? ⟨w.heap.size, 1, none⟩ = some (.slice A0 x0.length c0) ∧ w'.cell? ⟨w.heap.size + 1, 0, none⟩ = some (.int .i64 q10) ∧ w'.cell? ⟨w.heap.size + 1, 1, none⟩ = some (.int .i64 q11) ∧ w'.cell? ⟨w.heap.size + 1, 2, none⟩ = some (.int .i64 q12))
      (first | (with_reducible exact ⟨X0_3, X1_3, X2_3, X3_3, X4_3⟩) | ((refine ⟨(set_other (set_other X0_3 ?_) ?_), (set_other (set_other X1_3 ?_) ?_), (set_other (set_other X2_3 ?_) ?_), (set_other (set_other X3_3 ?_) ?_), (set_other (set_other X4_3 ?_) ?_)⟩); all_goals omega) | (with_reducible exact ⟨X0_2, X1_2, X2_2, X3_2, X4_2⟩) | (with_reducible exact ⟨X0_1, X1_1, X2_1, X3_1, X4_1⟩) | (with_reducible exact ⟨cell_al X0_3 _, cell_al X1_3 _, cell_al X2_3 _, cell_al X3_3 _, cell_al X4_3 _⟩) | exact ⟨X0, X1, X2, X3, X4⟩ | ((refine ⟨(set_other (set_other (cell_al X0_3 _) ?_) ?_), (set_other (set_other (cell_al X1_3 _) ?_) ?_), (set_other (set_other (cell_al X2_3 _) ?_) ?_), (set_other (set_other (cell_al X3_3 _) ?_) ?_), (set_other (set_other (cell_al X4_3 _) ?_) ?_)⟩); all_goals omega) | (with_reducible exact ⟨cell_al X0_2 _, cell_al X1_2 _, cell_al X2_2 _, cell_al X3_2 _, cell_al X4_2 _⟩) | (with_reducible exact ⟨cell_al X0_1 _, cell_al X1_1 _, cell_al X2_1 _, cell_al X3_1 _, cell_al X4_1 _⟩) | exact ⟨cell_al X0 _, cell_al X1 _, cell_al X2 _, cell_al X3 _, cell_al X4 _⟩ | fail)
      (first | (go_at_call 17; refine (toQuar_w _ _ _ _ _ Z_hr00 hn00).mono ?_; rintro e d1 ⟨A0w, c0w, Sw00, rfl, kw00, ow00, hSw00, e1⟩; (first | (have X0_1 := keep e1 X0) | (have X0_1 := keep e1 (cell_al X0 _))); (first | (have X1_1 := keep e1 X1) | (have X1_1 := keep e1 (cell_al X1 _))); (first | (have X2_1 := keep e1 X2) | (have X2_1 := keep e1 (cell_al X2 _))); (first | (have X3_1 := keep e1 X3) | (have X3_1 := keep e1 (cell_al X3 _))); (first | (have X4_1 := keep e1 X4) | (have X4_1 := keep e1 (cell_al X4 _))); (first | (replace Z_hr00 := (Z_hr00).below e1) | (replace Z_hr00 := ((Z_hr00).alloc _).below e1)); (try (have V0_0 : Cl d1 ⟨m1.heap.size, 0, none⟩ (.int .i64 0) := Cl.below (Cl.new (w := (World.drew m1)) (cs := #[.int .i64 0, .slice none 0 0]) (t := 24) (by first | rfl | simp) (by rfl)) e1; have V0_0c := V0_0.1; have V0_0f := V0_0.2; have V0_1 : Cl d1 ⟨m1.heap.size, 1, none⟩ (.slice none 0 0) := Cl.below (Cl.new (w := (World.drew m1)) (cs := #[.int .i64 0, .slice none 0 0]) (t := 24) (by first | rfl | simp) (by rfl)) e1; have V0_1c := V0_1.1; have V0_1f := V0_1.2)); have y1 := e1.size; (try simp only [World.size_alloc, World.size_drew] at y1)) | (go_at_call 17; refine (toQuar_w _ _ _ _ _ (Z_hr00.alloc _) hn00).mono ?_; rintro e d1 ⟨A0w, c0w, Sw00, rfl, kw00, ow00, hSw00, e1⟩; (first | (have X0_1 := keep e1 X0) | (have X0_1 := keep e1 (cell_al X0 _))); (first | (have X1_1 := keep e1 X1) | (have X1_1 := keep e1 (cell_al X1 _))); (first | (have X2_1 := keep e1 X2) | (have X2_1 := keep e1 (cell_al X2 _))); (first | (have X3_1 := keep e1 X3) | (have X3_1 := keep e1 (cell_al X3 _))); (first | (have X4_1 := keep e1 X4) | (have X4_1 := keep e1 (cell_al X4 _))); (first | (replace Z_hr00 := (Z_hr00).below e1) | (replace Z_hr00 := ((Z_hr00).alloc _).below e1)); (try (have V0_0 : Cl d1 ⟨m1.heap.size, 0, none⟩ (.int .i64 0) := Cl.below (Cl.new (w := (World.drew m1)) (cs := #[.int .i64 0, .slice none 0 0]) (t := 24) (by first | rfl | simp) (by rfl)) e1; have V0_0c := V0_0.1; have V0_0f := V0_0.2; have V0_1 : Cl d1 ⟨m1.heap.size, 1, none⟩ (.slice none 0 0) := Cl.below (Cl.new (w := (World.drew m1)) (cs := #[.int .i64 0, .slice none 0 0]) (t := 24) (by first | rfl | simp) (by rfl)) e1; have V0_1c := V0_1.1; have V0_1f := V0_1.2)); have y1 := e1.size; (try simp only [World.size_alloc, World.size_drew] at y1)) | (go_at_call 32; refine (toStale_any _ _ _ _).mono ?_; rintro e d2 ⟨rfl, e2⟩; (first | (have X0_2 := keep e2 X0_1) | (have X0_2 := keep e2 (cell_al X0_1 _))); (first | (have X1_2 := keep e2 X1_1) | (have X1_2 := keep e2 (cell_al X1_1 _))); (first | (have X2_2 := keep e2 X2_1) | (have X2_2 := keep e2 (cell_al X2_1 _))); (first | (have X3_2 := keep e2 X3_1) | (have X3_2 := keep e2 (cell_al X3_1 _))); (first | (have X4_2 := keep e2 X4_1) | (have X4_2 := keep e2 (cell_al X4_1 _))); (first | (replace Z_hr00 := (Z_hr00).below e2) | (replace Z_hr00 := ((Z_hr00).alloc _).below e2)); (first | (replace ow00 := (ow00).below e2) | (replace ow00 := ((ow00).alloc _).below e2)); (try (replace V0_0 := Cl.below V0_0 e2; have V0_0c := V0_0.1; have V0_0f := V0_0.2; replace V0_1 := Cl.below V0_1 e2; have V0_1c := V0_1.1; have V0_1f := V0_1.2)); (try (have V1_0 : Cl d2 ⟨d1.heap.size, 0, none⟩ (.int .i64 0) := Cl.below (Cl.new (w := d1) (cs := #[.int .i64 0, .slice none 0 0]) (t := 24) (by first | rfl | simp) (by rfl)) e2; have V1_0c := V1_0.1; have V1_0f := V1_0.2; have V1_1 : Cl d2 ⟨d1.heap.size, 1, none⟩ (.slice none 0 0) := Cl.below (Cl.new (w := d1) (cs := #[.int .i64 0, .slice none 0 0]) (t := 24) (by first | rfl | simp) (by rfl)) e2; have V1_1c := V1_1.1; have V1_1f := V1_1.2)); have y2 := e2.size; (try simp only [World.size_alloc, World.size_drew] at y2)) | (go_at_call 32; refine (toStale_any _ _ _ _).mono ?_; rintro e d2 ⟨rfl, e2⟩; (first | (have X0_2 := keep e2 X0_1) | (have X0_2 := keep e2 (cell_al X0_1 _))); (first | (have X1_2 := keep e2 X1_1) | (have X1_2 := keep e2 (cell_al X1_1 _))); (first | (have X2_2 := keep e2 X2_1) | (have X2_2 := keep e2 (cell_al X2_1 _))); (first | (have X3_2 := keep e2 X3_1) | (have X3_2 := keep e2 (cell_al X3_1 _))); (first | (have X4_2 := keep e2 X4_1) | (have X4_2 := keep e2 (cell_al X4_1 _))); (first | (replace Z_hr00 := (Z_hr00).below e2) | (replace Z_hr00 := ((Z_hr00).alloc _).below e2)); (first | (replace ow00 := (ow00).below e2) | (replace ow00 := ((ow00).alloc _).below e2)); (try (replace V0_0 := Cl.below V0_0 e2; have V0_0c := V0_0.1; have V0_0f := V0_0.2; replace V0_1 := Cl.below V0_1 e2; have V0_1c := V0_1.1; have V0_1f := V0_1.2)); (try (have V1_0 : Cl d2 ⟨d1.heap.size, 0, none⟩ (.int .i64 0) := Cl.below (Cl.new (w := d1) (cs := #[.int .i64 0, .slice none 0 0]) (t := 24) (by first | rfl | simp) (by rfl)) e2; have V1_0c := V1_0.1; have V1_0f := V1_0.2; have V1_1 : Cl d2 ⟨d1.heap.size, 1, none⟩ (.slice none 0 0) := Cl.below (Cl.new (w := d1) (cs := #[.int .i64 0, .slice none 0 0]) (t := 24) (by first | rfl | simp) (by rfl)) e2; have V1_1c := V1_1.1; have V1_1f := V1_1.2)); have y2 := e2.size; (try simp only [World.size_alloc, World.size_drew] at y2)) | (go_at_call 31; refine (HS.out _ _ _ ow00.rd hn00 kw00).mono ?_; rintro e d3 ⟨Aw0, cw0, Aw1, cw1, Tw00, Tw10, rfl, rw00, rw10, hTw00, hTw10, Dw01, e3⟩; (first | (have X0_3 := keep e3 X0_2) | (have X0_3 := keep e3 (cell_al X0_2 _))); (first | (have X1_3 := keep e3 X1_2) | (have X1_3 := keep e3 (cell_al X1_2 _))); (first | (have X2_3 := keep e3 X2_2) | (have X2_3 := keep e3 (cell_al X2_2 _))); (first | (have X3_3 := keep e3 X3_2) | (have X3_3 := keep e3 (cell_al X3_2 _))); (first | (have X4_3 := keep e3 X4_2) | (have X4_3 := keep e3 (cell_al X4_2 _))); (try (replace V0_0 := Cl.below V0_0 e3; have V0_0c := V0_0.1; have V0_0f := V0_0.2; replace V0_1 := Cl.below V0_1 e3; have V0_1c := V0_1.1; have V0_1f := V0_1.2)); (try (replace V1_0 := Cl.below V1_0 e3; have V1_0c := V1_0.1; have V1_0f := V1_0.2; replace V1_1 := Cl.below V1_1 e3; have V1_1c := V1_1.1; have V1_1f := V1_1.2)); (try (have V2_0 : Cl d3 ⟨d2.heap.size, 0, none⟩ (.int .i64 0) := Cl.below (Cl.new (w := d2) (cs := #[.int .i64 0, .slice none 0 0]) (t := 24) (by first | rfl | simp) (by rfl)) e3; have V2_0c := V2_0.1; have V2_0f := V2_0.2; have V2_1 : Cl d3 ⟨d2.heap.size, 1, none⟩ (.slice none 0 0) := Cl.below (Cl.new (w := d2) (cs := #[.int .i64 0, .slice none 0 0]) (t := 24) (by first | rfl | simp) (by rfl)) e3; have V2_1c := V2_1.1; have V2_1f := V2_1.2)); have y3 := e3.size; (try simp only [World.size_alloc, World.size_drew] at y3)) | (go_at_call 31; refine (HS.out _ _ _ (ow00.alloc _).rd hn00 kw00).mono ?_; rintro e d3 ⟨Aw0, cw0, Aw1, cw1, Tw00, Tw10, rfl, rw00, rw10, hTw00, hTw10, Dw01, e3⟩; (first | (have X0_3 := keep e3 X0_2) | (have X0_3 := keep e3 (cell_al X0_2 _))); (first | (have X1_3 := keep e3 X1_2) | (have X1_3 := keep e3 (cell_al X1_2 _))); (first | (have X2_3 := keep e3 X2_2) | (have X2_3 := keep e3 (cell_al X2_2 _))); (first | (have X3_3 := keep e3 X3_2) | (have X3_3 := keep e3 (cell_al X3_2 _))); (first | (have X4_3 := keep e3 X4_2) | (have X4_3 := keep e3 (cell_al X4_2 _))); (try (replace V0_0 := Cl.below V0_0 e3; have V0_0c := V0_0.1; have V0_0f := V0_0.2; replace V0_1 := Cl.below V0_1 e3; have V0_1c := V0_1.1; have V0_1f := V0_1.2)); (try (replace V1_0 := Cl.below V1_0 e3; have V1_0c := V1_0.1; have V1_0f := V1_0.2; replace V1_1 := Cl.below V1_1 e3; have V1_1c := V1_1.1; have V1_1f := V1_1.2)); (try (have V2_0 : Cl d3 ⟨d2.heap.size, 0, none⟩ (.int .i64 0) := Cl.below (Cl.new (w := d2) (cs := #[.int .i64 0, .slice none 0 0]) (t := 24) (by first | rfl | simp) (by rfl)) e3; have V2_0c := V2_0.1; have V2_0f := V2_0.2; have V2_1 : Cl d3 ⟨d2.heap.size, 1, none⟩ (.slice none 0 0) := Cl.below (Cl.new (w := d2) (cs := #[.int .i64 0, .slice none 0 0]) (t := 24) (by first | rfl | simp) (by rfl)) e3; have V2_1c := V2_1.1; have V2_1f := V2_1.2)); have y3 := e3.size; (try simp only [World.size_alloc, World.size_drew] at y3)) | fail)
    all_goals
      go_wp2_with fail
      go_meet
      case rel =>
        first
          | (refine ⟨m1.heap.size, d2.heap.size, d3.heap.size, Aw0, cw0, Aw1, cw1, Tw00, Tw10, rfl, rfl, ?_, ?_, ?_, ?_, ?_, ?_, ?_, Dw01, ?_, ?_, ?_, ?_, ?_⟩; (· ((repeat' (first | (with_reducible exact Below.refl _ _) | (with_reducible refine bel_alloc ?_ ?_ _) | (with_reducible refine Below.setCell ?_ ?_ _) | (with_reducible refine below_drewN ?_ _) | (with_reducible refine Below.drew ?_) | (with_reducible refine bel_step e1 ?_ ?_) | (with_reducible refine bel_step e2 ?_ ?_) | (with_reducible refine bel_step e3 ?_ ?_) | (with_reducible exact Nat.le_refl _) | (with_reducible assumption) | omega | (simp only [World.size_alloc, World.size_setCell, World.size_drew]; omega) | (simp; omega) | (simp; done))))); (· (first | exact ((V0_0.same (.int .i64 r0)).other (q := ⟨m1.heap.size, 1, none⟩) (.slice Aw0 ys.length cw0) (by simp)).1 | (simp [go_sem] <;> done))); (· (first | exact ((V0_1.other (q := ⟨m1.heap.size, 0, none⟩) (.int .i64 r0) (by simp)).same (.slice Aw0 ys.length cw0)).1 | (simp [go_sem] <;> done))); (· (repeat' (first | (with_reducible exact rw00) | (with_reducible refine Wr2.alloc ?_ _) | (with_reducible refine Wr.alloc ?_ _) | (with_reducible refine Wr2.setOut ?_ _ ?_) | (with_reducible refine Wr.setOut ?_ _ ?_) | (intro hq; first | (have := hTw00 _ hq; simp only [World.size_alloc, World.size_drew] at this; omega) | (have := hTw00 _ hq; omega) | (have := hTw10 _ hq; simp only [World.size_alloc, World.size_drew] at this; omega) | (have := hTw10 _ hq; omega))))); (· (repeat' (first | (with_reducible exact rw10) | (with_reducible refine Wr2.alloc ?_ _) | (with_reducible refine Wr.alloc ?_ _) | (with_reducible refine Wr2.setOut ?_ _ ?_) | (with_reducible refine Wr.setOut ?_ _ ?_) | (intro hq; first | (have := hTw00 _ hq; simp only [World.size_alloc, World.size_drew] at this; omega) | (have := hTw00 _ hq; omega) | (have := hTw10 _ hq; simp only [World.size_alloc, World.size_drew] at this; omega) | (have := hTw10 _ hq; omega))))); (· (intro b hb; have := hTw00 b hb; (try simp only [World.size_alloc, World.size_drew] at this); omega)); (· (intro b hb; have := hTw10 b hb; (try simp only [World.size_alloc, World.size_drew] at this); omega)); (· (first | omega | (simp <;> omega))); (· (first | omega | (simp <;> omega))); (· (first | omega | (simp <;> omega))); (· (first | omega | (simp <;> omega))); (· (first | omega | (simp <;> omega))))
          | (refine ⟨d1.heap.size, d2.heap.size, d3.heap.size, Aw0, cw0, Aw1, cw1, Tw00, Tw10, rfl, rfl, ?_, ?_, ?_, ?_, ?_, ?_, ?_, Dw01, ?_, ?_, ?_, ?_, ?_⟩; (· ((repeat' (first | (with_reducible exact Below.refl _ _) | (with_reducible refine bel_alloc ?_ ?_ _) | (with_reducible refine Below.setCell ?_ ?_ _) | (with_reducible refine below_drewN ?_ _) | (with_reducible refine Below.drew ?_) | (with_reducible refine bel_step e1 ?_ ?_) | (with_reducible refine bel_step e2 ?_ ?_) | (with_reducible refine bel_step e3 ?_ ?_) | (with_reducible exact Nat.le_refl _) | (with_reducible assumption) | omega | (simp only [World.size_alloc, World.size_setCell, World.size_drew]; omega) | (simp; omega) | (simp; done))))); (· (first | exact ((V1_0.same (.int .i64 r0)).other (q := ⟨d1.heap.size, 1, none⟩) (.slice Aw0 ys.length cw0) (by simp)).1 | (simp [go_sem] <;> done))); (· (first | exact ((V1_1.other (q := ⟨d1.heap.size, 0, none⟩) (.int .i64 r0) (by simp)).same (.slice Aw0 ys.length cw0)).1 | (simp [go_sem] <;> done))); (· (repeat' (first | (with_reducible exact rw00) | (with_reducible refine Wr2.alloc ?_ _) | (with_reducible refine Wr.alloc ?_ _) | (with_reducible refine Wr2.setOut ?_ _ ?_) | (with_reducible refine Wr.setOut ?_ _ ?_) | (intro hq; first | (have := hTw00 _ hq; simp only [World.size_alloc, World.size_drew] at this; omega) | (have := hTw00 _ hq; omega) | (have := hTw10 _ hq; simp only [World.size_alloc, World.size_drew] at this; omega) | (have := hTw10 _ hq; omega))))); (· (repeat' (first | (with_reducible exact rw10) | (with_reducible refine Wr2.alloc ?_ _) | (with_reducible refine Wr.alloc ?_ _) | (with_reducible refine Wr2.setOut ?_ _ ?_) | (with_reducible refine Wr.setOut ?_ _ ?_) | (intro hq; first | (have := hTw00 _ hq; simp only [World.size_alloc, World.size_drew] at this; omega) | (have := hTw00 _ hq; omega) | (have := hTw10 _ hq; simp only [World.size_alloc, World.size_drew] at this; omega) | (have := hTw10 _ hq; omega))))); (· (intro b hb; have := hTw00 b hb; (try simp only [World.size_alloc, World.size_drew] at this); omega)); (· (intro b hb; have := hTw10 b hb; (try simp only [World.size_alloc, World.size_drew] at this); omega)); (· (first | omega | (simp <;> omega))); (· (first | omega | (simp <;> omega))); (· (first | omega | (simp <;> omega))); (· (first | omega | (simp <;> omega))); (· (first | omega | (simp <;> omega))))
          | (refine ⟨d2.heap.size, d2.heap.size + 1, d3.heap.size, Aw0, cw0, Aw1, cw1, Tw00, Tw10, rfl, rfl, ?_, ?_, ?_, ?_, ?_, ?_, ?_, Dw01, ?_, ?_, ?_, ?_, ?_⟩; (· ((repeat' (first | (with_reducible exact Below.refl _ _) | (with_reducible refine bel_alloc ?_ ?_ _) | (with_reducible refine Below.setCell ?_ ?_ _) | (with_reducible refine below_drewN ?_ _) | (with_reducible refine Below.drew ?_) | (with_reducible refine bel_step e1 ?_ ?_) | (with_reducible refine bel_step e2 ?_ ?_) | (with_reducible refine bel_step e3 ?_ ?_) | (with_reducible exact Nat.le_refl _) | (with_reducible assumption) | omega | (simp only [World.size_alloc, World.size_setCell, World.size_drew]; omega) | (simp; omega) | (simp; done))))); (· (first | exact ((V2_0.same (.int .i64 r0)).other (q := ⟨d2.heap.size, 1, none⟩) (.slice Aw0 ys.length cw0) (by simp)).1 | (simp [go_sem] <;> done))); (· (first | exact ((V2_1.other (q := ⟨d2.heap.size, 0, none⟩) (.int .i64 r0) (by simp)).same (.slice Aw0 ys.length cw0)).1 | (simp [go_sem] <;> done))); (· (repeat' (first | (with_reducible exact rw00) | (with_reducible refine Wr2.alloc ?_ _) | (with_reducible refine Wr.alloc ?_ _) | (with_reducible refine Wr2.setOut ?_ _ ?_) | (with_reducible refine Wr.setOut ?_ _ ?_) | (intro hq; first | (have := hTw00 _ hq; simp only [World.size_alloc, World.size_drew] at this; omega) | (have := hTw00 _ hq; omega) | (have := hTw10 _ hq; simp only [World.size_alloc, World.size_drew] at this; omega) | (have := hTw10 _ hq; omega))))); (· (repeat' (first | (with_reducible exact rw10) | (with_reducible refine Wr2.alloc ?_ _) | (with_reducible refine Wr.alloc ?_ _) | (with_reducible refine Wr2.setOut ?_ _ ?_) | (with_reducible refine Wr.setOut ?_ _ ?_) | (intro hq; first | (have := hTw00 _ hq; simp only [World.size_alloc, World.size_drew] at this; omega) | (have := hTw00 _ hq; omega) | (have := hTw10 _ hq; simp only [World.size_alloc, World.size_drew] at this; omega) | (have := hTw10 _ hq; omega))))); (· (intro b hb; have := hTw00 b hb; (try simp only [World.size_alloc, World.size_drew] at this); omega)); (· (intro b hb; have := hTw10 b hb; (try simp only [World.size_alloc, World.size_drew] at this); omega)); (· (first | omega | (simp <;> omega))); (· (first | omega | (simp <;> omega))); (· (first | omega | (simp <;> omega))); (· (first | omega | (simp <;> omega))); (· (first | omega | (simp <;> omega))))
          | (refine ⟨d3.heap.size, d2.heap.size, d3.heap.size, Aw0, cw0, Aw1, cw1, Tw00, Tw10, rfl, rfl, ?_, ?_, ?_, ?_, ?_, ?_, ?_, Dw01, ?_, ?_, ?_, ?_, ?_⟩; (· ((repeat' (first | (with_reducible exact Below.refl _ _) | (with_reducible refine bel_alloc ?_ ?_ _) | (with_reducible refine Below.setCell ?_ ?_ _) | (with_reducible refine below_drewN ?_ _) | (with_reducible refine Below.drew ?_) | (with_reducible refine bel_step e1 ?_ ?_) | (with_reducible refine bel_step e2 ?_ ?_) | (with_reducible refine bel_step e3 ?_ ?_) | (with_reducible exact Nat.le_refl _) | (with_reducible assumption) | omega | (simp only [World.size_alloc, World.size_setCell, World.size_drew]; omega) | (simp; omega) | (simp; done))))); (· (first | exact by simp [go_sem] | (simp [go_sem] <;> done))); (· (first | exact by simp [go_sem] | (simp [go_sem] <;> done))); (· (repeat' (first | (with_reducible exact rw00) | (with_reducible refine Wr2.alloc ?_ _) | (with_reducible refine Wr.alloc ?_ _) | (with_reducible refine Wr2.setOut ?_ _ ?_) | (with_reducible refine Wr.setOut ?_ _ ?_) | (intro hq; first | (have := hTw00 _ hq; simp only [World.size_alloc, World.size_drew] at this; omega) | (have := hTw00 _ hq; omega) | (have := hTw10 _ hq; simp only [World.size_alloc, World.size_drew] at this; omega) | (have := hTw10 _ hq; omega))))); (· (repeat' (first | (with_reducible exact rw10) | (with_reducible refine Wr2.alloc ?_ _) | (with_reducible refine Wr.alloc ?_ _) | (with_reducible refine Wr2.setOut ?_ _ ?_) | (with_reducible refine Wr.setOut ?_ _ ?_) | (intro hq; first | (have := hTw00 _ hq; simp only [World.size_alloc, World.size_drew] at this; omega) | (have := hTw00 _ hq; omega) | (have := hTw10 _ hq; simp only [World.size_alloc, World.size_drew] at this; omega) | (have := hTw10 _ hq; omega))))); (· (intro b hb; have := hTw00 b hb; (try simp only [World.size_alloc, World.size_drew] at this); omega)); (· (intro b hb; have := hTw10 b hb; (try simp only [World.size_alloc, World.size_drew] at this); omega)); (· (first | omega | (simp <;> omega))); (· (first | omega | (simp <;> omega))); (· (first | omega | (simp <;> omega))); (· (first | omega | (simp <;> omega))); (· (first | omega | (simp <;> omega))))
  case rest =>
    obtain ⟨gvw, tlow, thiw, Aw0, cw0, Aw1, cw1, Tw00, Tw10, hs0, hs1, hbcw, bw00, bw01, rw00, rw10, hTw00, hTw10, Dw01, hgv1w, hgv2w, htlw, hthw, hgtw⟩ := hcut
    obtain ⟨m2, hwc⟩ : ∃ x, x = wc := ⟨_, rfl⟩
    subst hwc
    subst hs0 hs1
    replace hr00 := hr00.below hbcw
    replace a00 := keep hbcw a00
    replace a01 := keep hbcw a01
    replace a10 := keep hbcw a10
    replace a11 := keep hbcw a11
    replace a12 := keep hbcw a12
    have hz2 := hbcw.size
    try simp only [World.size_alloc, World.size_drew] at hz2
    have la00 := lt_of_cell' a00
    have la10 := lt_of_cell' a10
    have lbw00 := lt_of_cell' bw00
    go_wp2_with fail
    refine (toQuar_w _ _ _ _ _ hr00 hn00).mono ?_
    rintro e m3 ⟨A0x, c0x, Sx00, rfl, kx00, ox00, hSx00, hb3⟩
    clear la00 la10 lbw00
    replace hr00 := hr00.below hb3
    replace a00 := keep hb3 a00
    replace a01 := keep hb3 a01
    replace a10 := keep hb3 a10
    replace a11 := keep hb3 a11
    replace a12 := keep hb3 a12
    replace bw00 := keep hb3 bw00
    replace bw01 := keep hb3 bw01
    replace rw00 := rw00.below hb3
    replace rw10 := rw10.below hb3
    have hz3 := hb3.size
    try simp only [World.size_alloc, World.size_drew] at hz3
    replace hSx00 : ∀ b, Sx00 b → m2.heap.size + 0 ≤ b ∧ b < m3.heap.size := fun b hb => by have := hSx00 b hb; (try simp only [World.size_alloc, World.size_drew] at this); omega
    have la00 := lt_of_cell' a00
    have la10 := lt_of_cell' a10
    have lbw00 := lt_of_cell' bw00
    go_wp2_with fail
    clear la00 la10 lbw00
    go_cut [9, 10] (fun s0 s1 W => ∃ (gv tlo thi : Nat) (Ag0 : Option Addr) (cg0 : Nat) (Ag1 : Option Addr) (cg1 : Nat) (Tg00 : Nat → Prop) (Tg10 : Nat → Prop), s0 = .pointer (some ⟨gv, 0, none⟩) ∧ s1 = .slice Ag1 zs.length cg1 ∧ Below m3.heap.size m3 W ∧ W.cell? ⟨gv, 0, none⟩ = some (.int .i64 r0) ∧ W.cell? ⟨gv, 1, none⟩ = some (.slice Ag0 ys.length cg0) ∧ W.cell? ⟨m3.heap.size, 0, none⟩ = some (.int .i64 r0) ∧ W.cell? ⟨m3.heap.size, 1, none⟩ = some (.slice A0x x0.length c0x) ∧ Wr W Tg00 Ag0 (tv ys) ∧ Wr W Tg10 Ag1 (tv zs) ∧ (∀ b, Tg00 b → tlo ≤ b ∧ b < thi) ∧ (∀ b, Tg10 b → tlo ≤ b ∧ b < thi) ∧ (∀ b, Tg00 b → ¬ Tg10 b) ∧ m3.heap.size + 1 ≤ gv ∧ gv < W.heap.size ∧ m3.heap.size + 1 ≤ tlo ∧ thi ≤ W.heap.size ∧ (gv < tlo ∨ thi ≤ gv))
    case first =>
      have X0 : (World.drew (m3.alloc (.cells #[.int .i64 r0, .slice A0x x0.length c0x] 24))).cell? ⟨w.heap.size + 1, 0, none⟩ = some (.int .i64 q10) := (cell_al a10 _)
      have X1 : (World.drew (m3.alloc (.cells #[.int .i64 r0, .slice A0x x0.length c0x] 24))).cell? ⟨w.heap.size + 1, 1, none⟩ = some (.int .i64 q11) := (cell_al a11 _)
      have X2 : (World.drew (m3.alloc (.cells #[.int .i64 r0, .slice A0x x0.length c0x] 24))).cell? ⟨w.heap.size + 1, 2, none⟩ = some (.int .i64 q12) := (cell_al a12 _)
      have X3 : (World.drew (m3.alloc (.cells #[.int .i64 r0, .slice A0x x0.length c0x] 24))).cell? ⟨m3.heap.size, 0, none⟩ = some (.int .i64 r0) := by simp [go_sem]
      have X4 : (World.drew (m3.alloc (.cells #[.int .i64 r0, .slice A0x x0.length c0x] 24))).cell? ⟨m3.heap.size, 1, none⟩ = some (.slice A0x x0.length c0x) := by simp [go_sem]
      have lX0 : w.heap.size + 1 < m3.heap.size + 1 := by
        have h := lt_of_cell' X0
        first | exact h | (simp only [World.size_alloc, World.size_drew] at h; omega)
      have lX3 : m3.heap.size < m3.heap.size + 1 := by
        have h := lt_of_cell' X3
        first | exact h | (simp only [World.size_alloc, World.size_drew] at h; omega)
      have Z_ox00 := ((ox00.alloc (.cells #[.int .i64 r0, .slice A0x x0.length c0x] 24))).drew
      go_region_held3 (fun w' => w'.cell? ⟨w.heap.size + 1, 0, none⟩ = some (.int .i64 q10) ∧ w'.cell? ⟨w.heap.size + 1, 1, none⟩ = some (.int .i64 q11) ∧ w'.cell? ⟨w.heap.size + 1, 2, none⟩ = some (.int .i64 q12) ∧ w'.cell? ⟨m3.heap.size, 0, none⟩ = some (.int .i64 r0) ∧ w'.cell? ⟨m3.heap.size, 1, none⟩ = some (.slice A0x x0.length c0x))
        (first | (with_reducible exact ⟨X0_2, X1_2, X2_2, X3_2, X4_2⟩) | ((refine ⟨(set_other (set_other X0_2 ?_) ?_), (set_other (set_other X1_2 ?_) ?_), (set_other (set_other X2_2 ?_) ?_), (set_other (set_other X3_2 ?_) ?_), (set_other (set_other X4_2 ?_) ?_)⟩); all_goals omega) | (with_reducible exact ⟨X0_1, X1_1, X2_1, X3_1, X4_1⟩) | (with_reducible exact ⟨cell_al X0_2 _, cell_al X1_2 _, cell_al X2_2 _, cell_al X3_2 _, cell_al X4_2 _⟩) | exact ⟨X0, X1, X2, X3, X4⟩ | ((refine ⟨(set_other (set_other (cell_al X0_2 _) ?_) ?_), (set_other (set_other (cell_al X1_2 _) ?_) ?_), (set_other (set_other (cell_al X2_2 _) ?_) ?_), (set_other (set_other (cell_al X3_2 _) ?_) ?_), (set_other (set_other (cell_al X4_2 _) ?_) ?_)⟩); all_goals omega) | (with_reducible exact ⟨cell_al X0_1 _, cell_al X1_1 _, cell_al X2_1 _, cell_al X3_1 _, cell_al X4_1 _⟩) | exact ⟨cell_al X0 _, cell_al X1 _, cell_al X2 _, cell_al X3 _, cell_al X4 _⟩ | fail)
        (first | (go_at_call 32; refine (toStale_any _ _ _ _).mono ?_; rintro e d1 ⟨rfl, e1⟩; (first | (have X0_1 := keep e1 X0) | (have X0_1 := keep e1 (cell_al X0 _))); (first | (have X1_1 := keep e1 X1) | (have X1_1 := keep e1 (cell_al X1 _))); (first | (have X2_1 := keep e1 X2) | (have X2_1 := keep e1 (cell_al X2 _))); (first | (have X3_1 := keep e1 X3) | (have X3_1 := keep e1 (cell_al X3 _))); (first | (have X4_1 := keep e1 X4) | (have X4_1 := keep e1 (cell_al X4 _))); (first | (replace Z_ox00 := (Z_ox00).below e1) | (replace Z_ox00 := ((Z_ox00).alloc _).below e1)); (try (have V0_0 : Cl d1 ⟨m3.heap.size + 1, 0, none⟩ (.int .i64 0) := Cl.below (Cl.new (w := (World.drew (m3.alloc (.cells #[.int .i64 r0, .slice A0x x0.length c0x] 24)))) (cs := #[.int .i64 0, .slice none 0 0]) (t := 24) (by first | rfl | simp) (by rfl)) e1; have V0_0c := V0_0.1; have V0_0f := V0_0.2; have V0_1 : Cl d1 ⟨m3.heap.size + 1, 1, none⟩ (.slice none 0 0) := Cl.below (Cl.new (w := (World.drew (m3.alloc (.cells #[.int .i64 r0, .slice A0x x0.length c0x] 24)))) (cs := #[.int .i64 0, .slice none 0 0]) (t := 24) (by first | rfl | simp) (by rfl)) e1; have V0_1c := V0_1.1; have V0_1f := V0_1.2)); have y1 := e1.size; (try simp only [World.size_alloc, World.size_drew] at y1)) | (go_at_call 32; refine (toStale_any _ _ _ _).mono ?_; rintro e d1 ⟨rfl, e1⟩; (first | (have X0_1 := keep e1 X0) | (have X0_1 := keep e1 (cell_al X0 _))); (first | (have X1_1 := keep e1 X1) | (have X1_1 := keep e1 (cell_al X1 _))); (first | (have X2_1 := keep e1 X2) | (have X2_1 := keep e1 (cell_al X2 _))); (first | (have X3_1 := keep e1 X3) | (have X3_1 := keep e1 (cell_al X3 _))); (first | (have X4_1 := keep e1 X4) | (have X4_1 := keep e1 (cell_al X4 _))); (first | (replace Z_ox00 := (Z_ox00).below e1) | (replace Z_ox00 := ((Z_ox00).alloc _).below e1)); (try (have V0_0 : Cl d1 ⟨m3.heap.size + 1, 0, none⟩ (.int .i64 0) := Cl.below (Cl.new (w := (World.drew (m3.alloc (.cells #[.int .i64 r0, .slice A0x x0.length c0x] 24)))) (cs := #[.int .i64 0, .slice none 0 0]) (t := 24) (by first | rfl | simp) (by rfl)) e1; have V0_0c := V0_0.1; have V0_0f := V0_0.2; have V0_1 : Cl d1 ⟨m3.heap.size + 1, 1, none⟩ (.slice none 0 0) := Cl.below (Cl.new (w := (World.drew (m3.alloc (.cells #[.int .i64 r0, .slice A0x x0.length c0x] 24)))) (cs := #[.int .i64 0, .slice none 0 0]) (t := 24) (by first | rfl | simp) (by rfl)) e1; have V0_1c := V0_1.1; have V0_1f := V0_1.2)); have y1 := e1.size; (try simp only [World.size_alloc, World.size_drew] at y1)) | (go_at_call 26; refine (HI.out _ _ _ Z_ox00.rd hn00 kx00).mono ?_; rintro e d2 ⟨Ag0, cg0, Ag1, cg1, Tg00, Tg10, rfl, rg00, rg10, hTg00, hTg10, Dg01, e2⟩; (first | (have X0_2 := keep e2 X0_1) | (have X0_2 := keep e2 (cell_al X0_1 _))); (first | (have X1_2 := keep e2 X1_1) | (have X1_2 := keep e2 (cell_al X1_1 _))); (first | (have X2_2 := keep e2 X2_1) | (have X2_2 := keep e2 (cell_al X2_1 _))); (first | (have X3_2 := keep e2 X3_1) | (have X3_2 := keep e2 (cell_al X3_1 _))); (first | (have X4_2 := keep e2 X4_1) | (have X4_2 := keep e2 (cell_al X4_1 _))); (try (replace V0_0 := Cl.below V0_0 e2; have V0_0c := V0_0.1; have V0_0f := V0_0.2; replace V0_1 := Cl.below V0_1 e2; have V0_1c := V0_1.1; have V0_1f := V0_1.2)); (try (have V1_0 : Cl d2 ⟨d1.heap.size, 0, none⟩ (.int .i64 0) := Cl.below (Cl.new (w := d1) (cs := #[.int .i64 0, .slice none 0 0]) (t := 24) (by first | rfl | simp) (by rfl)) e2; have V1_0c := V1_0.1; have V1_0f := V1_0.2; have V1_1 : Cl d2 ⟨d1.heap.size, 1, none⟩ (.slice none 0 0) := Cl.below (Cl.new (w := d1) (cs := #[.int .i64 0, .slice none 0 0]) (t := 24) (by first | rfl | simp) (by rfl)) e2; have V1_1c := V1_1.1; have V1_1f := V1_1.2)); have y2 := e2.size; (try simp only [World.size_alloc, World.size_drew] at y2)) | (go_at_call 26; refine (HI.out _ _ _ (Z_ox00.alloc _).rd hn00 kx00).mono ?_; rintro e d2 ⟨Ag0, cg0, Ag1, cg1, Tg00, Tg10, rfl, rg00, rg10, hTg00, hTg10, Dg01, e2⟩; (first | (have X0_2 := keep e2 X0_1) | (have X0_2 := keep e2 (cell_al X0_1 _))); (first | (have X1_2 := keep e2 X1_1) | (have X1_2 := keep e2 (cell_al X1_1 _))); (first | (have X2_2 := keep e2 X2_1) | (have X2_2 := keep e2 (cell_al X2_1 _))); (first | (have X3_2 := keep e2 X3_1) | (have X3_2 := keep e2 (cell_al X3_1 _))); (first | (have X4_2 := keep e2 X4_1) | (have X4_2 := keep e2 (cell_al X4_1 _))); (try (replace V0_0 := Cl.below V0_0 e2; have V0_0c := V0_0.1; have V0_0f := V0_0.2; replace V0_1 := Cl.below V0_1 e2; have V0_1c := V0_1.1; have V0_1f := V0_1.2)); (try (have V1_0 : Cl d2 ⟨d1.heap.size, 0, none⟩ (.int .i64 0) := Cl.below (Cl.new (w := d1) (cs := #[.int .i64 0, .slice none 0 0]) (t := 24) (by first | rfl | simp) (by rfl)) e2; have V1_0c := V1_0.1; have V1_0f := V1_0.2; have V1_1 : Cl d2 ⟨d1.heap.size, 1, none⟩ (.slice none 0 0) := Cl.below (Cl.new (w := d1) (cs := #[.int .i64 0, .slice none 0 0]) (t := 24) (by first | rfl | simp) (by rfl)) e2; have V1_1c := V1_1.1; have V1_1f := V1_1.2)); have y2 := e2.size; (try simp only [World.size_alloc, World.size_drew] at y2)) | fail)
      all_goals
        go_wp2_with fail
        go_meet
        case rel =>
          first
            | (refine ⟨m3.heap.size + 1, d1.heap.size, d2.heap.size, Ag0, cg0, Ag1, cg1, Tg00, Tg10, rfl, rfl, ?_, ?_, ?_, ?_, ?_, ?_, ?_, ?_, ?_, Dg01, ?_, ?_, ?_, ?_, ?_⟩; (· ((repeat' (first | (with_reducible exact Below.refl _ _) | (with_reducible refine bel_alloc ?_ ?_ _) | (with_reducible refine Below.setCell ?_ ?_ _) | (with_reducible refine below_drewN ?_ _) | (with_reducible refine Below.drew ?_) | (with_reducible refine bel_step e1 ?_ ?_) | (with_reducible refine bel_step e2 ?_ ?_) | (with_reducible exact Nat.le_refl _) | (with_reducible assumption) | omega | (simp only [World.size_alloc, World.size_setCell, World.size_drew]; omega) | (simp; omega) | (simp; done))))); (· (first | exact ((V0_0.same (.int .i64 r0)).other (q := ⟨m3.heap.size + 1, 1, none⟩) (.slice Ag0 ys.length cg0) (by simp)).1 | (simp [go_sem] <;> done))); (· (first | exact ((V0_1.other (q := ⟨m3.heap.size + 1, 0, none⟩) (.int .i64 r0) (by simp)).same (.slice Ag0 ys.length cg0)).1 | (simp [go_sem] <;> done))); (· (first | exact X3_2 | exact cell_al X3_2 _ | (refine set_other (set_other X3_2 ?_) ?_ <;> omega) | (refine set_other X3_2 ?_ <;> omega))); (· (first | exact X4_2 | exact cell_al X4_2 _ | (refine set_other (set_other X4_2 ?_) ?_ <;> omega) | (refine set_other X4_2 ?_ <;> omega))); (· (repeat' (first | (with_reducible exact rg00) | (with_reducible refine Wr2.alloc ?_ _) | (with_reducible refine Wr.alloc ?_ _) | (with_reducible refine Wr2.setOut ?_ _ ?_) | (with_reducible refine Wr.setOut ?_ _ ?_) | (intro hq; first | (have := hTg00 _ hq; simp only [World.size_alloc, World.size_drew] at this; omega) | (have := hTg00 _ hq; omega) | (have := hTg10 _ hq; simp only [World.size_alloc, World.size_drew] at this; omega) | (have := hTg10 _ hq; omega))))); (· (repeat' (first | (with_reducible exact rg10) | (with_reducible refine Wr2.alloc ?_ _) | (with_reducible refine Wr.alloc ?_ _) | (with_reducible refine Wr2.setOut ?_ _ ?_) | (with_reducible refine Wr.setOut ?_ _ ?_) | (intro hq; first | (have := hTg00 _ hq; simp only [World.size_alloc, World.size_drew] at this; omega) | (have := hTg00 _ hq; omega) | (have := hTg10 _ hq; simp only [World.size_alloc, World.size_drew] at this; omega) | (have := hTg10 _ hq; omega))))); (· (intro b hb; have := hTg00 b hb; (try simp only [World.size_alloc, World.size_drew] at this); omega)); (· (intro b hb; have := hTg10 b hb; (try simp only [World.size_alloc, World.size_drew] at this); omega)); (· (first | omega | (simp <;> omega))); (· (first | omega | (simp <;> omega))); (· (first | omega | (simp <;> omega))); (· (first | omega | (simp <;> omega))); (· (first | omega | (simp <;> omega))))
            | (refine ⟨d1.heap.size, d1.heap.size + 1, d2.heap.size, Ag0, cg0, Ag1, cg1, Tg00, Tg10, rfl, rfl, ?_, ?_, ?_, ?_, ?_, ?_, ?_, ?_, ?_, Dg01, ?_, ?_, ?_, ?_, ?_⟩; (· ((repeat' (first | (with_reducible exact Below.refl _ _) | (with_reducible refine bel_alloc ?_ ?_ _) | (with_reducible refine Below.setCell ?_ ?_ _) | (with_reducible refine below_drewN ?_ _) | (with_reducible refine Below.drew ?_) | (with_reducible refine bel_step e1 ?_ ?_) | (with_reducible refine bel_step e2 ?_ ?_) | (with_reducible exact Nat.le_refl _) | (with_reducible assumption) | omega | (simp only [World.size_alloc, World.size_setCell, World.size_drew]; omega) | (simp; omega) | (simp; done))))); (· (first | exact ((V1_0.same (.int .i64 r0)).other (q := ⟨d1.heap.size, 1, none⟩) (.slice Ag0 ys.length cg0) (by simp)).1 | (simp [go_sem] <;> done))); (· (first | exact ((V1_1.other (q := ⟨d1.heap.size, 0, none⟩) (.int .i64 r0) (by simp)).same (.slice Ag0 ys.length cg0)).1 | (simp [go_sem] <;> done))); (· (first | exact X3_2 | exact cell_al X3_2 _ | (refine set_other (set_other X3_2 ?_) ?_ <;> omega) | (refine set_other X3_2 ?_ <;> omega))); (· (first | exact X4_2 | exact cell_al X4_2 _ | (refine set_other (set_other X4_2 ?_) ?_ <;> omega) | (refine set_other X4_2 ?_ <;> omega))); (· (repeat' (first | (with_reducible exact rg00) | (with_reducible refine Wr2.alloc ?_ _) | (with_reducible refine Wr.alloc ?_ _) | (with_reducible refine Wr2.setOut ?_ _ ?_) | (with_reducible refine Wr.setOut ?_ _ ?_) | (intro hq; first | (have := hTg00 _ hq; simp only [World.size_alloc, World.size_drew] at this; omega) | (have := hTg00 _ hq; omega) | (have := hTg10 _ hq; simp only [World.size_alloc, World.size_drew] at this; omega) | (have := hTg10 _ hq; omega))))); (· (repeat' (first | (with_reducible exact rg10) | (with_reducible refine Wr2.alloc ?_ _) | (with_reducible refine Wr.alloc ?_ _) | (with_reducible refine Wr2.setOut ?_ _ ?_) | (with_reducible refine Wr.setOut ?_ _ ?_) | (intro hq; first | (have := hTg00 _ hq; simp only [World.size_alloc, World.size_drew] at this; omega) | (have := hTg00 _ hq; omega) | (have := hTg10 _ hq; simp only [World.size_alloc, World.size_drew] at this; omega) | (have := hTg10 _ hq; omega))))); (· (intro b hb; have := hTg00 b hb; (try simp only [World.size_alloc, World.size_drew] at this); omega)); (· (intro b hb; have := hTg10 b hb; (try simp only [World.size_alloc, World.size_drew] at this); omega)); (· (first | omega | (simp <;> omega))); (· (first | omega | (simp <;> omega))); (· (first | omega | (simp <;> omega))); (· (first | omega | (simp <;> omega))); (· (first | omega | (simp <;> omega))))
            | (refine ⟨d2.heap.size, d1.heap.size, d2.heap.size, Ag0, cg0, Ag1, cg1, Tg00, Tg10, rfl, rfl, ?_, ?_, ?_, ?_, ?_, ?_, ?_, ?_, ?_, Dg01, ?_, ?_, ?_, ?_, ?_⟩; (· ((repeat' (first | (with_reducible exact Below.refl _ _) | (with_reducible refine bel_alloc ?_ ?_ _) | (with_reducible refine Below.setCell ?_ ?_ _) | (with_reducible refine below_drewN ?_ _) | (with_reducible refine Below.drew ?_) | (with_reducible refine bel_step e1 ?_ ?_) | (with_reducible refine bel_step e2 ?_ ?_) | (with_reducible exact Nat.le_refl _) | (with_reducible assumption) | omega | (simp only [World.size_alloc, World.size_setCell, World.size_drew]; omega) | (simp; omega) | (simp; done))))); (· (first | exact by simp [go_sem] | (simp [go_sem] <;> done))); (· (first | exact by simp [go_sem] | (simp [go_sem] <;> done))); (· (first | exact X3_2 | exact cell_al X3_2 _ | (refine set_other (set_other X3_2 ?_) ?_ <;> omega) | (refine set_other X3_2 ?_ <;> omega))); (· (first | exact X4_2 | exact cell_al X4_2 _ | (refine set_other (set_other X4_2 ?_) ?_ <;> omega) | (refine set_other X4_2 ?_ <;> omega))); (· (repeat' (first | (with_reducible exact rg00) | (with_reducible refine Wr2.alloc ?_ _) | (with_reducible refine Wr.alloc ?_ _) | (with_reducible refine Wr2.setOut ?_ _ ?_) | (with_reducible refine Wr.setOut ?_ _ ?_) | (intro hq; first | (have := hTg00 _ hq; simp only [World.size_alloc, World.size_drew] at this; omega) | (have := hTg00 _ hq; omega) | (have := hTg10 _ hq; simp only [World.size_alloc, World.size_drew] at this; omega) | (have := hTg10 _ hq; omega))))); (· (repeat' (first | (with_reducible exact rg10) | (with_reducible refine Wr2.alloc ?_ _) | (with_reducible refine Wr.alloc ?_ _) | (with_reducible refine Wr2.setOut ?_ _ ?_) | (with_reducible refine Wr.setOut ?_ _ ?_) | (intro hq; first | (have := hTg00 _ hq; simp only [World.size_alloc, World.size_drew] at this; omega) | (have := hTg00 _ hq; omega) | (have := hTg10 _ hq; simp only [World.size_alloc, World.size_drew] at this; omega) | (have := hTg10 _ hq; omega))))); (· (intro b hb; have := hTg00 b hb; (try simp only [World.size_alloc, World.size_drew] at this); omega)); (· (intro b hb; have := hTg10 b hb; (try simp only [World.size_alloc, World.size_drew] at this); omega)); (· (first | omega | (simp <;> omega))); (· (first | omega | (simp <;> omega))); (· (first | omega | (simp <;> omega))); (· (first | omega | (simp <;> omega))); (· (first | omega | (simp <;> omega))))
    case rest =>
      obtain ⟨gvg, tlog, thig, Ag0, cg0, Ag1, cg1, Tg00, Tg10, hs0, hs1, hbcg, bg00, bg01, x00, x01, rg00, rg10, hTg00, hTg10, Dg01, hgv1g, hgv2g, htlg, hthg, hgtg⟩ := hcut
      obtain ⟨m4, hwc⟩ : ∃ x, x = wc := ⟨_, rfl⟩
      subst hwc
      subst hs0 hs1
      replace hr00 := hr00.below hbcg
      replace a00 := keep hbcg a00
      replace a01 := keep hbcg a01
      replace a10 := keep hbcg a10
      replace a11 := keep hbcg a11
      replace a12 := keep hbcg a12
      replace bw00 := keep hbcg bw00
      replace bw01 := keep hbcg bw01
      replace rw00 := rw00.below hbcg
      replace rw10 := rw10.below hbcg
      replace ox00 := ox00.below hbcg
      have hz4 := hbcg.size
      try simp only [World.size_alloc, World.size_drew] at hz4
      have la00 := lt_of_cell' a00
      have la10 := lt_of_cell' a10
      have lbw00 := lt_of_cell' bw00
      have lbg00 := lt_of_cell' bg00
      have lx00 := lt_of_cell' x00
      go_wp2_with fail
      refine (eqQuar_same _ _ _ _ _ _ _ rg00.rd rw00.rd hyA).mono ?_
      rintro e m5 ⟨rfl, hb5⟩
      clear la00 la10 lbw00 lbg00 lx00
      replace hr00 := hr00.below hb5
      replace a00 := keep hb5 a00
      replace a01 := keep hb5 a01
      replace a10 := keep hb5 a10
      replace a11 := keep hb5 a11
      replace a12 := keep hb5 a12
      replace bw00 := keep hb5 bw00
      replace bw01 := keep hb5 bw01
      replace rw00 := rw00.below hb5
      replace rw10 := rw10.below hb5
      replace ox00 := ox00.below hb5
      replace bg00 := keep hb5 bg00
      replace bg01 := keep hb5 bg01
      replace x00 := keep hb5 x00
      replace x01 := keep hb5 x01
      replace rg00 := rg00.below hb5
      replace rg10 := rg10.below hb5
      have hz5 := hb5.size
      try simp only [World.size_alloc, World.size_drew] at hz5
      have la00 := lt_of_cell' a00
      have la10 := lt_of_cell' a10
      have lbw00 := lt_of_cell' bw00
      have lbg00 := lt_of_cell' bg00
      have lx00 := lt_of_cell' x00
      go_wp2_with fail
      refine (eqStaleS_same _ _ _ _ _ _ rg10.rd rw10.rd hyB).mono ?_
      rintro e m6 ⟨rfl, hb6⟩
      clear la00 la10 lbw00 lbg00 lx00
      replace hr00 := hr00.below hb6
      replace a00 := keep hb6 a00
      replace a01 := keep hb6 a01
      replace a10 := keep hb6 a10
      replace a11 := keep hb6 a11
      replace a12 := keep hb6 a12
      replace bw00 := keep hb6 bw00
      replace bw01 := keep hb6 bw01
      replace rw00 := rw00.below hb6
      replace rw10 := rw10.below hb6
      replace ox00 := ox00.below hb6
      replace bg00 := keep hb6 bg00
      replace bg01 := keep hb6 bg01
      replace x00 := keep hb6 x00
      replace x01 := keep hb6 x01
      replace rg00 := rg00.below hb6
      replace rg10 := rg10.below hb6
      have hz6 := hb6.size
      try simp only [World.size_alloc, World.size_drew] at hz6
      have la00 := lt_of_cell' a00
      have la10 := lt_of_cell' a10
      have lbw00 := lt_of_cell' bw00
      have lbg00 := lt_of_cell' bg00
      have lx00 := lt_of_cell' x00
      go_wp2_with fail
      clear la00 la10 lbw00 lbg00 lx00
      replace hr00 := hr00.drew
      replace a00 := (show World.cell? (World.drew _) _ = _ from a00)
      replace a01 := (show World.cell? (World.drew _) _ = _ from a01)
      replace a10 := (show World.cell? (World.drew _) _ = _ from a10)
      replace a11 := (show World.cell? (World.drew _) _ = _ from a11)
      replace a12 := (show World.cell? (World.drew _) _ = _ from a12)
      replace bw00 := (show World.cell? (World.drew _) _ = _ from bw00)
      replace bw01 := (show World.cell? (World.drew _) _ = _ from bw01)
      replace rw00 := rw00.drew
      replace rw10 := rw10.drew
      replace ox00 := ox00.drew
      replace bg00 := (show World.cell? (World.drew _) _ = _ from bg00)
      replace bg01 := (show World.cell? (World.drew _) _ = _ from bg01)
      replace x00 := (show World.cell? (World.drew _) _ = _ from x00)
      replace x01 := (show World.cell? (World.drew _) _ = _ from x01)
      replace rg00 := rg00.drew
      replace rg10 := rg10.drew
      go_region_held3 (fun w' => w'.cell? ⟨w.heap.size, 0, none⟩ = some (.int .i64 r0) ∧ w'.cell? ⟨w.heap.size, 1, none⟩ = some (.slice A0 x0.length c0) ∧ w'.cell? ⟨m3.heap.size, 0, none⟩ = some (.int .i64 r0) ∧ w'.cell? ⟨m3.heap.size, 1, none⟩ = some (.slice A0x x0.length c0x)) (first | go_keep | exact ⟨(keep hb7 a00), (keep hb7 a01), (keep hb7 x00), (keep hb7 x01)⟩ | exact ⟨(keep hb8 (keep hb7 a00)), (keep hb8 (keep hb7 a01)), (keep hb8 (keep hb7 x00)), (keep hb8 (keep hb7 x01))⟩)
        (first | (go_at_call 17; refine (toQuar_w _ _ _ _ _ hr00 hn00).mono ?_; rintro e m7 ⟨A0y0, c0y0, Sy000, rfl, ky000, oy000, hSy000, hb7⟩) | (go_at_call 12; refine (eqQuar_same _ _ _ _ _ _ _ (ox00.below hb7).rd oy000.rd hn00).mono ?_; rintro e m8 ⟨rfl, hb8⟩))
      replace hr00 := ((hr00.below hb7).below hb8)
      replace a00 := (keep hb8 (keep hb7 a00))
      replace a01 := (keep hb8 (keep hb7 a01))
      replace a10 := (keep hb8 (keep hb7 a10))
      replace a11 := (keep hb8 (keep hb7 a11))
      replace a12 := (keep hb8 (keep hb7 a12))
      replace bw00 := (keep hb8 (keep hb7 bw00))
      replace bw01 := (keep hb8 (keep hb7 bw01))
      replace rw00 := ((rw00.below hb7).below hb8)
      replace rw10 := ((rw10.below hb7).below hb8)
      replace ox00 := ((ox00.below hb7).below hb8)
      replace bg00 := (keep hb8 (keep hb7 bg00))
      replace bg01 := (keep hb8 (keep hb7 bg01))
      replace x00 := (keep hb8 (keep hb7 x00))
      replace x01 := (keep hb8 (keep hb7 x01))
      replace rg00 := ((rg00.below hb7).below hb8)
      replace rg10 := ((rg10.below hb7).below hb8)
      have hz7 := hb7.size
      try simp only [World.size_alloc, World.size_drew] at hz7
      replace hSy000 : ∀ b, Sy000 b → m6.heap.size + 0 ≤ b ∧ b < m7.heap.size := fun b hb => by have := hSy000 b hb; (try simp only [World.size_alloc, World.size_drew] at this); omega
      have hz8 := hb8.size
      try simp only [World.size_alloc, World.size_drew] at hz8
      have la00 := lt_of_cell' a00
      have la10 := lt_of_cell' a10
      have lbw00 := lt_of_cell' bw00
      have lbg00 := lt_of_cell' bg00
      have lx00 := lt_of_cell' x00
      go_wp2_with fail
      refine (markQuar_any _ _ _ _ _ _ ox00 hn00 (by omega) (by omega)).mono ?_
      rintro e m9 ⟨rfl, nox00, ho9⟩
      have hz9 := ho9.size
      try simp only [World.size_alloc, World.size_drew] at hz9
      clear la00 la10 lbw00 lbg00 lx00
      have hl9 : ∀ b, Sx00 b → w.heap.size ≤ b := fun b hb => by have := hSx00 b hb; omega
      replace hr00 := hr00.outS ho9 hl9
      replace a00 := ho9.cell a00 (fun hb => by have := hSx00 _ hb; first | omega | (dsimp only at this; omega) | (simp at this; omega))
      replace a01 := ho9.cell a01 (fun hb => by have := hSx00 _ hb; first | omega | (dsimp only at this; omega) | (simp at this; omega))
      replace a10 := ho9.cell a10 (fun hb => by have := hSx00 _ hb; first | omega | (dsimp only at this; omega) | (simp at this; omega))
      replace a11 := ho9.cell a11 (fun hb => by have := hSx00 _ hb; first | omega | (dsimp only at this; omega) | (simp at this; omega))
      replace a12 := ho9.cell a12 (fun hb => by have := hSx00 _ hb; first | omega | (dsimp only at this; omega) | (simp at this; omega))
      replace bw00 := ho9.cell bw00 (fun hb => by have := hSx00 _ hb; first | omega | (dsimp only at this; omega) | (simp at this; omega))
      replace bw01 := ho9.cell bw01 (fun hb => by have := hSx00 _ hb; first | omega | (dsimp only at this; omega) | (simp at this; omega))
      replace rw00 := rw00.outS ho9 (fun b hb hx => by first | (have h1 := hTw00 b hb; have h2 := hSx00 b hx; omega))
      replace rw10 := rw10.outS ho9 (fun b hb hx => by first | (have h1 := hTw10 b hb; have h2 := hSx00 b hx; omega))
      replace bg00 := ho9.cell bg00 (fun hb => by have := hSx00 _ hb; first | omega | (dsimp only at this; omega) | (simp at this; omega))
      replace bg01 := ho9.cell bg01 (fun hb => by have := hSx00 _ hb; first | omega | (dsimp only at this; omega) | (simp at this; omega))
      replace x00 := ho9.cell x00 (fun hb => by have := hSx00 _ hb; first | omega | (dsimp only at this; omega) | (simp at this; omega))
      replace x01 := ho9.cell x01 (fun hb => by have := hSx00 _ hb; first | omega | (dsimp only at this; omega) | (simp at this; omega))
      replace rg00 := rg00.outS ho9 (fun b hb hx => by first | (have h1 := hTg00 b hb; have h2 := hSx00 b hx; omega))
      replace rg10 := rg10.outS ho9 (fun b hb hx => by first | (have h1 := hTg10 b hb; have h2 := hSx00 b hx; omega))
      clear ox00
      have la00 := lt_of_cell' a00
      have la10 := lt_of_cell' a10
      have lbw00 := lt_of_cell' bw00
      have lbg00 := lt_of_cell' bg00
      have lx00 := lt_of_cell' x00
      go_wp2_with fail
      refine (eqQuar_same _ _ _ _ _ _ _ rg00.rd rw00.rd hyA).mono ?_
      rintro e m10 ⟨rfl, hb10⟩
      clear la00 la10 lbw00 lbg00 lx00
      replace hr00 := hr00.below hb10
      replace a00 := keep hb10 a00
      replace a01 := keep hb10 a01
      replace a10 := keep hb10 a10
      replace a11 := keep hb10 a11
      replace a12 := keep hb10 a12
      replace bw00 := keep hb10 bw00
      replace bw01 := keep hb10 bw01
      replace rw00 := rw00.below hb10
      replace rw10 := rw10.below hb10
      replace bg00 := keep hb10 bg00
      replace bg01 := keep hb10 bg01
      replace x00 := keep hb10 x00
      replace x01 := keep hb10 x01
      replace rg00 := rg00.below hb10
      replace rg10 := rg10.below hb10
      have hz10 := hb10.size
      try simp only [World.size_alloc, World.size_drew] at hz10
      have la00 := lt_of_cell' a00
      have la10 := lt_of_cell' a10
      have lbw00 := lt_of_cell' bw00
      have lbg00 := lt_of_cell' bg00
      have lx00 := lt_of_cell' x00
      go_wp2_with fail
      refine (eqStaleS_same _ _ _ _ _ _ rg10.rd rw10.rd hyB).mono ?_
      rintro e m11 ⟨rfl, hb11⟩
      clear la00 la10 lbw00 lbg00 lx00
      replace hr00 := hr00.below hb11
      replace a00 := keep hb11 a00
      replace a01 := keep hb11 a01
      replace a10 := keep hb11 a10
      replace a11 := keep hb11 a11
      replace a12 := keep hb11 a12
      replace bw00 := keep hb11 bw00
      replace bw01 := keep hb11 bw01
      replace rw00 := rw00.below hb11
      replace rw10 := rw10.below hb11
      replace bg00 := keep hb11 bg00
      replace bg01 := keep hb11 bg01
      replace x00 := keep hb11 x00
      replace x01 := keep hb11 x01
      replace rg00 := rg00.below hb11
      replace rg10 := rg10.below hb11
      have hz11 := hb11.size
      try simp only [World.size_alloc, World.size_drew] at hz11
      have la00 := lt_of_cell' a00
      have la10 := lt_of_cell' a10
      have lbw00 := lt_of_cell' bw00
      have lbg00 := lt_of_cell' bg00
      have lx00 := lt_of_cell' x00
      go_wp2_with fail
      refine (markQuar_any _ _ _ _ _ _ rg00 hyA (by omega) (by omega)).mono ?_
      rintro e m12 ⟨rfl, nrg00, ho12⟩
      have hz12 := ho12.size
      try simp only [World.size_alloc, World.size_drew] at hz12
      clear la00 la10 lbw00 lbg00 lx00
      have hl12 : ∀ b, Tg00 b → w.heap.size ≤ b := fun b hb => by have := hTg00 b hb; omega
      replace hr00 := hr00.outS ho12 hl12
      replace a00 := ho12.cell a00 (fun hb => by have := hTg00 _ hb; first | omega | (dsimp only at this; omega) | (simp at this; omega))
      replace a01 := ho12.cell a01 (fun hb => by have := hTg00 _ hb; first | omega | (dsimp only at this; omega) | (simp at this; omega))
      replace a10 := ho12.cell a10 (fun hb => by have := hTg00 _ hb; first | omega | (dsimp only at this; omega) | (simp at this; omega))
      replace a11 := ho12.cell a11 (fun hb => by have := hTg00 _ hb; first | omega | (dsimp only at this; omega) | (simp at this; omega))
      replace a12 := ho12.cell a12 (fun hb => by have := hTg00 _ hb; first | omega | (dsimp only at this; omega) | (simp at this; omega))
      replace bw00 := ho12.cell bw00 (fun hb => by have := hTg00 _ hb; first | omega | (dsimp only at this; omega) | (simp at this; omega))
      replace bw01 := ho12.cell bw01 (fun hb => by have := hTg00 _ hb; first | omega | (dsimp only at this; omega) | (simp at this; omega))
      replace rw00 := rw00.outS ho12 (fun b hb hx => by first | (have h1 := hTw00 b hb; have h2 := hTg00 b hx; omega))
      replace rw10 := rw10.outS ho12 (fun b hb hx => by first | (have h1 := hTw10 b hb; have h2 := hTg00 b hx; omega))
      replace bg00 := ho12.cell bg00 (fun hb => by have := hTg00 _ hb; first | omega | (dsimp only at this; omega) | (simp at this; omega))
      replace bg01 := ho12.cell bg01 (fun hb => by have := hTg00 _ hb; first | omega | (dsimp only at this; omega) | (simp at this; omega))
      replace x00 := ho12.cell x00 (fun hb => by have := hTg00 _ hb; first | omega | (dsimp only at this; omega) | (simp at this; omega))
      replace x01 := ho12.cell x01 (fun hb => by have := hTg00 _ hb; first | omega | (dsimp only at this; omega) | (simp at this; omega))
      replace rg10 := rg10.outS ho12 (fun b hb hx => by first | exact Dg01 b hx hb)
      clear rg00
      have la00 := lt_of_cell' a00
      have la10 := lt_of_cell' a10
      have lbw00 := lt_of_cell' bw00
      have lbg00 := lt_of_cell' bg00
      have lx00 := lt_of_cell' x00
      go_wp2_with fail
      refine (markStaleS_any _ _ _ _ _ rg10 hyB (by omega) (by omega)).mono ?_
      rintro e m13 ⟨rfl, nrg10, ho13⟩
      have hz13 := ho13.size
      try simp only [World.size_alloc, World.size_drew] at hz13
      clear la00 la10 lbw00 lbg00 lx00
      have hl13 : ∀ b, Tg10 b → w.heap.size ≤ b := fun b hb => by have := hTg10 b hb; omega
      replace hr00 := hr00.outS ho13 hl13
      replace a00 := ho13.cell a00 (fun hb => by have := hTg10 _ hb; first | omega | (dsimp only at this; omega) | (simp at this; omega))
      replace a01 := ho13.cell a01 (fun hb => by have := hTg10 _ hb; first | omega | (dsimp only at this; omega) | (simp at this; omega))
      replace a10 := ho13.cell a10 (fun hb => by have := hTg10 _ hb; first | omega | (dsimp only at this; omega) | (simp at this; omega))
      replace a11 := ho13.cell a11 (fun hb => by have := hTg10 _ hb; first | omega | (dsimp only at this; omega) | (simp at this; omega))
      replace a12 := ho13.cell a12 (fun hb => by have := hTg10 _ hb; first | omega | (dsimp only at this; omega) | (simp at this; omega))
      replace bw00 := ho13.cell bw00 (fun hb => by have := hTg10 _ hb; first | omega | (dsimp only at this; omega) | (simp at this; omega))
      replace bw01 := ho13.cell bw01 (fun hb => by have := hTg10 _ hb; first | omega | (dsimp only at this; omega) | (simp at this; omega))
      replace rw00 := rw00.outS ho13 (fun b hb hx => by first | (have h1 := hTw00 b hb; have h2 := hTg10 b hx; omega))
      replace rw10 := rw10.outS ho13 (fun b hb hx => by first | (have h1 := hTw10 b hb; have h2 := hTg10 b hx; omega))
      replace bg00 := ho13.cell bg00 (fun hb => by have := hTg10 _ hb; first | omega | (dsimp only at this; omega) | (simp at this; omega))
      replace bg01 := ho13.cell bg01 (fun hb => by have := hTg10 _ hb; first | omega | (dsimp only at this; omega) | (simp at this; omega))
      replace x00 := ho13.cell x00 (fun hb => by have := hTg10 _ hb; first | omega | (dsimp only at this; omega) | (simp at this; omega))
      replace x01 := ho13.cell x01 (fun hb => by have := hTg10 _ hb; first | omega | (dsimp only at this; omega) | (simp at this; omega))
      replace nrg00 := nrg00.outS ho13 (fun b hb hx => by first | exact Dg01 b hb hx)
      clear rg10
      have la00 := lt_of_cell' a00
      have la10 := lt_of_cell' a10
      have lbw00 := lt_of_cell' bw00
      have lbg00 := lt_of_cell' bg00
      have lx00 := lt_of_cell' x00
      go_wp2_with fail
      refine (heldQuar_b _ _ _ _ _ _ nrg00.rd hyA (by omega) (by omega)).mono ?_
      rintro e m14 ⟨rfl, hb14⟩
      clear la00 la10 lbw00 lbg00 lx00
      replace hr00 := hr00.below hb14
      replace a00 := keep hb14 a00
      replace a01 := keep hb14 a01
      replace a10 := keep hb14 a10
      replace a11 := keep hb14 a11
      replace a12 := keep hb14 a12
      replace bw00 := keep hb14 bw00
      replace bw01 := keep hb14 bw01
      replace rw00 := rw00.below hb14
      replace rw10 := rw10.below hb14
      replace bg00 := keep hb14 bg00
      replace bg01 := keep hb14 bg01
      replace x00 := keep hb14 x00
      replace x01 := keep hb14 x01
      replace nrg00 := nrg00.below hb14
      replace nrg10 := nrg10.below hb14
      have hz14 := hb14.size
      try simp only [World.size_alloc, World.size_drew] at hz14
      have la00 := lt_of_cell' a00
      have la10 := lt_of_cell' a10
      have lbw00 := lt_of_cell' bw00
      have lbg00 := lt_of_cell' bg00
      have lx00 := lt_of_cell' x00
      go_wp2_with fail
      refine (heldStaleS_b _ _ _ _ _ nrg10.rd hyB (by omega) (by omega)).mono ?_
      rintro e m15 ⟨rfl, hb15⟩
      clear la00 la10 lbw00 lbg00 lx00
      replace hr00 := hr00.below hb15
      replace a00 := keep hb15 a00
      replace a01 := keep hb15 a01
      replace a10 := keep hb15 a10
      replace a11 := keep hb15 a11
      replace a12 := keep hb15 a12
      replace bw00 := keep hb15 bw00
      replace bw01 := keep hb15 bw01
      replace rw00 := rw00.below hb15
      replace rw10 := rw10.below hb15
      replace bg00 := keep hb15 bg00
      replace bg01 := keep hb15 bg01
      replace x00 := keep hb15 x00
      replace x01 := keep hb15 x01
      replace nrg00 := nrg00.below hb15
      replace nrg10 := nrg10.below hb15
      have hz15 := hb15.size
      try simp only [World.size_alloc, World.size_drew] at hz15
      have la00 := lt_of_cell' a00
      have la10 := lt_of_cell' a10
      have lbw00 := lt_of_cell' bw00
      have lbg00 := lt_of_cell' bg00
      have lx00 := lt_of_cell' x00
      go_wp2_with fail
      clear la00 la10 lbw00 lbg00 lx00
      go_cut [14, 15] (fun s0 s1 W => ∃ (gv tlo thi : Nat) (Ah0 : Option Addr) (ch0 : Nat) (Ah1 : Option Addr) (ch1 : Nat) (Th00 : Nat → Prop) (Th10 : Nat → Prop), s0 = .pointer (some ⟨gv, 0, none⟩) ∧ s1 = .slice Ah1 zs.length ch1 ∧ Below m15.heap.size m15 W ∧ W.cell? ⟨gv, 0, none⟩ = some (.int .i64 r0) ∧ W.cell? ⟨gv, 1, none⟩ = some (.slice Ah0 ys.length ch0) ∧ Wr W Th00 Ah0 (tv ys) ∧ Wr W Th10 Ah1 (tv zs) ∧ (∀ b, Th00 b → tlo ≤ b ∧ b < thi) ∧ (∀ b, Th10 b → tlo ≤ b ∧ b < thi) ∧ (∀ b, Th00 b → ¬ Th10 b) ∧ m15.heap.size ≤ gv ∧ gv < W.heap.size ∧ m15.heap.size ≤ tlo ∧ thi ≤ W.heap.size ∧ (gv < tlo ∨ thi ≤ gv))
      case first =>
        have X0 : (World.drew m15).cell? ⟨w.heap.size, 0, none⟩ = some (.int .i64 r0) := a00
        have X1 : (World.drew m15).cell? ⟨w.heap.size, 1, none⟩ = some (.slice A0 x0.length c0) := a01
        have X2 : (World.drew m15).cell? ⟨w.heap.size + 1, 0, none⟩ = some (.int .i64 q10) := a10
        have X3 : (World.drew m15).cell? ⟨w.heap.size + 1, 1, none⟩ = some (.int .i64 q11) := a11
        have X4 : (World.drew m15).cell? ⟨w.heap.size + 1, 2, none⟩ = some (.int .i64 q12) := a12
        have lX0 : w.heap.size < m15.heap.size := by
          have h := lt_of_cell' X0
          first | exact h | (simp only [World.size_alloc, World.size_drew] at h; omega)
        have lX2 : w.heap.size + 1 < m15.heap.size := by
          have h := lt_of_cell' X2
          first | exact h | (simp only [World.size_alloc, World.size_drew] at h; omega)
        have Z_hr00 := (hr00).drew
        go_region_held3 (fun w' => w'.cell? ⟨w.heap.size, 0, none⟩ = some (.int .i64 r0) ∧ w'.cell? ⟨w.heap.size, 1, none⟩ = some (.slice A0 x0.length c0) ∧ w'.cell? ⟨w.heap.size + 1, 0, none⟩ = some (.int .i64 q10) ∧ w'.cell? ⟨w.heap.size + 1, 1, none⟩ = some (.int .i64 q11) ∧ w'.cell? ⟨w.heap.size + 1, 2, none⟩ = some (.int .i64 q12))
          (first | (with_reducible exact ⟨X0_3, X1_3, X2_3, X3_3, X4_3⟩) | ((refine ⟨(set_other (set_other X0_3 ?_) ?_), (set_other (set_other X1_3 ?_) ?_), (set_other (set_other X2_3 ?_) ?_), (set_other (set_other X3_3 ?_) ?_), (set_other (set_other X4_3 ?_) ?_)⟩); all_goals omega) | (with_reducible exact ⟨X0_2, X1_2, X2_2, X3_2, X4_2⟩) | (with_reducible exact ⟨X0_1, X1_1, X2_1, X3_1, X4_1⟩) | (with_reducible exact ⟨cell_al X0_3 _, cell_al X1_3 _, cell_al X2_3 _, cell_al X3_3 _, cell_al X4_3 _⟩) | exact ⟨X0, X1, X2, X3, X4⟩ | ((refine ⟨(set_other (set_other (cell_al X0_3 _) ?_) ?_), (set_other (set_other (cell_al X1_3 _) ?_) ?_), (set_other (set_other (cell_al X2_3 _) ?_) ?_), (set_other (set_other (cell_al X3_3 _) ?_) ?_), (set_other (set_other (cell_al X4_3 _) ?_) ?_)⟩); all_goals omega) | (with_reducible exact ⟨cell_al X0_2 _, cell_al X1_2 _, cell_al X2_2 _, cell_al X3_2 _, cell_al X4_2 _⟩) | (with_reducible exact ⟨cell_al X0_1 _, cell_al X1_1 _, cell_al X2_1 _, cell_al X3_1 _, cell_al X4_1 _⟩) | exact ⟨cell_al X0 _, cell_al X1 _, cell_al X2 _, cell_al X3 _, cell_al X4 _⟩ | fail)
          (first | (go_at_call 17; refine (toQuar_w _ _ _ _ _ Z_hr00 hn00).mono ?_; rintro e d1 ⟨A0h, c0h, Sh00, rfl, kh00, oh00, hSh00, e1⟩; (first | (have X0_1 := keep e1 X0) | (have X0_1 := keep e1 (cell_al X0 _))); (first | (have X1_1 := keep e1 X1) | (have X1_1 := keep e1 (cell_al X1 _))); (first | (have X2_1 := keep e1 X2) | (have X2_1 := keep e1 (cell_al X2 _))); (first | (have X3_1 := keep e1 X3) | (have X3_1 := keep e1 (cell_al X3 _))); (first | (have X4_1 := keep e1 X4) | (have X4_1 := keep e1 (cell_al X4 _))); (first | (replace Z_hr00 := (Z_hr00).below e1) | (replace Z_hr00 := ((Z_hr00).alloc _).below e1)); (try (have V0_0 : Cl d1 ⟨m15.heap.size, 0, none⟩ (.int .i64 0) := Cl.below (Cl.new (w := (World.drew m15)) (cs := #[.int .i64 0, .slice none 0 0]) (t := 24) (by first | rfl | simp) (by rfl)) e1; have V0_0c := V0_0.1; have V0_0f := V0_0.2; have V0_1 : Cl d1 ⟨m15.heap.size, 1, none⟩ (.slice none 0 0) := Cl.below (Cl.new (w := (World.drew m15)) (cs := #[.int .i64 0, .slice none 0 0]) (t := 24) (by first | rfl | simp) (by rfl)) e1; have V0_1c := V0_1.1; have V0_1f := V0_1.2)); have y1 := e1.size; (try simp only [World.size_alloc, World.size_drew] at y1)) | (go_at_call 17; refine (toQuar_w _ _ _ _ _ (Z_hr00.alloc _) hn00).mono ?_; rintro e d1 ⟨A0h, c0h, Sh00, rfl, kh00, oh00, hSh00, e1⟩; (first | (have X0_1 := keep e1 X0) | (have X0_1 := keep e1 (cell_al X0 _))); (first | (have X1_1 := keep e1 X1) | (have X1_1 := keep e1 (cell_al X1 _))); (first | (have X2_1 := keep e1 X2) | (have X2_1 := keep e1 (cell_al X2 _))); (first | (have X3_1 := keep e1 X3) | (have X3_1 := keep e1 (cell_al X3 _))); (first | (have X4_1 := keep e1 X4) | (have X4_1 := keep e1 (cell_al X4 _))); (first | (replace Z_hr00 := (Z_hr00).below e1) | (replace Z_hr00 := ((Z_hr00).alloc _).below e1)); (try (have V0_0 : Cl d1 ⟨m15.heap.size, 0, none⟩ (.int .i64 0) := Cl.below (Cl.new (w := (World.drew m15)) (cs := #[.int .i64 0, .slice none 0 0]) (t := 24) (by first | rfl | simp) (by rfl)) e1; have V0_0c := V0_0.1; have V0_0f := V0_0.2; have V0_1 : Cl d1 ⟨m15.heap.size, 1, none⟩ (.slice none 0 0) := Cl.below (Cl.new (w := (World.drew m15)) (cs := #[.int .i64 0, .slice none 0 0]) (t := 24) (by first | rfl | simp) (by rfl)) e1; have V0_1c := V0_1.1; have V0_1f := V0_1.2)); have y1 := e1.size; (try simp only [World.size_alloc, World.size_drew] at y1)) | (go_at_call 32; refine (toStale_any _ _ _ _).mono ?_; rintro e d2 ⟨rfl, e2⟩; (first | (have X0_2 := keep e2 X0_1) | (have X0_2 := keep e2 (cell_al X0_1 _))); (first | (have X1_2 := keep e2 X1_1) | (have X1_2 := keep e2 (cell_al X1_1 _))); (first | (have X2_2 := keep e2 X2_1) | (have X2_2 := keep e2 (cell_al X2_1 _))); (first | (have X3_2 := keep e2 X3_1) | (have X3_2 := keep e2 (cell_al X3_1 _))); (first | (have X4_2 := keep e2 X4_1) | (have X4_2 := keep e2 (cell_al X4_1 _))); (first | (replace Z_hr00 := (Z_hr00).below e2) | (replace Z_hr00 := ((Z_hr00).alloc _).below e2)); (first | (replace oh00 := (oh00).below e2) | (replace oh00 := ((oh00).alloc _).below e2)); (try (replace V0_0 := Cl.below V0_0 e2; have V0_0c := V0_0.1; have V0_0f := V0_0.2; replace V0_1 := Cl.below V0_1 e2; have V0_1c := V0_1.1; have V0_1f := V0_1.2)); (try (have V1_0 : Cl d2 ⟨d1.heap.size, 0, none⟩ (.int .i64 0) := Cl.below (Cl.new (w := d1) (cs := #[.int .i64 0, .slice none 0 0]) (t := 24) (by first | rfl | simp) (by rfl)) e2; have V1_0c := V1_0.1; have V1_0f := V1_0.2; have V1_1 : Cl d2 ⟨d1.heap.size, 1, none⟩ (.slice none 0 0) := Cl.below (Cl.new (w := d1) (cs := #[.int .i64 0, .slice none 0 0]) (t := 24) (by first | rfl | simp) (by rfl)) e2; have V1_1c := V1_1.1; have V1_1f := V1_1.2)); have y2 := e2.size; (try simp only [World.size_alloc, World.size_drew] at y2)) | (go_at_call 32; refine (toStale_any _ _ _ _).mono ?_; rintro e d2 ⟨rfl, e2⟩; (first | (have X0_2 := keep e2 X0_1) | (have X0_2 := keep e2 (cell_al X0_1 _))); (first | (have X1_2 := keep e2 X1_1) | (have X1_2 := keep e2 (cell_al X1_1 _))); (first | (have X2_2 := keep e2 X2_1) | (have X2_2 := keep e2 (cell_al X2_1 _))); (first | (have X3_2 := keep e2 X3_1) | (have X3_2 := keep e2 (cell_al X3_1 _))); (first | (have X4_2 := keep e2 X4_1) | (have X4_2 := keep e2 (cell_al X4_1 _))); (first | (replace Z_hr00 := (Z_hr00).below e2) | (replace Z_hr00 := ((Z_hr00).alloc _).below e2)); (first | (replace oh00 := (oh00).below e2) | (replace oh00 := ((oh00).alloc _).below e2)); (try (replace V0_0 := Cl.below V0_0 e2; have V0_0c := V0_0.1; have V0_0f := V0_0.2; replace V0_1 := Cl.below V0_1 e2; have V0_1c := V0_1.1; have V0_1f := V0_1.2)); (try (have V1_0 : Cl d2 ⟨d1.heap.size, 0, none⟩ (.int .i64 0) := Cl.below (Cl.new (w := d1) (cs := #[.int .i64 0, .slice none 0 0]) (t := 24) (by first | rfl | simp) (by rfl)) e2; have V1_0c := V1_0.1; have V1_0f := V1_0.2; have V1_1 : Cl d2 ⟨d1.heap.size, 1, none⟩ (.slice none 0 0) := Cl.below (Cl.new (w := d1) (cs := #[.int .i64 0, .slice none 0 0]) (t := 24) (by first | rfl | simp) (by rfl)) e2; have V1_1c := V1_1.1; have V1_1f := V1_1.2)); have y2 := e2.size; (try simp only [World.size_alloc, World.size_drew] at y2)) | (go_at_call 26; refine (HI.out _ _ _ oh00.rd hn00 kh00).mono ?_; rintro e d3 ⟨Ah0, ch0, Ah1, ch1, Th00, Th10, rfl, rh00, rh10, hTh00, hTh10, Dh01, e3⟩; (first | (have X0_3 := keep e3 X0_2) | (have X0_3 := keep e3 (cell_al X0_2 _))); (first | (have X1_3 := keep e3 X1_2) | (have X1_3 := keep e3 (cell_al X1_2 _))); (first | (have X2_3 := keep e3 X2_2) | (have X2_3 := keep e3 (cell_al X2_2 _))); (first | (have X3_3 := keep e3 X3_2) | (have X3_3 := keep e3 (cell_al X3_2 _))); (first | (have X4_3 := keep e3 X4_2) | (have X4_3 := keep e3 (cell_al X4_2 _))); (try (replace V0_0 := Cl.below V0_0 e3; have V0_0c := V0_0.1; have V0_0f := V0_0.2; replace V0_1 := Cl.below V0_1 e3; have V0_1c := V0_1.1; have V0_1f := V0_1.2)); (try (replace V1_0 := Cl.below V1_0 e3; have V1_0c := V1_0.1; have V1_0f := V1_0.2; replace V1_1 := Cl.below V1_1 e3; have V1_1c := V1_1.1; have V1_1f := V1_1.2)); (try (have V2_0 : Cl d3 ⟨d2.heap.size, 0, none⟩ (.int .i64 0) := Cl.below (Cl.new (w := d2) (cs := #[.int .i64 0, .slice none 0 0]) (t := 24) (by first | rfl | simp) (by rfl)) e3; have V2_0c := V2_0.1; have V2_0f := V2_0.2; have V2_1 : Cl d3 ⟨d2.heap.size, 1, none⟩ (.slice none 0 0) := Cl.below (Cl.new (w := d2) (cs := #[.int .i64 0, .slice none 0 0]) (t := 24) (by first | rfl | simp) (by rfl)) e3; have V2_1c := V2_1.1; have V2_1f := V2_1.2)); have y3 := e3.size; (try simp only [World.size_alloc, World.size_drew] at y3)) | (go_at_call 26; refine (HI.out _ _ _ (oh00.alloc _).rd hn00 kh00).mono ?_; rintro e d3 ⟨Ah0, ch0, Ah1, ch1, Th00, Th10, rfl, rh00, rh10, hTh00, hTh10, Dh01, e3⟩; (first | (have X0_3 := keep e3 X0_2) | (have X0_3 := keep e3 (cell_al X0_2 _))); (first | (have X1_3 := keep e3 X1_2) | (have X1_3 := keep e3 (cell_al X1_2 _))); (first | (have X2_3 := keep e3 X2_2) | (have X2_3 := keep e3 (cell_al X2_2 _))); (first | (have X3_3 := keep e3 X3_2) | (have X3_3 := keep e3 (cell_al X3_2 _))); (first | (have X4_3 := keep e3 X4_2) | (have X4_3 := keep e3 (cell_al X4_2 _))); (try (replace V0_0 := Cl.below V0_0 e3; have V0_0c := V0_0.1; have V0_0f := V0_0.2; replace V0_1 := Cl.below V0_1 e3; have V0_1c := V0_1.1; have V0_1f := V0_1.2)); (try (replace V1_0 := Cl.below V1_0 e3; have V1_0c := V1_0.1; have V1_0f := V1_0.2; replace V1_1 := Cl.below V1_1 e3; have V1_1c := V1_1.1; have V1_1f := V1_1.2)); (try (have V2_0 : Cl d3 ⟨d2.heap.size, 0, none⟩ (.int .i64 0) := Cl.below (Cl.new (w := d2) (cs := #[.int .i64 0, .slice none 0 0]) (t := 24) (by first | rfl | simp) (by rfl)) e3; have V2_0c := V2_0.1; have V2_0f := V2_0.2; have V2_1 : Cl d3 ⟨d2.heap.size, 1, none⟩ (.slice none 0 0) := Cl.below (Cl.new (w := d2) (cs := #[.int .i64 0, .slice none 0 0]) (t := 24) (by first | rfl | simp) (by rfl)) e3; have V2_1c := V2_1.1; have V2_1f := V2_1.2)); have y3 := e3.size; (try simp only [World.size_alloc, World.size_drew] at y3)) | fail)
        all_goals
          go_wp2_with fail
          go_meet
          case rel =>
            first
              | (refine ⟨m15.heap.size, d2.heap.size, d3.heap.size, Ah0, ch0, Ah1, ch1, Th00, Th10, rfl, rfl, ?_, ?_, ?_, ?_, ?_, ?_, ?_, Dh01, ?_, ?_, ?_, ?_, ?_⟩; (· ((repeat' (first | (with_reducible exact Below.refl _ _) | (with_reducible refine bel_alloc ?_ ?_ _) | (with_reducible refine Below.setCell ?_ ?_ _) | (with_reducible refine below_drewN ?_ _) | (with_reducible refine Below.drew ?_) | (with_reducible refine bel_step e1 ?_ ?_) | (with_reducible refine bel_step e2 ?_ ?_) | (with_reducible refine bel_step e3 ?_ ?_) | (with_reducible exact Nat.le_refl _) | (with_reducible assumption) | omega | (simp only [World.size_alloc, World.size_setCell, World.size_drew]; omega) | (simp; omega) | (simp; done))))); (· (first | exact ((V0_0.same (.int .i64 r0)).other (q := ⟨m15.heap.size, 1, none⟩) (.slice Ah0 ys.length ch0) (by simp)).1 | (simp [go_sem] <;> done))); (· (first | exact ((V0_1.other (q := ⟨m15.heap.size, 0, none⟩) (.int .i64 r0) (by simp)).same (.slice Ah0 ys.length ch0)).1 | (simp [go_sem] <;> done))); (· (repeat' (first | (with_reducible exact rh00) | (with_reducible refine Wr2.alloc ?_ _) | (with_reducible refine Wr.alloc ?_ _) | (with_reducible refine Wr2.setOut ?_ _ ?_) | (with_reducible refine Wr.setOut ?_ _ ?_) | (intro hq; first | (have := hTh00 _ hq; simp only [World.size_alloc, World.size_drew] at this; omega) | (have := hTh00 _ hq; omega) | (have := hTh10 _ hq; simp only [World.size_alloc, World.size_drew] at this; omega) | (have := hTh10 _ hq; omega))))); (· (repeat' (first | (with_reducible exact rh10) | (with_reducible refine Wr2.alloc ?_ _) | (with_reducible refine Wr.alloc ?_ _) | (with_reducible refine Wr2.setOut ?_ _ ?_) | (with_reducible refine Wr.setOut ?_ _ ?_) | (intro hq; first | (have := hTh00 _ hq; simp only [World.size_alloc, World.size_drew] at this; omega) | (have := hTh00 _ hq; omega) | (have := hTh10 _ hq; simp only [World.size_alloc, World.size_drew] at this; omega) | (have := hTh10 _ hq; omega))))); (· (intro b hb; have := hTh00 b hb; (try simp only [World.size_alloc, World.size_drew] at this); omega)); (· (intro b hb; have := hTh10 b hb; (try simp only [World.size_alloc, World.size_drew] at this); omega)); (· (first | omega | (simp <;> omega))); (· (first | omega | (simp <;> omega))); (· (first | omega | (simp <;> omega))); (· (first | omega | (simp <;> omega))); (· (first | omega | (simp <;> omega))))
              | (refine ⟨d1.heap.size, d2.heap.size, d3.heap.size, Ah0, ch0, Ah1, ch1, Th00, Th10, rfl, rfl, ?_, ?_, ?_, ?_, ?_, ?_, ?_, Dh01, ?_, ?_, ?_, ?_, ?_⟩; (· ((repeat' (first | (with_reducible exact Below.refl _ _) | (with_reducible refine bel_alloc ?_ ?_ _) | (with_reducible refine Below.setCell ?_ ?_ _) | (with_reducible refine below_drewN ?_ _) | (with_reducible refine Below.drew ?_) | (with_reducible refine bel_step e1 ?_ ?_) | (with_reducible refine bel_step e2 ?_ ?_) | (with_reducible refine bel_step e3 ?_ ?_) | (with_reducible exact Nat.le_refl _) | (with_reducible assumption) | omega | (simp only [World.size_alloc, World.size_setCell, World.size_drew]; omega) | (simp; omega) | (simp; done))))); (· (first | exact ((V1_0.same (.int .i64 r0)).other (q := ⟨d1.heap.size, 1, none⟩) (.slice Ah0 ys.length ch0) (by simp)).1 | (simp [go_sem] <;> done))); (· (first | exact ((V1_1.other (q := ⟨d1.heap.size, 0, none⟩) (.int .i64 r0) (by simp)).same (.slice Ah0 ys.length ch0)).1 | (simp [go_sem] <;> done))); (· (repeat' (first | (with_reducible exact rh00) | (with_reducible refine Wr2.alloc ?_ _) | (with_reducible refine Wr.alloc ?_ _) | (with_reducible refine Wr2.setOut ?_ _ ?_) | (with_reducible refine Wr.setOut ?_ _ ?_) | (intro hq; first | (have := hTh00 _ hq; simp only [World.size_alloc, World.size_drew] at this; omega) | (have := hTh00 _ hq; omega) | (have := hTh10 _ hq; simp only [World.size_alloc, World.size_drew] at this; omega) | (have := hTh10 _ hq; omega))))); (· (repeat' (first | (with_reducible exact rh10) | (with_reducible refine Wr2.alloc ?_ _) | (with_reducible refine Wr.alloc ?_ _) | (with_reducible refine Wr2.setOut ?_ _ ?_) | (with_reducible refine Wr.setOut ?_ _ ?_) | (intro hq; first | (have := hTh00 _ hq; simp only [World.size_alloc, World.size_drew] at this; omega) | (have := hTh00 _ hq; omega) | (have := hTh10 _ hq; simp only [World.size_alloc, World.size_drew] at this; omega) | (have := hTh10 _ hq; omega))))); (· (intro b hb; have := hTh00 b hb; (try simp only [World.size_alloc, World.size_drew] at this); omega)); (· (intro b hb; have := hTh10 b hb; (try simp only [World.size_alloc, World.size_drew] at this); omega)); (· (first | omega | (simp <;> omega))); (· (first | omega | (simp <;> omega))); (· (first | omega | (simp <;> omega))); (· (first | omega | (simp <;> omega))); (· (first | omega | (simp <;> omega))))
              | (refine ⟨d2.heap.size, d2.heap.size + 1, d3.heap.size, Ah0, ch0, Ah1, ch1, Th00, Th10, rfl, rfl, ?_, ?_, ?_, ?_, ?_, ?_, ?_, Dh01, ?_, ?_, ?_, ?_, ?_⟩; (· ((repeat' (first | (with_reducible exact Below.refl _ _) | (with_reducible refine bel_alloc ?_ ?_ _) | (with_reducible refine Below.setCell ?_ ?_ _) | (with_reducible refine below_drewN ?_ _) | (with_reducible refine Below.drew ?_) | (with_reducible refine bel_step e1 ?_ ?_) | (with_reducible refine bel_step e2 ?_ ?_) | (with_reducible refine bel_step e3 ?_ ?_) | (with_reducible exact Nat.le_refl _) | (with_reducible assumption) | omega | (simp only [World.size_alloc, World.size_setCell, World.size_drew]; omega) | (simp; omega) | (simp; done))))); (· (first | exact ((V2_0.same (.int .i64 r0)).other (q := ⟨d2.heap.size, 1, none⟩) (.slice Ah0 ys.length ch0) (by simp)).1 | (simp [go_sem] <;> done))); (· (first | exact ((V2_1.other (q := ⟨d2.heap.size, 0, none⟩) (.int .i64 r0) (by simp)).same (.slice Ah0 ys.length ch0)).1 | (simp [go_sem] <;> done))); (· (repeat' (first | (with_reducible exact rh00) | (with_reducible refine Wr2.alloc ?_ _) | (with_reducible refine Wr.alloc ?_ _) | (with_reducible refine Wr2.setOut ?_ _ ?_) | (with_reducible refine Wr.setOut ?_ _ ?_) | (intro hq; first | (have := hTh00 _ hq; simp only [World.size_alloc, World.size_drew] at this; omega) | (have := hTh00 _ hq; omega) | (have := hTh10 _ hq; simp only [World.size_alloc, World.size_drew] at this; omega) | (have := hTh10 _ hq; omega))))); (· (repeat' (first | (with_reducible exact rh10) | (with_reducible refine Wr2.alloc ?_ _) | (with_reducible refine Wr.alloc ?_ _) | (with_reducible refine Wr2.setOut ?_ _ ?_) | (with_reducible refine Wr.setOut ?_ _ ?_) | (intro hq; first | (have := hTh00 _ hq; simp only [World.size_alloc, World.size_drew] at this; omega) | (have := hTh00 _ hq; omega) | (have := hTh10 _ hq; simp only [World.size_alloc, World.size_drew] at this; omega) | (have := hTh10 _ hq; omega))))); (· (intro b hb; have := hTh00 b hb; (try simp only [World.size_alloc, World.size_drew] at this); omega)); (· (intro b hb; have := hTh10 b hb; (try simp only [World.size_alloc, World.size_drew] at this); omega)); (· (first | omega | (simp <;> omega))); (· (first | omega | (simp <;> omega))); (· (first | omega | (simp <;> omega))); (· (first | omega | (simp <;> omega))); (· (first | omega | (simp <;> omega))))
              | (refine ⟨d3.heap.size, d2.heap.size, d3.heap.size, Ah0, ch0, Ah1, ch1, Th00, Th10, rfl, rfl, ?_, ?_, ?_, ?_, ?_, ?_, ?_, Dh01, ?_, ?_, ?_, ?_, ?_⟩; (· ((repeat' (first | (with_reducible exact Below.refl _ _) | (with_reducible refine bel_alloc ?_ ?_ _) | (with_reducible refine Below.setCell ?_ ?_ _) | (with_reducible refine below_drewN ?_ _) | (with_reducible refine Below.drew ?_) | (with_reducible refine bel_step e1 ?_ ?_) | (with_reducible refine bel_step e2 ?_ ?_) | (with_reducible refine bel_step e3 ?_ ?_) | (with_reducible exact Nat.le_refl _) | (with_reducible assumption) | omega | (simp only [World.size_alloc, World.size_setCell, World.size_drew]; omega) | (simp; omega) | (simp; done))))); (· (first | exact by simp [go_sem] | (simp [go_sem] <;> done))); (· (first | exact by simp [go_sem] | (simp [go_sem] <;> done))); (· (repeat' (first | (with_reducible exact rh00) | (with_reducible refine Wr2.alloc ?_ _) | (with_reducible refine Wr.alloc ?_ _) | (with_reducible refine Wr2.setOut ?_ _ ?_) | (with_reducible refine Wr.setOut ?_ _ ?_) | (intro hq; first | (have := hTh00 _ hq; simp only [World.size_alloc, World.size_drew] at this; omega) | (have := hTh00 _ hq; omega) | (have := hTh10 _ hq; simp only [World.size_alloc, World.size_drew] at this; omega) | (have := hTh10 _ hq; omega))))); (· (repeat' (first | (with_reducible exact rh10) | (with_reducible refine Wr2.alloc ?_ _) | (with_reducible refine Wr.alloc ?_ _) | (with_reducible refine Wr2.setOut ?_ _ ?_) | (with_reducible refine Wr.setOut ?_ _ ?_) | (intro hq; first | (have := hTh00 _ hq; simp only [World.size_alloc, World.size_drew] at this; omega) | (have := hTh00 _ hq; omega) | (have := hTh10 _ hq; simp only [World.size_alloc, World.size_drew] at this; omega) | (have := hTh10 _ hq; omega))))); (· (intro b hb; have := hTh00 b hb; (try simp only [World.size_alloc, World.size_drew] at this); omega)); (· (intro b hb; have := hTh10 b hb; (try simp only [World.size_alloc, World.size_drew] at this); omega)); (· (first | omega | (simp <;> omega))); (· (first | omega | (simp <;> omega))); (· (first | omega | (simp <;> omega))); (· (first | omega | (simp <;> omega))); (· (first | omega | (simp <;> omega))))
      case rest =>
        obtain ⟨gvh, tloh, thih, Ah0, ch0, Ah1, ch1, Th00, Th10, hs0, hs1, hbch, bh00, bh01, rh00, rh10, hTh00, hTh10, Dh01, hgv1h, hgv2h, htlh, hthh, hgth⟩ := hcut
        obtain ⟨m16, hwc⟩ : ∃ x, x = wc := ⟨_, rfl⟩
        subst hwc
        subst hs0 hs1
        replace hr00 := hr00.below hbch
        replace a00 := keep hbch a00
        replace a01 := keep hbch a01
        replace a10 := keep hbch a10
        replace a11 := keep hbch a11
        replace a12 := keep hbch a12
        replace bw00 := keep hbch bw00
        replace bw01 := keep hbch bw01
        replace rw00 := rw00.below hbch
        replace rw10 := rw10.below hbch
        replace bg00 := keep hbch bg00
        replace bg01 := keep hbch bg01
        replace x00 := keep hbch x00
        replace x01 := keep hbch x01
        replace nrg00 := nrg00.below hbch
        replace nrg10 := nrg10.below hbch
        have hz16 := hbch.size
        try simp only [World.size_alloc, World.size_drew] at hz16
        have la00 := lt_of_cell' a00
        have la10 := lt_of_cell' a10
        have lbw00 := lt_of_cell' bw00
        have lbg00 := lt_of_cell' bg00
        have lx00 := lt_of_cell' x00
        have lbh00 := lt_of_cell' bh00
        go_wp2_with fail
        refine (eqQuar_same _ _ _ _ _ _ _ rh00.rd rw00.rd hyA).mono ?_
        rintro e m17 ⟨rfl, hb17⟩
        clear la00 la10 lbw00 lbg00 lx00 lbh00
        replace hr00 := hr00.below hb17
        replace a00 := keep hb17 a00
        replace a01 := keep hb17 a01
        replace a10 := keep hb17 a10
        replace a11 := keep hb17 a11
        replace a12 := keep hb17 a12
        replace bw00 := keep hb17 bw00
        replace bw01 := keep hb17 bw01
        replace rw00 := rw00.below hb17
        replace rw10 := rw10.below hb17
        replace bg00 := keep hb17 bg00
        replace bg01 := keep hb17 bg01
        replace x00 := keep hb17 x00
        replace x01 := keep hb17 x01
        replace nrg00 := nrg00.below hb17
        replace nrg10 := nrg10.below hb17
        replace bh00 := keep hb17 bh00
        replace bh01 := keep hb17 bh01
        replace rh00 := rh00.below hb17
        replace rh10 := rh10.below hb17
        have hz17 := hb17.size
        try simp only [World.size_alloc, World.size_drew] at hz17
        have la00 := lt_of_cell' a00
        have la10 := lt_of_cell' a10
        have lbw00 := lt_of_cell' bw00
        have lbg00 := lt_of_cell' bg00
        have lx00 := lt_of_cell' x00
        have lbh00 := lt_of_cell' bh00
        go_wp2_with fail
        refine (eqStaleS_same _ _ _ _ _ _ rh10.rd rw10.rd hyB).mono ?_
        rintro e m18 ⟨rfl, hb18⟩
        clear la00 la10 lbw00 lbg00 lx00 lbh00
        replace hr00 := hr00.below hb18
        replace a00 := keep hb18 a00
        replace a01 := keep hb18 a01
        replace a10 := keep hb18 a10
        replace a11 := keep hb18 a11
        replace a12 := keep hb18 a12
        replace bw00 := keep hb18 bw00
        replace bw01 := keep hb18 bw01
        replace rw00 := rw00.below hb18
        replace rw10 := rw10.below hb18
        replace bg00 := keep hb18 bg00
        replace bg01 := keep hb18 bg01
        replace x00 := keep hb18 x00
        replace x01 := keep hb18 x01
        replace nrg00 := nrg00.below hb18
        replace nrg10 := nrg10.below hb18
        replace bh00 := keep hb18 bh00
        replace bh01 := keep hb18 bh01
        replace rh00 := rh00.below hb18
        replace rh10 := rh10.below hb18
        have hz18 := hb18.size
        try simp only [World.size_alloc, World.size_drew] at hz18
        have la00 := lt_of_cell' a00
        have la10 := lt_of_cell' a10
        have lbw00 := lt_of_cell' bw00
        have lbg00 := lt_of_cell' bg00
        have lx00 := lt_of_cell' x00
        have lbh00 := lt_of_cell' bh00
        go_wp2_with fail
        refine (heldQuar_b _ _ _ _ _ _ nrg00.rd hyA (by omega) (by omega)).mono ?_
        rintro e m19 ⟨rfl, hb19⟩
        clear la00 la10 lbw00 lbg00 lx00 lbh00
        replace hr00 := hr00.below hb19
        replace a00 := keep hb19 a00
        replace a01 := keep hb19 a01
        replace a10 := keep hb19 a10
        replace a11 := keep hb19 a11
        replace a12 := keep hb19 a12
        replace bw00 := keep hb19 bw00
        replace bw01 := keep hb19 bw01
        replace rw00 := rw00.below hb19
        replace rw10 := rw10.below hb19
        replace bg00 := keep hb19 bg00
        replace bg01 := keep hb19 bg01
        replace x00 := keep hb19 x00
        replace x01 := keep hb19 x01
        replace nrg00 := nrg00.below hb19
        replace nrg10 := nrg10.below hb19
        replace bh00 := keep hb19 bh00
        replace bh01 := keep hb19 bh01
        replace rh00 := rh00.below hb19
        replace rh10 := rh10.below hb19
        have hz19 := hb19.size
        try simp only [World.size_alloc, World.size_drew] at hz19
        have la00 := lt_of_cell' a00
        have la10 := lt_of_cell' a10
        have lbw00 := lt_of_cell' bw00
        have lbg00 := lt_of_cell' bg00
        have lx00 := lt_of_cell' x00
        have lbh00 := lt_of_cell' bh00
        go_wp2_with fail
        refine (heldStaleS_b _ _ _ _ _ nrg10.rd hyB (by omega) (by omega)).mono ?_
        rintro e m20 ⟨rfl, hb20⟩
        clear la00 la10 lbw00 lbg00 lx00 lbh00
        replace hr00 := hr00.below hb20
        replace a00 := keep hb20 a00
        replace a01 := keep hb20 a01
        replace a10 := keep hb20 a10
        replace a11 := keep hb20 a11
        replace a12 := keep hb20 a12
        replace bw00 := keep hb20 bw00
        replace bw01 := keep hb20 bw01
        replace rw00 := rw00.below hb20
        replace rw10 := rw10.below hb20
        replace bg00 := keep hb20 bg00
        replace bg01 := keep hb20 bg01
        replace x00 := keep hb20 x00
        replace x01 := keep hb20 x01
        replace nrg00 := nrg00.below hb20
        replace nrg10 := nrg10.below hb20
        replace bh00 := keep hb20 bh00
        replace bh01 := keep hb20 bh01
        replace rh00 := rh00.below hb20
        replace rh10 := rh10.below hb20
        have hz20 := hb20.size
        try simp only [World.size_alloc, World.size_drew] at hz20
        have la00 := lt_of_cell' a00
        have la10 := lt_of_cell' a10
        have lbw00 := lt_of_cell' bw00
        have lbg00 := lt_of_cell' bg00
        have lx00 := lt_of_cell' x00
        have lbh00 := lt_of_cell' bh00
        all_goals
          go_wp2
          go_ret
          exact ⟨rfl, by (repeat' (first | (with_reducible exact Below.refl _ _) | (with_reducible refine bel_alloc ?_ ?_ _) | (with_reducible refine Below.setCell ?_ ?_ _) | (with_reducible refine below_drewN ?_ _) | (with_reducible refine Below.drew ?_) | (with_reducible refine bel_step hb1 ?_ ?_) | (with_reducible refine bel_step hbcw ?_ ?_) | (with_reducible refine bel_step hb3 ?_ ?_) | (with_reducible refine bel_step hbcg ?_ ?_) | (with_reducible refine bel_step hb5 ?_ ?_) | (with_reducible refine bel_step hb6 ?_ ?_) | (with_reducible refine bel_step hb7 ?_ ?_) | (with_reducible refine bel_step hb8 ?_ ?_) | (with_reducible refine bel_outS ho9 hl9 ?_ ?_) | (with_reducible refine bel_step hb10 ?_ ?_) | (with_reducible refine bel_step hb11 ?_ ?_) | (with_reducible refine bel_outS ho12 hl12 ?_ ?_) | (with_reducible refine bel_outS ho13 hl13 ?_ ?_) | (with_reducible refine bel_step hb14 ?_ ?_) | (with_reducible refine bel_step hb15 ?_ ?_) | (with_reducible refine bel_step hbch ?_ ?_) | (with_reducible refine bel_step hb17 ?_ ?_) | (with_reducible refine bel_step hb18 ?_ ?_) | (with_reducible refine bel_step hb19 ?_ ?_) | (with_reducible refine bel_step hb20 ?_ ?_) | (with_reducible exact Nat.le_refl _) | (with_reducible assumption) | omega | (simp only [World.size_alloc, World.size_setCell, World.size_drew]; omega) | (simp; omega) | (simp; done)))⟩
end Go.Proofs.Yteafpfmndjeanaa
