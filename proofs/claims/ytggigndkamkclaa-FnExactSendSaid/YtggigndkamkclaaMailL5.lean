/- The walk of the exact law on Send. -/
import Derived.Test.YtggigndkamkclaaMailKin
import Derived.Test.YtggigndkamkclaaMailKiy
import Derived.Test.YtggigndkamkclaaMailKsn
import Derived.Test.YtggigndkamkclaaMailKsy
import Derived.Test.YtggigndkamkclaaMailW
import Derived.Deep.RegionHeld3
import Derived.Deep.DrawnRows
import Derived.Deep.DeepCutAuto
namespace Go.Proofs.Ytggigndkamkclaa
open Go.ChangeShapes Go.WideShapes Go.ChangeAt Go.RowKit
set_option linter.unusedVariables false
attribute [local go_sem ↓] Go.wp_at_zero Go.wp_at_succ

set_option maxHeartbeats 16000000 in
set_option maxRecDepth 100000 in
theorem law_send (A0 : Option Addr) (c0 : Nat) (B0 : Option Addr) (d0 : Nat) (x0 : List (List Po)) (y0 : List (List Int)) (p1 : Int) (q20 : Int) (q21 : Int) (w : World) (hr00 : Rd2 pv w w.heap.size A0 x0) (hr01 : Rd2 iv w w.heap.size B0 y0) (hm00 : x0.length ≤ maxLen ∧ ∀ l ∈ x0, l.length ≤ maxLen) (hm01 : y0.length ≤ maxLen ∧ ∀ l ∈ y0, l.length ≤ maxLen) (hp1 : -9223372036854775808 ≤ p1 ∧ p1 ≤ 9223372036854775807) (hq20 : -9223372036854775808 ≤ q20 ∧ q20 ≤ 9223372036854775807) (hq21 : -9223372036854775808 ≤ q21 ∧ q21 ≤ 9223372036854775807) : Calls Try.prog 10 #[.agg #[.slice A0 x0.length c0, .slice B0 y0.length d0], .int .i64 p1, .agg #[.int .i64 q20, .int .i64 q21]] w fun e w' => e = .returned (.bool true) ∧ Below w.heap.size w w' := by
  obtain ⟨ys, zs, ok, HS, HI, hy⟩ : ∃ (ys : List (List Po)) (zs : List (List Int)) (ok : Bool), (∀ (A : Option Addr) (c : Nat) (B : Option Addr) (d : Nat) (W : World) {B1 B2 : Nat}, Rd2 pv W B1 A x0 → Rd2 iv W B2 B y0 → (Rows x0 ∧ Rows y0) → Calls Try.prog 34 #[.agg #[.slice A x0.length c, .slice B y0.length d], .int .i64 p1, .agg #[.int .i64 q20, .int .i64 q21]] W (MadeMB ys zs ok W)) ∧
      (∀ (A : Option Addr) (c : Nat) (B : Option Addr) (d : Nat) (W : World) {B1 B2 : Nat}, Rd2 pv W B1 A x0 → Rd2 iv W B2 B y0 → (Rows x0 ∧ Rows y0) → Calls Try.prog 14 #[.agg #[.slice A x0.length c, .slice B y0.length d], .int .i64 p1, .agg #[.int .i64 q20, .int .i64 q21]] W (MadeMB ys zs ok W)) ∧ (Rows x0 ∧ Rows y0 → (Rows ys ∧ Rows zs)) := by
    cases hv : hasTh x0 y0 p1 with
    | false => exact ⟨x0, y0, false, fun A c B d W _ _ hr hs hn => send_s_no1 A c B d x0 y0 p1 q20 q21 W hr hs hn hv, fun A c B d W _ _ hr hs hn => send_i_no1 A c B d x0 y0 p1 q20 q21 W hr hs hn hv, fun hn => hn⟩
    | true =>
      obtain ⟨κ, rfl, hk, hk2, h4, h5, h6⟩ := hasTh_nat hv
      have h30 : (x0[κ]).length ≤ 30 := by have := tot_row hk; omega
      cases hok : mOkB (x0.set κ (x0[κ] ++ [(q20, q21)])) y0 with
      | false => exact ⟨x0, y0, false, fun A c B d W _ _ hr hs hn => send_s_no2 A c B d x0 y0 κ _ q20 q21 _ W hr hs hn hv hk rfl h30 rfl hok, fun A c B d W _ _ hr hs hn => send_i_no2 A c B d x0 y0 κ _ q20 q21 _ W hr hs hn hv hk rfl h30 rfl hok, fun hn => hn⟩
      | true => exact ⟨_, y0, true, fun A c B d W _ _ hr hs hn => send_s_yes A c B d x0 y0 κ _ q20 q21 _ W hr hs hn hv hk rfl h30 rfl hok, fun A c B d W _ _ hr hs hn => send_i_yes A c B d x0 y0 κ _ q20 q21 _ W hr hs hn hv hk rfl h30 rfl hok, fun hn => ⟨rows_set hn.1 (by simp; omega), hn.2⟩⟩
  replace HS := Lib.hid HS
  replace HI := Lib.hid HI
  replace hy := Lib.hid hy
  go_enter Try.func10, Try.ntmps10
  go_wp2_with fail
  refine (szMail_any _ _ _ _ _ _ _ _ ((hr00.alloc _).alloc _) ((hr01.alloc _).alloc _) (by omega) (by omega) hm00 hm01).mono ?_
  rintro e m1 ⟨rz0, rfl, qz0, sz0, hb1⟩
  replace hr00 := ((hr00.alloc _).alloc _).below hb1
  replace hr01 := ((hr01.alloc _).alloc _).below hb1
  have a00 : m1.cell? ⟨w.heap.size, 0, none⟩ = some (.slice A0 x0.length c0) := keep hb1 (by simp [go_sem])
  have a01 : m1.cell? ⟨w.heap.size, 1, none⟩ = some (.slice B0 y0.length d0) := keep hb1 (by simp [go_sem])
  have a20 : m1.cell? ⟨w.heap.size + 1, 0, none⟩ = some (.int .i64 q20) := keep hb1 (by simp [go_sem])
  have a21 : m1.cell? ⟨w.heap.size + 1, 1, none⟩ = some (.int .i64 q21) := keep hb1 (by simp [go_sem])
  have hz1 := hb1.size
  try simp only [World.size_alloc, World.size_drew] at hz1
  have la00 := lt_of_cell' a00
  have la20 := lt_of_cell' a20
  by_cases hneg0 : rz0 < 0
  · go_wp2
    go_ret
    exact ⟨rfl, by (repeat' (first | (with_reducible exact Below.refl _ _) | (with_reducible refine bel_alloc ?_ ?_ _) | (with_reducible refine Below.setCell ?_ ?_ _) | (with_reducible refine below_drewN ?_ _) | (with_reducible refine Below.drew ?_) | (with_reducible refine bel_step hb1 ?_ ?_) | (with_reducible exact Nat.le_refl _) | (with_reducible assumption) | omega | (simp only [World.size_alloc, World.size_setCell, World.size_drew]; omega) | (simp; omega) | (simp; done)))⟩
  have hn00 : Rows x0 ∧ Rows y0 := by have := sz0 (by omega); first | exact this | omega | exact ⟨by omega, this.2⟩
  clear sz0 qz0
  have hyA := hy.out hn00
  have htA := tot_bd hyA.1
  have htB := tot_bd hyA.2
  go_wp2_with fail
  clear la00 la20
  go_cut [8, 9] (fun s0 s1 W => ∃ (gv tlo thi : Nat) (Aw0 : Option Addr) (cw0 : Nat) (Bw0 : Option Addr) (dw0 : Nat) (Tw00 : Nat → Prop) (Tw01 : Nat → Prop), s0 = .pointer (some ⟨gv, 0, none⟩) ∧ s1 = .bool ok ∧ Below m1.heap.size m1 W ∧ W.cell? ⟨gv, 0, none⟩ = some (.slice Aw0 ys.length cw0) ∧ W.cell? ⟨gv, 1, none⟩ = some (.slice Bw0 zs.length dw0) ∧ Wr2 pv W Tw00 Aw0 ys ∧ Wr2 iv W Tw01 Bw0 zs ∧ (∀ b, Tw00 b → tlo ≤ b ∧ b < thi) ∧ (∀ b, Tw01 b → tlo ≤ b ∧ b < thi) ∧ (∀ b, Tw00 b → ¬ Tw01 b) ∧ m1.heap.size ≤ gv ∧ gv < W.heap.size ∧ m1.heap.size ≤ tlo ∧ thi ≤ W.heap.size ∧ (gv < tlo ∨ thi ≤ gv))
  case first =>
    have X0 : (World.drew m1).cell? ⟨w.heap.size, 0, none⟩ = some (.slice A0 x0.length c0) := a00
    have X1 : (World.drew m1).cell? ⟨w.heap.size, 1, none⟩ = some (.slice B0 y0.length d0) := a01
    have X2 : (World.drew m1).cell? ⟨w.heap.size + 1, 0, none⟩ = some (.int .i64 q20) := a20
    have X3 : (World.drew m1).cell? ⟨w.heap.size + 1, 1, none⟩ = some (.int .i64 q21) := a21
    have lX0 : w.heap.size < m1.heap.size := by
      have h := lt_of_cell' X0
      first | exact h | (simp only [World.size_alloc, World.size_drew] at h; omega)
    have lX2 : w.heap.size + 1 < m1.heap.size := by
      have h := lt_of_cell' X2
      first | exact h | (simp only [World.size_alloc, World.size_drew] at h; omega)
    have Z_hr00 := (hr00).drew
    have Z_hr01 := (hr01).drew
    go_region_held3 (fun w' => w'.cell? ⟨w.heap.size, 0, none⟩ = some (.slice A0 x0.length c0) ∧ w'.cell? ⟨w.heap.size, 1, none⟩ = some (.slice B0 y0.length d0) ∧ w'.cell? ⟨w.heap.size + 1, 0, none⟩ = some (.int .i64 q20) ∧ w'.cell? ⟨w.heap.size + 1, 1, none⟩ = some (.int .i64 q21))
      (first | (with_reducible exact ⟨X0_3, X1_3, X2_3, X3_3⟩) | ((refine ⟨(set_other (set_other X0_3 ?_) ?_), (set_other (set_other X1_3 ?_) ?_), (set_other (set_other X2_3 ?_) ?_), (set_other (set_other X3_3 ?_) ?_)⟩); all_goals omega) | (with_reducible exact ⟨X0_2, X1_2, X2_2, X3_2⟩) | (with_reducible exact ⟨X0_1, X1_1, X2_1, X3_1⟩) | (with_reducible exact ⟨cell_al X0_3 _, cell_al X1_3 _, cell_al X2_3 _, cell_al X3_3 _⟩) | exact ⟨X0, X1, X2, X3⟩ | ((refine ⟨(set_other (set_other (cell_al X0_3 _) ?_) ?_), (set_other (set_other (cell_al X1_3 _) ?_) ?_), (set_other (set_other (cell_al X2_3 _) ?_) ?_), (set_other (set_other (cell_al X3_3 _) ?_) ?_)⟩); all_goals omega) | (with_reducible exact ⟨cell_al X0_2 _, cell_al X1_2 _, cell_al X2_2 _, cell_al X3_2 _⟩) | (with_reducible exact ⟨cell_al X0_1 _, cell_al X1_1 _, cell_al X2_1 _, cell_al X3_1 _⟩) | exact ⟨cell_al X0 _, cell_al X1 _, cell_al X2 _, cell_al X3 _⟩ | fail)
      (first | (go_at_call 23; refine (toMail_w _ _ _ _ _ _ _ Z_hr00 Z_hr01 hn00).mono ?_; rintro e d1 ⟨A0w, c0w, B0w, d0w, Sw00, Sw01, rfl, kw00, kw01, ow00, ow01, hSw00, hSw01, dw00, e1⟩; (first | (have X0_1 := keep e1 X0) | (have X0_1 := keep e1 (cell_al X0 _))); (first | (have X1_1 := keep e1 X1) | (have X1_1 := keep e1 (cell_al X1 _))); (first | (have X2_1 := keep e1 X2) | (have X2_1 := keep e1 (cell_al X2 _))); (first | (have X3_1 := keep e1 X3) | (have X3_1 := keep e1 (cell_al X3 _))); (first | (replace Z_hr00 := (Z_hr00).below e1) | (replace Z_hr00 := ((Z_hr00).alloc _).below e1)); (first | (replace Z_hr01 := (Z_hr01).below e1) | (replace Z_hr01 := ((Z_hr01).alloc _).below e1)); (try (have V0_0 : Cl d1 ⟨m1.heap.size, 0, none⟩ (.slice none 0 0) := Cl.below (Cl.new (w := (World.drew m1)) (cs := #[.slice none 0 0, .slice none 0 0]) (t := 29) (by first | rfl | simp) (by rfl)) e1; have V0_0c := V0_0.1; have V0_0f := V0_0.2; have V0_1 : Cl d1 ⟨m1.heap.size, 1, none⟩ (.slice none 0 0) := Cl.below (Cl.new (w := (World.drew m1)) (cs := #[.slice none 0 0, .slice none 0 0]) (t := 29) (by first | rfl | simp) (by rfl)) e1; have V0_1c := V0_1.1; have V0_1f := V0_1.2)); have y1 := e1.size; (try simp only [World.size_alloc, World.size_drew] at y1)) | (go_at_call 23; refine (toMail_w _ _ _ _ _ _ _ (Z_hr00.alloc _) (Z_hr01.alloc _) hn00).mono ?_; rintro e d1 ⟨A0w, c0w, B0w, d0w, Sw00, Sw01, rfl, kw00, kw01, ow00, ow01, hSw00, hSw01, dw00, e1⟩; (first | (have X0_1 := keep e1 X0) | (have X0_1 := keep e1 (cell_al X0 _))); (first | (have X1_1 := keep e1 X1) | (have X1_1 := keep e1 (cell_al X1 _))); (first | (have X2_1 := keep e1 X2) | (have X2_1 := keep e1 (cell_al X2 _))); (first | (have X3_1 := keep e1 X3) | (have X3_1 := keep e1 (cell_al X3 _))); (first | (replace Z_hr00 := (Z_hr00).below e1) | (replace Z_hr00 := ((Z_hr00).alloc _).below e1)); (first | (replace Z_hr01 := (Z_hr01).below e1) | (replace Z_hr01 := ((Z_hr01).alloc _).below e1)); (try (have V0_0 : Cl d1 ⟨m1.heap.size, 0, none⟩ (.slice none 0 0) := Cl.below (Cl.new (w := (World.drew m1)) (cs := #[.slice none 0 0, .slice none 0 0]) (t := 29) (by first | rfl | simp) (by rfl)) e1; have V0_0c := V0_0.1; have V0_0f := V0_0.2; have V0_1 : Cl d1 ⟨m1.heap.size, 1, none⟩ (.slice none 0 0) := Cl.below (Cl.new (w := (World.drew m1)) (cs := #[.slice none 0 0, .slice none 0 0]) (t := 29) (by first | rfl | simp) (by rfl)) e1; have V0_1c := V0_1.1; have V0_1f := V0_1.2)); have y1 := e1.size; (try simp only [World.size_alloc, World.size_drew] at y1)) | (go_at_call 35; refine (toPost_any _ _ _).mono ?_; rintro e d2 ⟨rfl, e2⟩; (first | (have X0_2 := keep e2 X0_1) | (have X0_2 := keep e2 (cell_al X0_1 _))); (first | (have X1_2 := keep e2 X1_1) | (have X1_2 := keep e2 (cell_al X1_1 _))); (first | (have X2_2 := keep e2 X2_1) | (have X2_2 := keep e2 (cell_al X2_1 _))); (first | (have X3_2 := keep e2 X3_1) | (have X3_2 := keep e2 (cell_al X3_1 _))); (first | (replace Z_hr00 := (Z_hr00).below e2) | (replace Z_hr00 := ((Z_hr00).alloc _).below e2)); (first | (replace Z_hr01 := (Z_hr01).below e2) | (replace Z_hr01 := ((Z_hr01).alloc _).below e2)); (first | (replace ow00 := (ow00).below e2) | (replace ow00 := ((ow00).alloc _).below e2)); (first | (replace ow01 := (ow01).below e2) | (replace ow01 := ((ow01).alloc _).below e2)); (try (replace V0_0 := Cl.below V0_0 e2; have V0_0c := V0_0.1; have V0_0f := V0_0.2; replace V0_1 := Cl.below V0_1 e2; have V0_1c := V0_1.1; have V0_1f := V0_1.2)); (try (have V1_0 : Cl d2 ⟨d1.heap.size, 0, none⟩ (.slice none 0 0) := Cl.below (Cl.new (w := d1) (cs := #[.slice none 0 0, .slice none 0 0]) (t := 29) (by first | rfl | simp) (by rfl)) e2; have V1_0c := V1_0.1; have V1_0f := V1_0.2; have V1_1 : Cl d2 ⟨d1.heap.size, 1, none⟩ (.slice none 0 0) := Cl.below (Cl.new (w := d1) (cs := #[.slice none 0 0, .slice none 0 0]) (t := 29) (by first | rfl | simp) (by rfl)) e2; have V1_1c := V1_1.1; have V1_1f := V1_1.2)); have y2 := e2.size; (try simp only [World.size_alloc, World.size_drew] at y2)) | (go_at_call 35; refine (toPost_any _ _ _).mono ?_; rintro e d2 ⟨rfl, e2⟩; (first | (have X0_2 := keep e2 X0_1) | (have X0_2 := keep e2 (cell_al X0_1 _))); (first | (have X1_2 := keep e2 X1_1) | (have X1_2 := keep e2 (cell_al X1_1 _))); (first | (have X2_2 := keep e2 X2_1) | (have X2_2 := keep e2 (cell_al X2_1 _))); (first | (have X3_2 := keep e2 X3_1) | (have X3_2 := keep e2 (cell_al X3_1 _))); (first | (replace Z_hr00 := (Z_hr00).below e2) | (replace Z_hr00 := ((Z_hr00).alloc _).below e2)); (first | (replace Z_hr01 := (Z_hr01).below e2) | (replace Z_hr01 := ((Z_hr01).alloc _).below e2)); (first | (replace ow00 := (ow00).below e2) | (replace ow00 := ((ow00).alloc _).below e2)); (first | (replace ow01 := (ow01).below e2) | (replace ow01 := ((ow01).alloc _).below e2)); (try (replace V0_0 := Cl.below V0_0 e2; have V0_0c := V0_0.1; have V0_0f := V0_0.2; replace V0_1 := Cl.below V0_1 e2; have V0_1c := V0_1.1; have V0_1f := V0_1.2)); (try (have V1_0 : Cl d2 ⟨d1.heap.size, 0, none⟩ (.slice none 0 0) := Cl.below (Cl.new (w := d1) (cs := #[.slice none 0 0, .slice none 0 0]) (t := 29) (by first | rfl | simp) (by rfl)) e2; have V1_0c := V1_0.1; have V1_0f := V1_0.2; have V1_1 : Cl d2 ⟨d1.heap.size, 1, none⟩ (.slice none 0 0) := Cl.below (Cl.new (w := d1) (cs := #[.slice none 0 0, .slice none 0 0]) (t := 29) (by first | rfl | simp) (by rfl)) e2; have V1_1c := V1_1.1; have V1_1f := V1_1.2)); have y2 := e2.size; (try simp only [World.size_alloc, World.size_drew] at y2)) | (go_at_call 34; refine (HS.out _ _ _ _ _ ow00.rd ow01.rd hn00).mono ?_; rintro e d3 ⟨Aw0, cw0, Bw0, dw0, Tw00, Tw01, rfl, rw00, rw01, hTw00, hTw01, Dw01, e3⟩; (first | (have X0_3 := keep e3 X0_2) | (have X0_3 := keep e3 (cell_al X0_2 _))); (first | (have X1_3 := keep e3 X1_2) | (have X1_3 := keep e3 (cell_al X1_2 _))); (first | (have X2_3 := keep e3 X2_2) | (have X2_3 := keep e3 (cell_al X2_2 _))); (first | (have X3_3 := keep e3 X3_2) | (have X3_3 := keep e3 (cell_al X3_2 _))); (try (replace V0_0 := Cl.below V0_0 e3; have V0_0c := V0_0.1; have V0_0f := V0_0.2; replace V0_1 := Cl.below V0_1 e3; have V0_1c := V0_1.1; have V0_1f := V0_1.2)); (try (replace V1_0 := Cl.below V1_0 e3; have V1_0c := V1_0.1; have V1_0f := V1_0.2; replace V1_1 := Cl.below V1_1 e3; have V1_1c := V1_1.1; have V1_1f := V1_1.2)); (try (have V2_0 : Cl d3 ⟨d2.heap.size, 0, none⟩ (.slice none 0 0) := Cl.below (Cl.new (w := d2) (cs := #[.slice none 0 0, .slice none 0 0]) (t := 29) (by first | rfl | simp) (by rfl)) e3; have V2_0c := V2_0.1; have V2_0f := V2_0.2; have V2_1 : Cl d3 ⟨d2.heap.size, 1, none⟩ (.slice none 0 0) := Cl.below (Cl.new (w := d2) (cs := #[.slice none 0 0, .slice none 0 0]) (t := 29) (by first | rfl | simp) (by rfl)) e3; have V2_1c := V2_1.1; have V2_1f := V2_1.2)); have y3 := e3.size; (try simp only [World.size_alloc, World.size_drew] at y3)) | (go_at_call 34; refine (HS.out _ _ _ _ _ (ow00.alloc _).rd (ow01.alloc _).rd hn00).mono ?_; rintro e d3 ⟨Aw0, cw0, Bw0, dw0, Tw00, Tw01, rfl, rw00, rw01, hTw00, hTw01, Dw01, e3⟩; (first | (have X0_3 := keep e3 X0_2) | (have X0_3 := keep e3 (cell_al X0_2 _))); (first | (have X1_3 := keep e3 X1_2) | (have X1_3 := keep e3 (cell_al X1_2 _))); (first | (have X2_3 := keep e3 X2_2) | (have X2_3 := keep e3 (cell_al X2_2 _))); (first | (have X3_3 := keep e3 X3_2) | (have X3_3 := keep e3 (cell_al X3_2 _))); (try (replace V0_0 := Cl.below V0_0 e3; have V0_0c := V0_0.1; have V0_0f := V0_0.2; replace V0_1 := Cl.below V0_1 e3; have V0_1c := V0_1.1; have V0_1f := V0_1.2)); (try (replace V1_0 := Cl.below V1_0 e3; have V1_0c := V1_0.1; have V1_0f := V1_0.2; replace V1_1 := Cl.below V1_1 e3; have V1_1c := V1_1.1; have V1_1f := V1_1.2)); (try (have V2_0 : Cl d3 ⟨d2.heap.size, 0, none⟩ (.slice none 0 0) := Cl.below (Cl.new (w := d2) (cs := #[.slice none 0 0, .slice none 0 0]) (t := 29) (by first | rfl | simp) (by rfl)) e3; have V2_0c := V2_0.1; have V2_0f := V2_0.2; have V2_1 : Cl d3 ⟨d2.heap.size, 1, none⟩ (.slice none 0 0) := Cl.below (Cl.new (w := d2) (cs := #[.slice none 0 0, .slice none 0 0]) (t := 29) (by first | rfl | simp) (by rfl)) e3; have V2_1c := V2_1.1; have V2_1f := V2_1.2)); have y3 := e3.size; (try simp only [World.size_alloc, World.size_drew] at y3)) | fail)
    all_goals
      go_wp2_with fail
      go_meet
      case rel =>
        first
          | (refine ⟨m1.heap.size, d2.heap.size, d3.heap.size, Aw0, cw0, Bw0, dw0, Tw00, Tw01, rfl, rfl, ?_, ?_, ?_, ?_, ?_, ?_, ?_, Dw01, ?_, ?_, ?_, ?_, ?_⟩; (· ((repeat' (first | (with_reducible exact Below.refl _ _) | (with_reducible refine bel_alloc ?_ ?_ _) | (with_reducible refine Below.setCell ?_ ?_ _) | (with_reducible refine below_drewN ?_ _) | (with_reducible refine Below.drew ?_) | (with_reducible refine bel_step e1 ?_ ?_) | (with_reducible refine bel_step e2 ?_ ?_) | (with_reducible refine bel_step e3 ?_ ?_) | (with_reducible exact Nat.le_refl _) | (with_reducible assumption) | omega | (simp only [World.size_alloc, World.size_setCell, World.size_drew]; omega) | (simp; omega) | (simp; done))))); (· (first | exact ((V0_0.same (.slice Aw0 ys.length cw0)).other (q := ⟨m1.heap.size, 1, none⟩) (.slice Bw0 zs.length dw0) (by simp)).1 | (simp [go_sem] <;> done))); (· (first | exact ((V0_1.other (q := ⟨m1.heap.size, 0, none⟩) (.slice Aw0 ys.length cw0) (by simp)).same (.slice Bw0 zs.length dw0)).1 | (simp [go_sem] <;> done))); (· (repeat' (first | (with_reducible exact rw00) | (with_reducible refine Wr2.alloc ?_ _) | (with_reducible refine Wr.alloc ?_ _) | (with_reducible refine Wr2.setOut ?_ _ ?_) | (with_reducible refine Wr.setOut ?_ _ ?_) | (intro hq; first | (have := hTw00 _ hq; simp only [World.size_alloc, World.size_drew] at this; omega) | (have := hTw00 _ hq; omega) | (have := hTw01 _ hq; simp only [World.size_alloc, World.size_drew] at this; omega) | (have := hTw01 _ hq; omega))))); (· (repeat' (first | (with_reducible exact rw01) | (with_reducible refine Wr2.alloc ?_ _) | (with_reducible refine Wr.alloc ?_ _) | (with_reducible refine Wr2.setOut ?_ _ ?_) | (with_reducible refine Wr.setOut ?_ _ ?_) | (intro hq; first | (have := hTw00 _ hq; simp only [World.size_alloc, World.size_drew] at this; omega) | (have := hTw00 _ hq; omega) | (have := hTw01 _ hq; simp only [World.size_alloc, World.size_drew] at this; omega) | (have := hTw01 _ hq; omega))))); (· (intro b hb; have := hTw00 b hb; (try simp only [World.size_alloc, World.size_drew] at this); omega)); (· (intro b hb; have := hTw01 b hb; (try simp only [World.size_alloc, World.size_drew] at this); omega)); (· (first | omega | (simp <;> omega))); (· (first | omega | (simp <;> omega))); (· (first | omega | (simp <;> omega))); (· (first | omega | (simp <;> omega))); (· (first | omega | (simp <;> omega))))
          | (refine ⟨d1.heap.size, d2.heap.size, d3.heap.size, Aw0, cw0, Bw0, dw0, Tw00, Tw01, rfl, rfl, ?_, ?_, ?_, ?_, ?_, ?_, ?_, Dw01, ?_, ?_, ?_, ?_, ?_⟩; (· ((repeat' (first | (with_reducible exact Below.refl _ _) | (with_reducible refine bel_alloc ?_ ?_ _) | (with_reducible refine Below.setCell ?_ ?_ _) | (with_reducible refine below_drewN ?_ _) | (with_reducible refine Below.drew ?_) | (with_reducible refine bel_step e1 ?_ ?_) | (with_reducible refine bel_step e2 ?_ ?_) | (with_reducible refine bel_step e3 ?_ ?_) | (with_reducible exact Nat.le_refl _) | (with_reducible assumption) | omega | (simp only [World.size_alloc, World.size_setCell, World.size_drew]; omega) | (simp; omega) | (simp; done))))); (· (first | exact ((V1_0.same (.slice Aw0 ys.length cw0)).other (q := ⟨d1.heap.size, 1, none⟩) (.slice Bw0 zs.length dw0) (by simp)).1 | (simp [go_sem] <;> done))); (· (first | exact ((V1_1.other (q := ⟨d1.heap.size, 0, none⟩) (.slice Aw0 ys.length cw0) (by simp)).same (.slice Bw0 zs.length dw0)).1 | (simp [go_sem] <;> done))); (· (repeat' (first | (with_reducible exact rw00) | (with_reducible refine Wr2.alloc ?_ _) | (with_reducible refine Wr.alloc ?_ _) | (with_reducible refine Wr2.setOut ?_ _ ?_) | (with_reducible refine Wr.setOut ?_ _ ?_) | (intro hq; first | (have := hTw00 _ hq; simp only [World.size_alloc, World.size_drew] at this; omega) | (have := hTw00 _ hq; omega) | (have := hTw01 _ hq; simp only [World.size_alloc, World.size_drew] at this; omega) | (have := hTw01 _ hq; omega))))); (· (repeat' (first | (with_reducible exact rw01) | (with_reducible refine Wr2.alloc ?_ _) | (with_reducible refine Wr.alloc ?_ _) | (with_reducible refine Wr2.setOut ?_ _ ?_) | (with_reducible refine Wr.setOut ?_ _ ?_) | (intro hq; first | (have := hTw00 _ hq; simp only [World.size_alloc, World.size_drew] at this; omega) | (have := hTw00 _ hq; omega) | (have := hTw01 _ hq; simp only [World.size_alloc, World.size_drew] at this; omega) | (have := hTw01 _ hq; omega))))); (· (intro b hb; have := hTw00 b hb; (try simp only [World.size_alloc, World.size_drew] at this); omega)); (· (intro b hb; have := hTw01 b hb; (try simp only [World.size_alloc, World.size_drew] at this); omega)); (· (first | omega | (simp <;> omega))); (· (first | omega | (simp <;> omega))); (· (first | omega | (simp <;> omega))); (· (first | omega | (simp <;> omega))); (· (first | omega | (simp <;> omega))))
          | (refine ⟨d2.heap.size, d2.heap.size + 1, d3.heap.size, Aw0, cw0, Bw0, dw0, Tw00, Tw01, rfl, rfl, ?_, ?_, ?_, ?_, ?_, ?_, ?_, Dw01, ?_, ?_, ?_, ?_, ?_⟩; (· ((repeat' (first | (with_reducible exact Below.refl _ _) | (with_reducible refine bel_alloc ?_ ?_ _) | (with_reducible refine Below.setCell ?_ ?_ _) | (with_reducible refine below_drewN ?_ _) | (with_reducible refine Below.drew ?_) | (with_reducible refine bel_step e1 ?_ ?_) | (with_reducible refine bel_step e2 ?_ ?_) | (with_reducible refine bel_step e3 ?_ ?_) | (with_reducible exact Nat.le_refl _) | (with_reducible assumption) | omega | (simp only [World.size_alloc, World.size_setCell, World.size_drew]; omega) | (simp; omega) | (simp; done))))); (· (first | exact ((V2_0.same (.slice Aw0 ys.length cw0)).other (q := ⟨d2.heap.size, 1, none⟩) (.slice Bw0 zs.length dw0) (by simp)).1 | (simp [go_sem] <;> done))); (· (first | exact ((V2_1.other (q := ⟨d2.heap.size, 0, none⟩) (.slice Aw0 ys.length cw0) (by simp)).same (.slice Bw0 zs.length dw0)).1 | (simp [go_sem] <;> done))); (· (repeat' (first | (with_reducible exact rw00) | (with_reducible refine Wr2.alloc ?_ _) | (with_reducible refine Wr.alloc ?_ _) | (with_reducible refine Wr2.setOut ?_ _ ?_) | (with_reducible refine Wr.setOut ?_ _ ?_) | (intro hq; first | (have := hTw00 _ hq; simp only [World.size_alloc, World.size_drew] at this; omega) | (have := hTw00 _ hq; omega) | (have := hTw01 _ hq; simp only [World.size_alloc, World.size_drew] at this; omega) | (have := hTw01 _ hq; omega))))); (· (repeat' (first | (with_reducible exact rw01) | (with_reducible refine Wr2.alloc ?_ _) | (with_reducible refine Wr.alloc ?_ _) | (with_reducible refine Wr2.setOut ?_ _ ?_) | (with_reducible refine Wr.setOut ?_ _ ?_) | (intro hq; first | (have := hTw00 _ hq; simp only [World.size_alloc, World.size_drew] at this; omega) | (have := hTw00 _ hq; omega) | (have := hTw01 _ hq; simp only [World.size_alloc, World.size_drew] at this; omega) | (have := hTw01 _ hq; omega))))); (· (intro b hb; have := hTw00 b hb; (try simp only [World.size_alloc, World.size_drew] at this); omega)); (· (intro b hb; have := hTw01 b hb; (try simp only [World.size_alloc, World.size_drew] at this); omega)); (· (first | omega | (simp <;> omega))); (· (first | omega | (simp <;> omega))); (· (first | omega | (simp <;> omega))); (· (first | omega | (simp <;> omega))); (· (first | omega | (simp <;> omega))))
          | (refine ⟨d3.heap.size, d2.heap.size, d3.heap.size, Aw0, cw0, Bw0, dw0, Tw00, Tw01, rfl, rfl, ?_, ?_, ?_, ?_, ?_, ?_, ?_, Dw01, ?_, ?_, ?_, ?_, ?_⟩; (· ((repeat' (first | (with_reducible exact Below.refl _ _) | (with_reducible refine bel_alloc ?_ ?_ _) | (with_reducible refine Below.setCell ?_ ?_ _) | (with_reducible refine below_drewN ?_ _) | (with_reducible refine Below.drew ?_) | (with_reducible refine bel_step e1 ?_ ?_) | (with_reducible refine bel_step e2 ?_ ?_) | (with_reducible refine bel_step e3 ?_ ?_) | (with_reducible exact Nat.le_refl _) | (with_reducible assumption) | omega | (simp only [World.size_alloc, World.size_setCell, World.size_drew]; omega) | (simp; omega) | (simp; done))))); (· (first | exact by simp [go_sem] | (simp [go_sem] <;> done))); (· (first | exact by simp [go_sem] | (simp [go_sem] <;> done))); (· (repeat' (first | (with_reducible exact rw00) | (with_reducible refine Wr2.alloc ?_ _) | (with_reducible refine Wr.alloc ?_ _) | (with_reducible refine Wr2.setOut ?_ _ ?_) | (with_reducible refine Wr.setOut ?_ _ ?_) | (intro hq; first | (have := hTw00 _ hq; simp only [World.size_alloc, World.size_drew] at this; omega) | (have := hTw00 _ hq; omega) | (have := hTw01 _ hq; simp only [World.size_alloc, World.size_drew] at this; omega) | (have := hTw01 _ hq; omega))))); (· (repeat' (first | (with_reducible exact rw01) | (with_reducible refine Wr2.alloc ?_ _) | (with_reducible refine Wr.alloc ?_ _) | (with_reducible refine Wr2.setOut ?_ _ ?_) | (with_reducible refine Wr.setOut ?_ _ ?_) | (intro hq; first | (have := hTw00 _ hq; simp only [World.size_alloc, World.size_drew] at this; omega) | (have := hTw00 _ hq; omega) | (have := hTw01 _ hq; simp only [World.size_alloc, World.size_drew] at this; omega) | (have := hTw01 _ hq; omega))))); (· (intro b hb; have := hTw00 b hb; (try simp only [World.size_alloc, World.size_drew] at this); omega)); (· (intro b hb; have := hTw01 b hb; (try simp only [World.size_alloc, World.size_drew] at this); omega)); (· (first | omega | (simp <;> omega))); (· (first | omega | (simp <;> omega))); (· (first | omega | (simp <;> omega))); (· (first | omega | (simp <;> omega))); (· (first | omega | (simp <;> omega))))
  case rest =>
    obtain ⟨gvw, tlow, thiw, Aw0, cw0, Bw0, dw0, Tw00, Tw01, hs0, hs1, hbcw, bw00, bw01, rw00, rw01, hTw00, hTw01, Dw01, hgv1w, hgv2w, htlw, hthw, hgtw⟩ := hcut
    obtain ⟨m2, hwc⟩ : ∃ x, x = wc := ⟨_, rfl⟩
    subst hwc
    subst hs0 hs1
    replace hr00 := hr00.below hbcw
    replace hr01 := hr01.below hbcw
    replace a00 := keep hbcw a00
    replace a01 := keep hbcw a01
    replace a20 := keep hbcw a20
    replace a21 := keep hbcw a21
    have hz2 := hbcw.size
    try simp only [World.size_alloc, World.size_drew] at hz2
    have la00 := lt_of_cell' a00
    have la20 := lt_of_cell' a20
    have lbw00 := lt_of_cell' bw00
    go_wp2_with fail
    refine (toMail_w _ _ _ _ _ _ _ hr00 hr01 hn00).mono ?_
    rintro e m3 ⟨A0x, c0x, B0x, d0x, Sx00, Sx01, rfl, kx00, kx01, ox00, ox01, hSx00, hSx01, dx00, hb3⟩
    clear la00 la20 lbw00
    replace hr00 := hr00.below hb3
    replace hr01 := hr01.below hb3
    replace a00 := keep hb3 a00
    replace a01 := keep hb3 a01
    replace a20 := keep hb3 a20
    replace a21 := keep hb3 a21
    replace bw00 := keep hb3 bw00
    replace bw01 := keep hb3 bw01
    replace rw00 := rw00.below hb3
    replace rw01 := rw01.below hb3
    have hz3 := hb3.size
    try simp only [World.size_alloc, World.size_drew] at hz3
    replace hSx00 : ∀ b, Sx00 b → m2.heap.size + 0 ≤ b ∧ b < m3.heap.size := fun b hb => by have := hSx00 b hb; (try simp only [World.size_alloc, World.size_drew] at this); omega
    replace hSx01 : ∀ b, Sx01 b → m2.heap.size + 0 ≤ b ∧ b < m3.heap.size := fun b hb => by have := hSx01 b hb; (try simp only [World.size_alloc, World.size_drew] at this); omega
    have la00 := lt_of_cell' a00
    have la20 := lt_of_cell' a20
    have lbw00 := lt_of_cell' bw00
    go_wp2_with fail
    clear la00 la20 lbw00
    go_cut [11, 12] (fun s0 s1 W => ∃ (gv tlo thi : Nat) (Ag0 : Option Addr) (cg0 : Nat) (Bg0 : Option Addr) (dg0 : Nat) (Tg00 : Nat → Prop) (Tg01 : Nat → Prop), s0 = .pointer (some ⟨gv, 0, none⟩) ∧ s1 = .bool ok ∧ Below m3.heap.size m3 W ∧ W.cell? ⟨gv, 0, none⟩ = some (.slice Ag0 ys.length cg0) ∧ W.cell? ⟨gv, 1, none⟩ = some (.slice Bg0 zs.length dg0) ∧ W.cell? ⟨m3.heap.size, 0, none⟩ = some (.slice A0x x0.length c0x) ∧ W.cell? ⟨m3.heap.size, 1, none⟩ = some (.slice B0x y0.length d0x) ∧ Wr2 pv W Tg00 Ag0 ys ∧ Wr2 iv W Tg01 Bg0 zs ∧ (∀ b, Tg00 b → tlo ≤ b ∧ b < thi) ∧ (∀ b, Tg01 b → tlo ≤ b ∧ b < thi) ∧ (∀ b, Tg00 b → ¬ Tg01 b) ∧ m3.heap.size + 1 ≤ gv ∧ gv < W.heap.size ∧ m3.heap.size + 1 ≤ tlo ∧ thi ≤ W.heap.size ∧ (gv < tlo ∨ thi ≤ gv))
    case first =>
      have X0 : (World.drew (m3.alloc (.cells #[.slice A0x x0.length c0x, .slice B0x y0.length d0x] 29))).cell? ⟨w.heap.size + 1, 0, none⟩ = some (.int .i64 q20) := (cell_al a20 _)
      have X1 : (World.drew (m3.alloc (.cells #[.slice A0x x0.length c0x, .slice B0x y0.length d0x] 29))).cell? ⟨w.heap.size + 1, 1, none⟩ = some (.int .i64 q21) := (cell_al a21 _)
      have X2 : (World.drew (m3.alloc (.cells #[.slice A0x x0.length c0x, .slice B0x y0.length d0x] 29))).cell? ⟨m3.heap.size, 0, none⟩ = some (.slice A0x x0.length c0x) := by simp [go_sem]
      have X3 : (World.drew (m3.alloc (.cells #[.slice A0x x0.length c0x, .slice B0x y0.length d0x] 29))).cell? ⟨m3.heap.size, 1, none⟩ = some (.slice B0x y0.length d0x) := by simp [go_sem]
      have lX0 : w.heap.size + 1 < m3.heap.size + 1 := by
        have h := lt_of_cell' X0
        first | exact h | (simp only [World.size_alloc, World.size_drew] at h; omega)
      have lX2 : m3.heap.size < m3.heap.size + 1 := by
        have h := lt_of_cell' X2
        first | exact h | (simp only [World.size_alloc, World.size_drew] at h; omega)
      have Z_ox00 := ((ox00.alloc (.cells #[.slice A0x x0.length c0x, .slice B0x y0.length d0x] 29))).drew
      have Z_ox01 := ((ox01.alloc (.cells #[.slice A0x x0.length c0x, .slice B0x y0.length d0x] 29))).drew
      go_region_held3 (fun w' => w'.cell? ⟨w.heap.size + 1, 0, none⟩ = some (.int .i64 q20) ∧ w'.cell? ⟨w.heap.size + 1, 1, none⟩ = some (.int .i64 q21) ∧ w'.cell? ⟨m3.heap.size, 0, none⟩ = some (.slice A0x x0.length c0x) ∧ w'.cell? ⟨m3.heap.size, 1, none⟩ = some (.slice B0x y0.length d0x))
        (first | (with_reducible exact ⟨X0_2, X1_2, X2_2, X3_2⟩) | ((refine ⟨(set_other (set_other X0_2 ?_) ?_), (set_other (set_other X1_2 ?_) ?_), (set_other (set_other X2_2 ?_) ?_), (set_other (set_other X3_2 ?_) ?_)⟩); all_goals omega) | (with_reducible exact ⟨X0_1, X1_1, X2_1, X3_1⟩) | (with_reducible exact ⟨cell_al X0_2 _, cell_al X1_2 _, cell_al X2_2 _, cell_al X3_2 _⟩) | exact ⟨X0, X1, X2, X3⟩ | ((refine ⟨(set_other (set_other (cell_al X0_2 _) ?_) ?_), (set_other (set_other (cell_al X1_2 _) ?_) ?_), (set_other (set_other (cell_al X2_2 _) ?_) ?_), (set_other (set_other (cell_al X3_2 _) ?_) ?_)⟩); all_goals omega) | (with_reducible exact ⟨cell_al X0_1 _, cell_al X1_1 _, cell_al X2_1 _, cell_al X3_1 _⟩) | exact ⟨cell_al X0 _, cell_al X1 _, cell_al X2 _, cell_al X3 _⟩ | fail)
        (first | (go_at_call 35; refine (toPost_any _ _ _).mono ?_; rintro e d1 ⟨rfl, e1⟩; (first | (have X0_1 := keep e1 X0) | (have X0_1 := keep e1 (cell_al X0 _))); (first | (have X1_1 := keep e1 X1) | (have X1_1 := keep e1 (cell_al X1 _))); (first | (have X2_1 := keep e1 X2) | (have X2_1 := keep e1 (cell_al X2 _))); (first | (have X3_1 := keep e1 X3) | (have X3_1 := keep e1 (cell_al X3 _))); (first | (replace Z_ox00 := (Z_ox00).below e1) | (replace Z_ox00 := ((Z_ox00).alloc _).below e1)); (first | (replace Z_ox01 := (Z_ox01).below e1) | (replace Z_ox01 := ((Z_ox01).alloc _).below e1)); (try (have V0_0 : Cl d1 ⟨m3.heap.size + 1, 0, none⟩ (.slice none 0 0) := Cl.below (Cl.new (w := (World.drew (m3.alloc (.cells #[.slice A0x x0.length c0x, .slice B0x y0.length d0x] 29)))) (cs := #[.slice none 0 0, .slice none 0 0]) (t := 29) (by first | rfl | simp) (by rfl)) e1; have V0_0c := V0_0.1; have V0_0f := V0_0.2; have V0_1 : Cl d1 ⟨m3.heap.size + 1, 1, none⟩ (.slice none 0 0) := Cl.below (Cl.new (w := (World.drew (m3.alloc (.cells #[.slice A0x x0.length c0x, .slice B0x y0.length d0x] 29)))) (cs := #[.slice none 0 0, .slice none 0 0]) (t := 29) (by first | rfl | simp) (by rfl)) e1; have V0_1c := V0_1.1; have V0_1f := V0_1.2)); have y1 := e1.size; (try simp only [World.size_alloc, World.size_drew] at y1)) | (go_at_call 35; refine (toPost_any _ _ _).mono ?_; rintro e d1 ⟨rfl, e1⟩; (first | (have X0_1 := keep e1 X0) | (have X0_1 := keep e1 (cell_al X0 _))); (first | (have X1_1 := keep e1 X1) | (have X1_1 := keep e1 (cell_al X1 _))); (first | (have X2_1 := keep e1 X2) | (have X2_1 := keep e1 (cell_al X2 _))); (first | (have X3_1 := keep e1 X3) | (have X3_1 := keep e1 (cell_al X3 _))); (first | (replace Z_ox00 := (Z_ox00).below e1) | (replace Z_ox00 := ((Z_ox00).alloc _).below e1)); (first | (replace Z_ox01 := (Z_ox01).below e1) | (replace Z_ox01 := ((Z_ox01).alloc _).below e1)); (try (have V0_0 : Cl d1 ⟨m3.heap.size + 1, 0, none⟩ (.slice none 0 0) := Cl.below (Cl.new (w := (World.drew (m3.alloc (.cells #[.slice A0x x0.length c0x, .slice B0x y0.length d0x] 29)))) (cs := #[.slice none 0 0, .slice none 0 0]) (t := 29) (by first | rfl | simp) (by rfl)) e1; have V0_0c := V0_0.1; have V0_0f := V0_0.2; have V0_1 : Cl d1 ⟨m3.heap.size + 1, 1, none⟩ (.slice none 0 0) := Cl.below (Cl.new (w := (World.drew (m3.alloc (.cells #[.slice A0x x0.length c0x, .slice B0x y0.length d0x] 29)))) (cs := #[.slice none 0 0, .slice none 0 0]) (t := 29) (by first | rfl | simp) (by rfl)) e1; have V0_1c := V0_1.1; have V0_1f := V0_1.2)); have y1 := e1.size; (try simp only [World.size_alloc, World.size_drew] at y1)) | (go_at_call 14; refine (HI.out _ _ _ _ _ Z_ox00.rd Z_ox01.rd hn00).mono ?_; rintro e d2 ⟨Ag0, cg0, Bg0, dg0, Tg00, Tg01, rfl, rg00, rg01, hTg00, hTg01, Dg01, e2⟩; (first | (have X0_2 := keep e2 X0_1) | (have X0_2 := keep e2 (cell_al X0_1 _))); (first | (have X1_2 := keep e2 X1_1) | (have X1_2 := keep e2 (cell_al X1_1 _))); (first | (have X2_2 := keep e2 X2_1) | (have X2_2 := keep e2 (cell_al X2_1 _))); (first | (have X3_2 := keep e2 X3_1) | (have X3_2 := keep e2 (cell_al X3_1 _))); (try (replace V0_0 := Cl.below V0_0 e2; have V0_0c := V0_0.1; have V0_0f := V0_0.2; replace V0_1 := Cl.below V0_1 e2; have V0_1c := V0_1.1; have V0_1f := V0_1.2)); (try (have V1_0 : Cl d2 ⟨d1.heap.size, 0, none⟩ (.slice none 0 0) := Cl.below (Cl.new (w := d1) (cs := #[.slice none 0 0, .slice none 0 0]) (t := 29) (by first | rfl | simp) (by rfl)) e2; have V1_0c := V1_0.1; have V1_0f := V1_0.2; have V1_1 : Cl d2 ⟨d1.heap.size, 1, none⟩ (.slice none 0 0) := Cl.below (Cl.new (w := d1) (cs := #[.slice none 0 0, .slice none 0 0]) (t := 29) (by first | rfl | simp) (by rfl)) e2; have V1_1c := V1_1.1; have V1_1f := V1_1.2)); have y2 := e2.size; (try simp only [World.size_alloc, World.size_drew] at y2)) | (go_at_call 14; refine (HI.out _ _ _ _ _ (Z_ox00.alloc _).rd (Z_ox01.alloc _).rd hn00).mono ?_; rintro e d2 ⟨Ag0, cg0, Bg0, dg0, Tg00, Tg01, rfl, rg00, rg01, hTg00, hTg01, Dg01, e2⟩; (first | (have X0_2 := keep e2 X0_1) | (have X0_2 := keep e2 (cell_al X0_1 _))); (first | (have X1_2 := keep e2 X1_1) | (have X1_2 := keep e2 (cell_al X1_1 _))); (first | (have X2_2 := keep e2 X2_1) | (have X2_2 := keep e2 (cell_al X2_1 _))); (first | (have X3_2 := keep e2 X3_1) | (have X3_2 := keep e2 (cell_al X3_1 _))); (try (replace V0_0 := Cl.below V0_0 e2; have V0_0c := V0_0.1; have V0_0f := V0_0.2; replace V0_1 := Cl.below V0_1 e2; have V0_1c := V0_1.1; have V0_1f := V0_1.2)); (try (have V1_0 : Cl d2 ⟨d1.heap.size, 0, none⟩ (.slice none 0 0) := Cl.below (Cl.new (w := d1) (cs := #[.slice none 0 0, .slice none 0 0]) (t := 29) (by first | rfl | simp) (by rfl)) e2; have V1_0c := V1_0.1; have V1_0f := V1_0.2; have V1_1 : Cl d2 ⟨d1.heap.size, 1, none⟩ (.slice none 0 0) := Cl.below (Cl.new (w := d1) (cs := #[.slice none 0 0, .slice none 0 0]) (t := 29) (by first | rfl | simp) (by rfl)) e2; have V1_1c := V1_1.1; have V1_1f := V1_1.2)); have y2 := e2.size; (try simp only [World.size_alloc, World.size_drew] at y2)) | fail)
      all_goals
        go_wp2_with fail
        go_meet
        case rel =>
          first
            | (refine ⟨m3.heap.size + 1, d1.heap.size, d2.heap.size, Ag0, cg0, Bg0, dg0, Tg00, Tg01, rfl, rfl, ?_, ?_, ?_, ?_, ?_, ?_, ?_, ?_, ?_, Dg01, ?_, ?_, ?_, ?_, ?_⟩; (· ((repeat' (first | (with_reducible exact Below.refl _ _) | (with_reducible refine bel_alloc ?_ ?_ _) | (with_reducible refine Below.setCell ?_ ?_ _) | (with_reducible refine below_drewN ?_ _) | (with_reducible refine Below.drew ?_) | (with_reducible refine bel_step e1 ?_ ?_) | (with_reducible refine bel_step e2 ?_ ?_) | (with_reducible exact Nat.le_refl _) | (with_reducible assumption) | omega | (simp only [World.size_alloc, World.size_setCell, World.size_drew]; omega) | (simp; omega) | (simp; done))))); (· (first | exact ((V0_0.same (.slice Ag0 ys.length cg0)).other (q := ⟨m3.heap.size + 1, 1, none⟩) (.slice Bg0 zs.length dg0) (by simp)).1 | (simp [go_sem] <;> done))); (· (first | exact ((V0_1.other (q := ⟨m3.heap.size + 1, 0, none⟩) (.slice Ag0 ys.length cg0) (by simp)).same (.slice Bg0 zs.length dg0)).1 | (simp [go_sem] <;> done))); (· (first | exact X2_2 | exact cell_al X2_2 _ | (refine set_other (set_other X2_2 ?_) ?_ <;> omega) | (refine set_other X2_2 ?_ <;> omega))); (· (first | exact X3_2 | exact cell_al X3_2 _ | (refine set_other (set_other X3_2 ?_) ?_ <;> omega) | (refine set_other X3_2 ?_ <;> omega))); (· (repeat' (first | (with_reducible exact rg00) | (with_reducible refine Wr2.alloc ?_ _) | (with_reducible refine Wr.alloc ?_ _) | (with_reducible refine Wr2.setOut ?_ _ ?_) | (with_reducible refine Wr.setOut ?_ _ ?_) | (intro hq; first | (have := hTg00 _ hq; simp only [World.size_alloc, World.size_drew] at this; omega) | (have := hTg00 _ hq; omega) | (have := hTg01 _ hq; simp only [World.size_alloc, World.size_drew] at this; omega) | (have := hTg01 _ hq; omega))))); (· (repeat' (first | (with_reducible exact rg01) | (with_reducible refine Wr2.alloc ?_ _) | (with_reducible refine Wr.alloc ?_ _) | (with_reducible refine Wr2.setOut ?_ _ ?_) | (with_reducible refine Wr.setOut ?_ _ ?_) | (intro hq; first | (have := hTg00 _ hq; simp only [World.size_alloc, World.size_drew] at this; omega) | (have := hTg00 _ hq; omega) | (have := hTg01 _ hq; simp only [World.size_alloc, World.size_drew] at this; omega) | (have := hTg01 _ hq; omega))))); (· (intro b hb; have := hTg00 b hb; (try simp only [World.size_alloc, World.size_drew] at this); omega)); (· (intro b hb; have := hTg01 b hb; (try simp only [World.size_alloc, World.size_drew] at this); omega)); (· (first | omega | (simp <;> omega))); (· (first | omega | (simp <;> omega))); (· (first | omega | (simp <;> omega))); (· (first | omega | (simp <;> omega))); (· (first | omega | (simp <;> omega))))
            | (refine ⟨d1.heap.size, d1.heap.size + 1, d2.heap.size, Ag0, cg0, Bg0, dg0, Tg00, Tg01, rfl, rfl, ?_, ?_, ?_, ?_, ?_, ?_, ?_, ?_, ?_, Dg01, ?_, ?_, ?_, ?_, ?_⟩; (· ((repeat' (first | (with_reducible exact Below.refl _ _) | (with_reducible refine bel_alloc ?_ ?_ _) | (with_reducible refine Below.setCell ?_ ?_ _) | (with_reducible refine below_drewN ?_ _) | (with_reducible refine Below.drew ?_) | (with_reducible refine bel_step e1 ?_ ?_) | (with_reducible refine bel_step e2 ?_ ?_) | (with_reducible exact Nat.le_refl _) | (with_reducible assumption) | omega | (simp only [World.size_alloc, World.size_setCell, World.size_drew]; omega) | (simp; omega) | (simp; done))))); (· (first | exact ((V1_0.same (.slice Ag0 ys.length cg0)).other (q := ⟨d1.heap.size, 1, none⟩) (.slice Bg0 zs.length dg0) (by simp)).1 | (simp [go_sem] <;> done))); (· (first | exact ((V1_1.other (q := ⟨d1.heap.size, 0, none⟩) (.slice Ag0 ys.length cg0) (by simp)).same (.slice Bg0 zs.length dg0)).1 | (simp [go_sem] <;> done))); (· (first | exact X2_2 | exact cell_al X2_2 _ | (refine set_other (set_other X2_2 ?_) ?_ <;> omega) | (refine set_other X2_2 ?_ <;> omega))); (· (first | exact X3_2 | exact cell_al X3_2 _ | (refine set_other (set_other X3_2 ?_) ?_ <;> omega) | (refine set_other X3_2 ?_ <;> omega))); (· (repeat' (first | (with_reducible exact rg00) | (with_reducible refine Wr2.alloc ?_ _) | (with_reducible refine Wr.alloc ?_ _) | (with_reducible refine Wr2.setOut ?_ _ ?_) | (with_reducible refine Wr.setOut ?_ _ ?_) | (intro hq; first | (have := hTg00 _ hq; simp only [World.size_alloc, World.size_drew] at this; omega) | (have := hTg00 _ hq; omega) | (have := hTg01 _ hq; simp only [World.size_alloc, World.size_drew] at this; omega) | (have := hTg01 _ hq; omega))))); (· (repeat' (first | (with_reducible exact rg01) | (with_reducible refine Wr2.alloc ?_ _) | (with_reducible refine Wr.alloc ?_ _) | (with_reducible refine Wr2.setOut ?_ _ ?_) | (with_reducible refine Wr.setOut ?_ _ ?_) | (intro hq; first | (have := hTg00 _ hq; simp only [World.size_alloc, World.size_drew] at this; omega) | (have := hTg00 _ hq; omega) | (have := hTg01 _ hq; simp only [World.size_alloc, World.size_drew] at this; omega) | (have := hTg01 _ hq; omega))))); (· (intro b hb; have := hTg00 b hb; (try simp only [World.size_alloc, World.size_drew] at this); omega)); (· (intro b hb; have := hTg01 b hb; (try simp only [World.size_alloc, World.size_drew] at this); omega)); (· (first | omega | (simp <;> omega))); (· (first | omega | (simp <;> omega))); (· (first | omega | (simp <;> omega))); (· (first | omega | (simp <;> omega))); (· (first | omega | (simp <;> omega))))
            | (refine ⟨d2.heap.size, d1.heap.size, d2.heap.size, Ag0, cg0, Bg0, dg0, Tg00, Tg01, rfl, rfl, ?_, ?_, ?_, ?_, ?_, ?_, ?_, ?_, ?_, Dg01, ?_, ?_, ?_, ?_, ?_⟩; (· ((repeat' (first | (with_reducible exact Below.refl _ _) | (with_reducible refine bel_alloc ?_ ?_ _) | (with_reducible refine Below.setCell ?_ ?_ _) | (with_reducible refine below_drewN ?_ _) | (with_reducible refine Below.drew ?_) | (with_reducible refine bel_step e1 ?_ ?_) | (with_reducible refine bel_step e2 ?_ ?_) | (with_reducible exact Nat.le_refl _) | (with_reducible assumption) | omega | (simp only [World.size_alloc, World.size_setCell, World.size_drew]; omega) | (simp; omega) | (simp; done))))); (· (first | exact by simp [go_sem] | (simp [go_sem] <;> done))); (· (first | exact by simp [go_sem] | (simp [go_sem] <;> done))); (· (first | exact X2_2 | exact cell_al X2_2 _ | (refine set_other (set_other X2_2 ?_) ?_ <;> omega) | (refine set_other X2_2 ?_ <;> omega))); (· (first | exact X3_2 | exact cell_al X3_2 _ | (refine set_other (set_other X3_2 ?_) ?_ <;> omega) | (refine set_other X3_2 ?_ <;> omega))); (· (repeat' (first | (with_reducible exact rg00) | (with_reducible refine Wr2.alloc ?_ _) | (with_reducible refine Wr.alloc ?_ _) | (with_reducible refine Wr2.setOut ?_ _ ?_) | (with_reducible refine Wr.setOut ?_ _ ?_) | (intro hq; first | (have := hTg00 _ hq; simp only [World.size_alloc, World.size_drew] at this; omega) | (have := hTg00 _ hq; omega) | (have := hTg01 _ hq; simp only [World.size_alloc, World.size_drew] at this; omega) | (have := hTg01 _ hq; omega))))); (· (repeat' (first | (with_reducible exact rg01) | (with_reducible refine Wr2.alloc ?_ _) | (with_reducible refine Wr.alloc ?_ _) | (with_reducible refine Wr2.setOut ?_ _ ?_) | (with_reducible refine Wr.setOut ?_ _ ?_) | (intro hq; first | (have := hTg00 _ hq; simp only [World.size_alloc, World.size_drew] at this; omega) | (have := hTg00 _ hq; omega) | (have := hTg01 _ hq; simp only [World.size_alloc, World.size_drew] at this; omega) | (have := hTg01 _ hq; omega))))); (· (intro b hb; have := hTg00 b hb; (try simp only [World.size_alloc, World.size_drew] at this); omega)); (· (intro b hb; have := hTg01 b hb; (try simp only [World.size_alloc, World.size_drew] at this); omega)); (· (first | omega | (simp <;> omega))); (· (first | omega | (simp <;> omega))); (· (first | omega | (simp <;> omega))); (· (first | omega | (simp <;> omega))); (· (first | omega | (simp <;> omega))))
    case rest =>
      obtain ⟨gvg, tlog, thig, Ag0, cg0, Bg0, dg0, Tg00, Tg01, hs0, hs1, hbcg, bg00, bg01, x00, x01, rg00, rg01, hTg00, hTg01, Dg01, hgv1g, hgv2g, htlg, hthg, hgtg⟩ := hcut
      obtain ⟨m4, hwc⟩ : ∃ x, x = wc := ⟨_, rfl⟩
      subst hwc
      subst hs0 hs1
      replace hr00 := hr00.below hbcg
      replace hr01 := hr01.below hbcg
      replace a00 := keep hbcg a00
      replace a01 := keep hbcg a01
      replace a20 := keep hbcg a20
      replace a21 := keep hbcg a21
      replace bw00 := keep hbcg bw00
      replace bw01 := keep hbcg bw01
      replace rw00 := rw00.below hbcg
      replace rw01 := rw01.below hbcg
      replace ox00 := ox00.below hbcg
      replace ox01 := ox01.below hbcg
      have hz4 := hbcg.size
      try simp only [World.size_alloc, World.size_drew] at hz4
      have la00 := lt_of_cell' a00
      have la20 := lt_of_cell' a20
      have lbw00 := lt_of_cell' bw00
      have lbg00 := lt_of_cell' bg00
      have lx00 := lt_of_cell' x00
      go_wp2_with fail
      refine (eqMail_same _ _ _ _ _ _ _ _ _ _ _ rg00.rd rw00.rd rg01.rd rw01.rd hyA).mono ?_
      rintro e m5 ⟨rfl, hb5⟩
      clear la00 la20 lbw00 lbg00 lx00
      replace hr00 := hr00.below hb5
      replace hr01 := hr01.below hb5
      replace a00 := keep hb5 a00
      replace a01 := keep hb5 a01
      replace a20 := keep hb5 a20
      replace a21 := keep hb5 a21
      replace bw00 := keep hb5 bw00
      replace bw01 := keep hb5 bw01
      replace rw00 := rw00.below hb5
      replace rw01 := rw01.below hb5
      replace ox00 := ox00.below hb5
      replace ox01 := ox01.below hb5
      replace bg00 := keep hb5 bg00
      replace bg01 := keep hb5 bg01
      replace x00 := keep hb5 x00
      replace x01 := keep hb5 x01
      replace rg00 := rg00.below hb5
      replace rg01 := rg01.below hb5
      have hz5 := hb5.size
      try simp only [World.size_alloc, World.size_drew] at hz5
      have la00 := lt_of_cell' a00
      have la20 := lt_of_cell' a20
      have lbw00 := lt_of_cell' bw00
      have lbg00 := lt_of_cell' bg00
      have lx00 := lt_of_cell' x00
      go_wp2_with fail
      clear la00 la20 lbw00 lbg00 lx00
      replace hr00 := hr00.drew
      replace hr01 := hr01.drew
      replace a00 := (show World.cell? (World.drew _) _ = _ from a00)
      replace a01 := (show World.cell? (World.drew _) _ = _ from a01)
      replace a20 := (show World.cell? (World.drew _) _ = _ from a20)
      replace a21 := (show World.cell? (World.drew _) _ = _ from a21)
      replace bw00 := (show World.cell? (World.drew _) _ = _ from bw00)
      replace bw01 := (show World.cell? (World.drew _) _ = _ from bw01)
      replace rw00 := rw00.drew
      replace rw01 := rw01.drew
      replace ox00 := ox00.drew
      replace ox01 := ox01.drew
      replace bg00 := (show World.cell? (World.drew _) _ = _ from bg00)
      replace bg01 := (show World.cell? (World.drew _) _ = _ from bg01)
      replace x00 := (show World.cell? (World.drew _) _ = _ from x00)
      replace x01 := (show World.cell? (World.drew _) _ = _ from x01)
      replace rg00 := rg00.drew
      replace rg01 := rg01.drew
      go_region_held3 (fun w' => w'.cell? ⟨w.heap.size, 0, none⟩ = some (.slice A0 x0.length c0) ∧ w'.cell? ⟨w.heap.size, 1, none⟩ = some (.slice B0 y0.length d0) ∧ w'.cell? ⟨m3.heap.size, 0, none⟩ = some (.slice A0x x0.length c0x) ∧ w'.cell? ⟨m3.heap.size, 1, none⟩ = some (.slice B0x y0.length d0x)) (first | go_keep | exact ⟨(keep hb6 a00), (keep hb6 a01), (keep hb6 x00), (keep hb6 x01)⟩ | exact ⟨(keep hb7 (keep hb6 a00)), (keep hb7 (keep hb6 a01)), (keep hb7 (keep hb6 x00)), (keep hb7 (keep hb6 x01))⟩)
        (first | (go_at_call 23; refine (toMail_w _ _ _ _ _ _ _ hr00 hr01 hn00).mono ?_; rintro e m6 ⟨A0y0, c0y0, B0y0, d0y0, Sy000, Sy001, rfl, ky000, ky001, oy000, oy001, hSy000, hSy001, dy000, hb6⟩) | (go_at_call 18; refine (eqMail_same _ _ _ _ _ _ _ _ _ _ _ (ox00.below hb6).rd oy000.rd (ox01.below hb6).rd oy001.rd hn00).mono ?_; rintro e m7 ⟨rfl, hb7⟩))
      replace hr00 := ((hr00.below hb6).below hb7)
      replace hr01 := ((hr01.below hb6).below hb7)
      replace a00 := (keep hb7 (keep hb6 a00))
      replace a01 := (keep hb7 (keep hb6 a01))
      replace a20 := (keep hb7 (keep hb6 a20))
      replace a21 := (keep hb7 (keep hb6 a21))
      replace bw00 := (keep hb7 (keep hb6 bw00))
      replace bw01 := (keep hb7 (keep hb6 bw01))
      replace rw00 := ((rw00.below hb6).below hb7)
      replace rw01 := ((rw01.below hb6).below hb7)
      replace ox00 := ((ox00.below hb6).below hb7)
      replace ox01 := ((ox01.below hb6).below hb7)
      replace bg00 := (keep hb7 (keep hb6 bg00))
      replace bg01 := (keep hb7 (keep hb6 bg01))
      replace x00 := (keep hb7 (keep hb6 x00))
      replace x01 := (keep hb7 (keep hb6 x01))
      replace rg00 := ((rg00.below hb6).below hb7)
      replace rg01 := ((rg01.below hb6).below hb7)
      have hz6 := hb6.size
      try simp only [World.size_alloc, World.size_drew] at hz6
      replace hSy000 : ∀ b, Sy000 b → m5.heap.size + 0 ≤ b ∧ b < m6.heap.size := fun b hb => by have := hSy000 b hb; (try simp only [World.size_alloc, World.size_drew] at this); omega
      replace hSy001 : ∀ b, Sy001 b → m5.heap.size + 0 ≤ b ∧ b < m6.heap.size := fun b hb => by have := hSy001 b hb; (try simp only [World.size_alloc, World.size_drew] at this); omega
      have hz7 := hb7.size
      try simp only [World.size_alloc, World.size_drew] at hz7
      have la00 := lt_of_cell' a00
      have la20 := lt_of_cell' a20
      have lbw00 := lt_of_cell' bw00
      have lbg00 := lt_of_cell' bg00
      have lx00 := lt_of_cell' x00
      go_wp2_with fail
      refine (markMail_c _ _ _ _ _ _ _ _ ox00 ox01 dx00 hn00 (by omega) (by omega) (fun b hb => by have := hSx00 b hb; omega) (fun b hb => by have := hSx01 b hb; omega)).mono ?_
      rintro e m8 ⟨rfl, nox00, nox01, ho8⟩
      have hz8 := ho8.size
      try simp only [World.size_alloc, World.size_drew] at hz8
      clear la00 la20 lbw00 lbg00 lx00
      have hl8 : ∀ b, (fun b => Sx00 b ∨ Sx01 b) b → w.heap.size ≤ b := fun b hb => by rcases hb with hb | hb <;> first | (have := hSx00 b hb; omega) | (have := hSx01 b hb; omega)
      replace hr00 := hr00.outS ho8 hl8
      replace hr01 := hr01.outS ho8 hl8
      replace a00 := ho8.cell a00 (fun hb => by rcases hb with hb | hb <;> first | (have := hSx00 _ hb; first | omega | (dsimp only at this; omega) | (simp at this; omega)) | (have := hSx01 _ hb; first | omega | (dsimp only at this; omega) | (simp at this; omega)))
      replace a01 := ho8.cell a01 (fun hb => by rcases hb with hb | hb <;> first | (have := hSx00 _ hb; first | omega | (dsimp only at this; omega) | (simp at this; omega)) | (have := hSx01 _ hb; first | omega | (dsimp only at this; omega) | (simp at this; omega)))
      replace a20 := ho8.cell a20 (fun hb => by rcases hb with hb | hb <;> first | (have := hSx00 _ hb; first | omega | (dsimp only at this; omega) | (simp at this; omega)) | (have := hSx01 _ hb; first | omega | (dsimp only at this; omega) | (simp at this; omega)))
      replace a21 := ho8.cell a21 (fun hb => by rcases hb with hb | hb <;> first | (have := hSx00 _ hb; first | omega | (dsimp only at this; omega) | (simp at this; omega)) | (have := hSx01 _ hb; first | omega | (dsimp only at this; omega) | (simp at this; omega)))
      replace bw00 := ho8.cell bw00 (fun hb => by rcases hb with hb | hb <;> first | (have := hSx00 _ hb; first | omega | (dsimp only at this; omega) | (simp at this; omega)) | (have := hSx01 _ hb; first | omega | (dsimp only at this; omega) | (simp at this; omega)))
      replace bw01 := ho8.cell bw01 (fun hb => by rcases hb with hb | hb <;> first | (have := hSx00 _ hb; first | omega | (dsimp only at this; omega) | (simp at this; omega)) | (have := hSx01 _ hb; first | omega | (dsimp only at this; omega) | (simp at this; omega)))
      replace rw00 := rw00.outS ho8 (fun b hb hx => by rcases hx with hx | hx <;> first | (have h1 := hTw00 b hb; have h2 := hSx00 b hx; omega) | (have h1 := hTw00 b hb; have h2 := hSx01 b hx; omega))
      replace rw01 := rw01.outS ho8 (fun b hb hx => by rcases hx with hx | hx <;> first | (have h1 := hTw01 b hb; have h2 := hSx00 b hx; omega) | (have h1 := hTw01 b hb; have h2 := hSx01 b hx; omega))
      replace bg00 := ho8.cell bg00 (fun hb => by rcases hb with hb | hb <;> first | (have := hSx00 _ hb; first | omega | (dsimp only at this; omega) | (simp at this; omega)) | (have := hSx01 _ hb; first | omega | (dsimp only at this; omega) | (simp at this; omega)))
      replace bg01 := ho8.cell bg01 (fun hb => by rcases hb with hb | hb <;> first | (have := hSx00 _ hb; first | omega | (dsimp only at this; omega) | (simp at this; omega)) | (have := hSx01 _ hb; first | omega | (dsimp only at this; omega) | (simp at this; omega)))
      replace x00 := ho8.cell x00 (fun hb => by rcases hb with hb | hb <;> first | (have := hSx00 _ hb; first | omega | (dsimp only at this; omega) | (simp at this; omega)) | (have := hSx01 _ hb; first | omega | (dsimp only at this; omega) | (simp at this; omega)))
      replace x01 := ho8.cell x01 (fun hb => by rcases hb with hb | hb <;> first | (have := hSx00 _ hb; first | omega | (dsimp only at this; omega) | (simp at this; omega)) | (have := hSx01 _ hb; first | omega | (dsimp only at this; omega) | (simp at this; omega)))
      replace rg00 := rg00.outS ho8 (fun b hb hx => by rcases hx with hx | hx <;> first | (have h1 := hTg00 b hb; have h2 := hSx00 b hx; omega) | (have h1 := hTg00 b hb; have h2 := hSx01 b hx; omega))
      replace rg01 := rg01.outS ho8 (fun b hb hx => by rcases hx with hx | hx <;> first | (have h1 := hTg01 b hb; have h2 := hSx00 b hx; omega) | (have h1 := hTg01 b hb; have h2 := hSx01 b hx; omega))
      clear ox00
      clear ox01
      have la00 := lt_of_cell' a00
      have la20 := lt_of_cell' a20
      have lbw00 := lt_of_cell' bw00
      have lbg00 := lt_of_cell' bg00
      have lx00 := lt_of_cell' x00
      go_wp2_with fail
      refine (eqMail_same _ _ _ _ _ _ _ _ _ _ _ rg00.rd rw00.rd rg01.rd rw01.rd hyA).mono ?_
      rintro e m9 ⟨rfl, hb9⟩
      clear la00 la20 lbw00 lbg00 lx00
      replace hr00 := hr00.below hb9
      replace hr01 := hr01.below hb9
      replace a00 := keep hb9 a00
      replace a01 := keep hb9 a01
      replace a20 := keep hb9 a20
      replace a21 := keep hb9 a21
      replace bw00 := keep hb9 bw00
      replace bw01 := keep hb9 bw01
      replace rw00 := rw00.below hb9
      replace rw01 := rw01.below hb9
      replace bg00 := keep hb9 bg00
      replace bg01 := keep hb9 bg01
      replace x00 := keep hb9 x00
      replace x01 := keep hb9 x01
      replace rg00 := rg00.below hb9
      replace rg01 := rg01.below hb9
      have hz9 := hb9.size
      try simp only [World.size_alloc, World.size_drew] at hz9
      have la00 := lt_of_cell' a00
      have la20 := lt_of_cell' a20
      have lbw00 := lt_of_cell' bw00
      have lbg00 := lt_of_cell' bg00
      have lx00 := lt_of_cell' x00
      go_wp2_with fail
      refine (markMail_any _ _ _ _ _ _ _ _ rg00 rg01 Dg01 hyA (by omega) (by omega) (fun b hb => by have := hTg00 b hb; omega) (fun b hb => by have := hTg01 b hb; omega)).mono ?_
      rintro e m10 ⟨rfl, nrg00, nrg01, ho10⟩
      have hz10 := ho10.size
      try simp only [World.size_alloc, World.size_drew] at hz10
      clear la00 la20 lbw00 lbg00 lx00
      have hl10 : ∀ b, (fun b => Tg00 b ∨ Tg01 b) b → w.heap.size ≤ b := fun b hb => by rcases hb with hb | hb <;> first | (have := hTg00 b hb; omega) | (have := hTg01 b hb; omega)
      replace hr00 := hr00.outS ho10 hl10
      replace hr01 := hr01.outS ho10 hl10
      replace a00 := ho10.cell a00 (fun hb => by rcases hb with hb | hb <;> first | (have := hTg00 _ hb; first | omega | (dsimp only at this; omega) | (simp at this; omega)) | (have := hTg01 _ hb; first | omega | (dsimp only at this; omega) | (simp at this; omega)))
      replace a01 := ho10.cell a01 (fun hb => by rcases hb with hb | hb <;> first | (have := hTg00 _ hb; first | omega | (dsimp only at this; omega) | (simp at this; omega)) | (have := hTg01 _ hb; first | omega | (dsimp only at this; omega) | (simp at this; omega)))
      replace a20 := ho10.cell a20 (fun hb => by rcases hb with hb | hb <;> first | (have := hTg00 _ hb; first | omega | (dsimp only at this; omega) | (simp at this; omega)) | (have := hTg01 _ hb; first | omega | (dsimp only at this; omega) | (simp at this; omega)))
      replace a21 := ho10.cell a21 (fun hb => by rcases hb with hb | hb <;> first | (have := hTg00 _ hb; first | omega | (dsimp only at this; omega) | (simp at this; omega)) | (have := hTg01 _ hb; first | omega | (dsimp only at this; omega) | (simp at this; omega)))
      replace bw00 := ho10.cell bw00 (fun hb => by rcases hb with hb | hb <;> first | (have := hTg00 _ hb; first | omega | (dsimp only at this; omega) | (simp at this; omega)) | (have := hTg01 _ hb; first | omega | (dsimp only at this; omega) | (simp at this; omega)))
      replace bw01 := ho10.cell bw01 (fun hb => by rcases hb with hb | hb <;> first | (have := hTg00 _ hb; first | omega | (dsimp only at this; omega) | (simp at this; omega)) | (have := hTg01 _ hb; first | omega | (dsimp only at this; omega) | (simp at this; omega)))
      replace rw00 := rw00.outS ho10 (fun b hb hx => by rcases hx with hx | hx <;> first | (have h1 := hTw00 b hb; have h2 := hTg00 b hx; omega) | (have h1 := hTw00 b hb; have h2 := hTg01 b hx; omega))
      replace rw01 := rw01.outS ho10 (fun b hb hx => by rcases hx with hx | hx <;> first | (have h1 := hTw01 b hb; have h2 := hTg00 b hx; omega) | (have h1 := hTw01 b hb; have h2 := hTg01 b hx; omega))
      replace bg00 := ho10.cell bg00 (fun hb => by rcases hb with hb | hb <;> first | (have := hTg00 _ hb; first | omega | (dsimp only at this; omega) | (simp at this; omega)) | (have := hTg01 _ hb; first | omega | (dsimp only at this; omega) | (simp at this; omega)))
      replace bg01 := ho10.cell bg01 (fun hb => by rcases hb with hb | hb <;> first | (have := hTg00 _ hb; first | omega | (dsimp only at this; omega) | (simp at this; omega)) | (have := hTg01 _ hb; first | omega | (dsimp only at this; omega) | (simp at this; omega)))
      replace x00 := ho10.cell x00 (fun hb => by rcases hb with hb | hb <;> first | (have := hTg00 _ hb; first | omega | (dsimp only at this; omega) | (simp at this; omega)) | (have := hTg01 _ hb; first | omega | (dsimp only at this; omega) | (simp at this; omega)))
      replace x01 := ho10.cell x01 (fun hb => by rcases hb with hb | hb <;> first | (have := hTg00 _ hb; first | omega | (dsimp only at this; omega) | (simp at this; omega)) | (have := hTg01 _ hb; first | omega | (dsimp only at this; omega) | (simp at this; omega)))
      clear rg00
      clear rg01
      have la00 := lt_of_cell' a00
      have la20 := lt_of_cell' a20
      have lbw00 := lt_of_cell' bw00
      have lbg00 := lt_of_cell' bg00
      have lx00 := lt_of_cell' x00
      go_wp2_with fail
      refine (heldMail_b _ _ _ _ _ _ _ _ nrg00.rd nrg01.rd hyA (by omega) (by omega)).mono ?_
      rintro e m11 ⟨rfl, hb11⟩
      clear la00 la20 lbw00 lbg00 lx00
      replace hr00 := hr00.below hb11
      replace hr01 := hr01.below hb11
      replace a00 := keep hb11 a00
      replace a01 := keep hb11 a01
      replace a20 := keep hb11 a20
      replace a21 := keep hb11 a21
      replace bw00 := keep hb11 bw00
      replace bw01 := keep hb11 bw01
      replace rw00 := rw00.below hb11
      replace rw01 := rw01.below hb11
      replace bg00 := keep hb11 bg00
      replace bg01 := keep hb11 bg01
      replace x00 := keep hb11 x00
      replace x01 := keep hb11 x01
      replace nrg00 := nrg00.below hb11
      replace nrg01 := nrg01.below hb11
      have hz11 := hb11.size
      try simp only [World.size_alloc, World.size_drew] at hz11
      have la00 := lt_of_cell' a00
      have la20 := lt_of_cell' a20
      have lbw00 := lt_of_cell' bw00
      have lbg00 := lt_of_cell' bg00
      have lx00 := lt_of_cell' x00
      go_wp2_with fail
      clear la00 la20 lbw00 lbg00 lx00
      go_cut [16, 17] (fun s0 s1 W => ∃ (gv tlo thi : Nat) (Ah0 : Option Addr) (ch0 : Nat) (Bh0 : Option Addr) (dh0 : Nat) (Th00 : Nat → Prop) (Th01 : Nat → Prop), s0 = .pointer (some ⟨gv, 0, none⟩) ∧ s1 = .bool ok ∧ Below m11.heap.size m11 W ∧ W.cell? ⟨gv, 0, none⟩ = some (.slice Ah0 ys.length ch0) ∧ W.cell? ⟨gv, 1, none⟩ = some (.slice Bh0 zs.length dh0) ∧ Wr2 pv W Th00 Ah0 ys ∧ Wr2 iv W Th01 Bh0 zs ∧ (∀ b, Th00 b → tlo ≤ b ∧ b < thi) ∧ (∀ b, Th01 b → tlo ≤ b ∧ b < thi) ∧ (∀ b, Th00 b → ¬ Th01 b) ∧ m11.heap.size ≤ gv ∧ gv < W.heap.size ∧ m11.heap.size ≤ tlo ∧ thi ≤ W.heap.size ∧ (gv < tlo ∨ thi ≤ gv))
      case first =>
        have X0 : (World.drew m11).cell? ⟨w.heap.size, 0, none⟩ = some (.slice A0 x0.length c0) := a00
        have X1 : (World.drew m11).cell? ⟨w.heap.size, 1, none⟩ = some (.slice B0 y0.length d0) := a01
        have X2 : (World.drew m11).cell? ⟨w.heap.size + 1, 0, none⟩ = some (.int .i64 q20) := a20
        have X3 : (World.drew m11).cell? ⟨w.heap.size + 1, 1, none⟩ = some (.int .i64 q21) := a21
        have lX0 : w.heap.size < m11.heap.size := by
          have h := lt_of_cell' X0
          first | exact h | (simp only [World.size_alloc, World.size_drew] at h; omega)
        have lX2 : w.heap.size + 1 < m11.heap.size := by
          have h := lt_of_cell' X2
          first | exact h | (simp only [World.size_alloc, World.size_drew] at h; omega)
        have Z_hr00 := (hr00).drew
        have Z_hr01 := (hr01).drew
        go_region_held3 (fun w' => w'.cell? ⟨w.heap.size, 0, none⟩ = some (.slice A0 x0.length c0) ∧ w'.cell? ⟨w.heap.size, 1, none⟩ = some (.slice B0 y0.length d0) ∧ w'.cell? ⟨w.heap.size + 1, 0, none⟩ = some (.int .i64 q20) ∧ w'.cell? ⟨w.heap.size + 1, 1, none⟩ = some (.int .i64 q21))
          (first | (with_reducible exact ⟨X0_3, X1_3, X2_3, X3_3⟩) | ((refine ⟨(set_other (set_other X0_3 ?_) ?_), (set_other (set_other X1_3 ?_) ?_), (set_other (set_other X2_3 ?_) ?_), (set_other (set_other X3_3 ?_) ?_)⟩); all_goals omega) | (with_reducible exact ⟨X0_2, X1_2, X2_2, X3_2⟩) | (with_reducible exact ⟨X0_1, X1_1, X2_1, X3_1⟩) | (with_reducible exact ⟨cell_al X0_3 _, cell_al X1_3 _, cell_al X2_3 _, cell_al X3_3 _⟩) | exact ⟨X0, X1, X2, X3⟩ | ((refine ⟨(set_other (set_other (cell_al X0_3 _) ?_) ?_), (set_other (set_other (cell_al X1_3 _) ?_) ?_), (set_other (set_other (cell_al X2_3 _) ?_) ?_), (set_other (set_other (cell_al X3_3 _) ?_) ?_)⟩); all_goals omega) | (with_reducible exact ⟨cell_al X0_2 _, cell_al X1_2 _, cell_al X2_2 _, cell_al X3_2 _⟩) | (with_reducible exact ⟨cell_al X0_1 _, cell_al X1_1 _, cell_al X2_1 _, cell_al X3_1 _⟩) | exact ⟨cell_al X0 _, cell_al X1 _, cell_al X2 _, cell_al X3 _⟩ | fail)
          (first | (go_at_call 23; refine (toMail_w _ _ _ _ _ _ _ Z_hr00 Z_hr01 hn00).mono ?_; rintro e d1 ⟨A0h, c0h, B0h, d0h, Sh00, Sh01, rfl, kh00, kh01, oh00, oh01, hSh00, hSh01, dh00, e1⟩; (first | (have X0_1 := keep e1 X0) | (have X0_1 := keep e1 (cell_al X0 _))); (first | (have X1_1 := keep e1 X1) | (have X1_1 := keep e1 (cell_al X1 _))); (first | (have X2_1 := keep e1 X2) | (have X2_1 := keep e1 (cell_al X2 _))); (first | (have X3_1 := keep e1 X3) | (have X3_1 := keep e1 (cell_al X3 _))); (first | (replace Z_hr00 := (Z_hr00).below e1) | (replace Z_hr00 := ((Z_hr00).alloc _).below e1)); (first | (replace Z_hr01 := (Z_hr01).below e1) | (replace Z_hr01 := ((Z_hr01).alloc _).below e1)); (try (have V0_0 : Cl d1 ⟨m11.heap.size, 0, none⟩ (.slice none 0 0) := Cl.below (Cl.new (w := (World.drew m11)) (cs := #[.slice none 0 0, .slice none 0 0]) (t := 29) (by first | rfl | simp) (by rfl)) e1; have V0_0c := V0_0.1; have V0_0f := V0_0.2; have V0_1 : Cl d1 ⟨m11.heap.size, 1, none⟩ (.slice none 0 0) := Cl.below (Cl.new (w := (World.drew m11)) (cs := #[.slice none 0 0, .slice none 0 0]) (t := 29) (by first | rfl | simp) (by rfl)) e1; have V0_1c := V0_1.1; have V0_1f := V0_1.2)); have y1 := e1.size; (try simp only [World.size_alloc, World.size_drew] at y1)) | (go_at_call 23; refine (toMail_w _ _ _ _ _ _ _ (Z_hr00.alloc _) (Z_hr01.alloc _) hn00).mono ?_; rintro e d1 ⟨A0h, c0h, B0h, d0h, Sh00, Sh01, rfl, kh00, kh01, oh00, oh01, hSh00, hSh01, dh00, e1⟩; (first | (have X0_1 := keep e1 X0) | (have X0_1 := keep e1 (cell_al X0 _))); (first | (have X1_1 := keep e1 X1) | (have X1_1 := keep e1 (cell_al X1 _))); (first | (have X2_1 := keep e1 X2) | (have X2_1 := keep e1 (cell_al X2 _))); (first | (have X3_1 := keep e1 X3) | (have X3_1 := keep e1 (cell_al X3 _))); (first | (replace Z_hr00 := (Z_hr00).below e1) | (replace Z_hr00 := ((Z_hr00).alloc _).below e1)); (first | (replace Z_hr01 := (Z_hr01).below e1) | (replace Z_hr01 := ((Z_hr01).alloc _).below e1)); (try (have V0_0 : Cl d1 ⟨m11.heap.size, 0, none⟩ (.slice none 0 0) := Cl.below (Cl.new (w := (World.drew m11)) (cs := #[.slice none 0 0, .slice none 0 0]) (t := 29) (by first | rfl | simp) (by rfl)) e1; have V0_0c := V0_0.1; have V0_0f := V0_0.2; have V0_1 : Cl d1 ⟨m11.heap.size, 1, none⟩ (.slice none 0 0) := Cl.below (Cl.new (w := (World.drew m11)) (cs := #[.slice none 0 0, .slice none 0 0]) (t := 29) (by first | rfl | simp) (by rfl)) e1; have V0_1c := V0_1.1; have V0_1f := V0_1.2)); have y1 := e1.size; (try simp only [World.size_alloc, World.size_drew] at y1)) | (go_at_call 35; refine (toPost_any _ _ _).mono ?_; rintro e d2 ⟨rfl, e2⟩; (first | (have X0_2 := keep e2 X0_1) | (have X0_2 := keep e2 (cell_al X0_1 _))); (first | (have X1_2 := keep e2 X1_1) | (have X1_2 := keep e2 (cell_al X1_1 _))); (first | (have X2_2 := keep e2 X2_1) | (have X2_2 := keep e2 (cell_al X2_1 _))); (first | (have X3_2 := keep e2 X3_1) | (have X3_2 := keep e2 (cell_al X3_1 _))); (first | (replace Z_hr00 := (Z_hr00).below e2) | (replace Z_hr00 := ((Z_hr00).alloc _).below e2)); (first | (replace Z_hr01 := (Z_hr01).below e2) | (replace Z_hr01 := ((Z_hr01).alloc _).below e2)); (first | (replace oh00 := (oh00).below e2) | (replace oh00 := ((oh00).alloc _).below e2)); (first | (replace oh01 := (oh01).below e2) | (replace oh01 := ((oh01).alloc _).below e2)); (try (replace V0_0 := Cl.below V0_0 e2; have V0_0c := V0_0.1; have V0_0f := V0_0.2; replace V0_1 := Cl.below V0_1 e2; have V0_1c := V0_1.1; have V0_1f := V0_1.2)); (try (have V1_0 : Cl d2 ⟨d1.heap.size, 0, none⟩ (.slice none 0 0) := Cl.below (Cl.new (w := d1) (cs := #[.slice none 0 0, .slice none 0 0]) (t := 29) (by first | rfl | simp) (by rfl)) e2; have V1_0c := V1_0.1; have V1_0f := V1_0.2; have V1_1 : Cl d2 ⟨d1.heap.size, 1, none⟩ (.slice none 0 0) := Cl.below (Cl.new (w := d1) (cs := #[.slice none 0 0, .slice none 0 0]) (t := 29) (by first | rfl | simp) (by rfl)) e2; have V1_1c := V1_1.1; have V1_1f := V1_1.2)); have y2 := e2.size; (try simp only [World.size_alloc, World.size_drew] at y2)) | (go_at_call 35; refine (toPost_any _ _ _).mono ?_; rintro e d2 ⟨rfl, e2⟩; (first | (have X0_2 := keep e2 X0_1) | (have X0_2 := keep e2 (cell_al X0_1 _))); (first | (have X1_2 := keep e2 X1_1) | (have X1_2 := keep e2 (cell_al X1_1 _))); (first | (have X2_2 := keep e2 X2_1) | (have X2_2 := keep e2 (cell_al X2_1 _))); (first | (have X3_2 := keep e2 X3_1) | (have X3_2 := keep e2 (cell_al X3_1 _))); (first | (replace Z_hr00 := (Z_hr00).below e2) | (replace Z_hr00 := ((Z_hr00).alloc _).below e2)); (first | (replace Z_hr01 := (Z_hr01).below e2) | (replace Z_hr01 := ((Z_hr01).alloc _).below e2)); (first | (replace oh00 := (oh00).below e2) | (replace oh00 := ((oh00).alloc _).below e2)); (first | (replace oh01 := (oh01).below e2) | (replace oh01 := ((oh01).alloc _).below e2)); (try (replace V0_0 := Cl.below V0_0 e2; have V0_0c := V0_0.1; have V0_0f := V0_0.2; replace V0_1 := Cl.below V0_1 e2; have V0_1c := V0_1.1; have V0_1f := V0_1.2)); (try (have V1_0 : Cl d2 ⟨d1.heap.size, 0, none⟩ (.slice none 0 0) := Cl.below (Cl.new (w := d1) (cs := #[.slice none 0 0, .slice none 0 0]) (t := 29) (by first | rfl | simp) (by rfl)) e2; have V1_0c := V1_0.1; have V1_0f := V1_0.2; have V1_1 : Cl d2 ⟨d1.heap.size, 1, none⟩ (.slice none 0 0) := Cl.below (Cl.new (w := d1) (cs := #[.slice none 0 0, .slice none 0 0]) (t := 29) (by first | rfl | simp) (by rfl)) e2; have V1_1c := V1_1.1; have V1_1f := V1_1.2)); have y2 := e2.size; (try simp only [World.size_alloc, World.size_drew] at y2)) | (go_at_call 14; refine (HI.out _ _ _ _ _ oh00.rd oh01.rd hn00).mono ?_; rintro e d3 ⟨Ah0, ch0, Bh0, dh0, Th00, Th01, rfl, rh00, rh01, hTh00, hTh01, Dh01, e3⟩; (first | (have X0_3 := keep e3 X0_2) | (have X0_3 := keep e3 (cell_al X0_2 _))); (first | (have X1_3 := keep e3 X1_2) | (have X1_3 := keep e3 (cell_al X1_2 _))); (first | (have X2_3 := keep e3 X2_2) | (have X2_3 := keep e3 (cell_al X2_2 _))); (first | (have X3_3 := keep e3 X3_2) | (have X3_3 := keep e3 (cell_al X3_2 _))); (try (replace V0_0 := Cl.below V0_0 e3; have V0_0c := V0_0.1; have V0_0f := V0_0.2; replace V0_1 := Cl.below V0_1 e3; have V0_1c := V0_1.1; have V0_1f := V0_1.2)); (try (replace V1_0 := Cl.below V1_0 e3; have V1_0c := V1_0.1; have V1_0f := V1_0.2; replace V1_1 := Cl.below V1_1 e3; have V1_1c := V1_1.1; have V1_1f := V1_1.2)); (try (have V2_0 : Cl d3 ⟨d2.heap.size, 0, none⟩ (.slice none 0 0) := Cl.below (Cl.new (w := d2) (cs := #[.slice none 0 0, .slice none 0 0]) (t := 29) (by first | rfl | simp) (by rfl)) e3; have V2_0c := V2_0.1; have V2_0f := V2_0.2; have V2_1 : Cl d3 ⟨d2.heap.size, 1, none⟩ (.slice none 0 0) := Cl.below (Cl.new (w := d2) (cs := #[.slice none 0 0, .slice none 0 0]) (t := 29) (by first | rfl | simp) (by rfl)) e3; have V2_1c := V2_1.1; have V2_1f := V2_1.2)); have y3 := e3.size; (try simp only [World.size_alloc, World.size_drew] at y3)) | (go_at_call 14; refine (HI.out _ _ _ _ _ (oh00.alloc _).rd (oh01.alloc _).rd hn00).mono ?_; rintro e d3 ⟨Ah0, ch0, Bh0, dh0, Th00, Th01, rfl, rh00, rh01, hTh00, hTh01, Dh01, e3⟩; (first | (have X0_3 := keep e3 X0_2) | (have X0_3 := keep e3 (cell_al X0_2 _))); (first | (have X1_3 := keep e3 X1_2) | (have X1_3 := keep e3 (cell_al X1_2 _))); (first | (have X2_3 := keep e3 X2_2) | (have X2_3 := keep e3 (cell_al X2_2 _))); (first | (have X3_3 := keep e3 X3_2) | (have X3_3 := keep e3 (cell_al X3_2 _))); (try (replace V0_0 := Cl.below V0_0 e3; have V0_0c := V0_0.1; have V0_0f := V0_0.2; replace V0_1 := Cl.below V0_1 e3; have V0_1c := V0_1.1; have V0_1f := V0_1.2)); (try (replace V1_0 := Cl.below V1_0 e3; have V1_0c := V1_0.1; have V1_0f := V1_0.2; replace V1_1 := Cl.below V1_1 e3; have V1_1c := V1_1.1; have V1_1f := V1_1.2)); (try (have V2_0 : Cl d3 ⟨d2.heap.size, 0, none⟩ (.slice none 0 0) := Cl.below (Cl.new (w := d2) (cs := #[.slice none 0 0, .slice none 0 0]) (t := 29) (by first | rfl | simp) (by rfl)) e3; have V2_0c := V2_0.1; have V2_0f := V2_0.2; have V2_1 : Cl d3 ⟨d2.heap.size, 1, none⟩ (.slice none 0 0) := Cl.below (Cl.new (w := d2) (cs := #[.slice none 0 0, .slice none 0 0]) (t := 29) (by first | rfl | simp) (by rfl)) e3; have V2_1c := V2_1.1; have V2_1f := V2_1.2)); have y3 := e3.size; (try simp only [World.size_alloc, World.size_drew] at y3)) | fail)
        all_goals
          go_wp2_with fail
          go_meet
          case rel =>
            first
              | (refine ⟨m11.heap.size, d2.heap.size, d3.heap.size, Ah0, ch0, Bh0, dh0, Th00, Th01, rfl, rfl, ?_, ?_, ?_, ?_, ?_, ?_, ?_, Dh01, ?_, ?_, ?_, ?_, ?_⟩; (· ((repeat' (first | (with_reducible exact Below.refl _ _) | (with_reducible refine bel_alloc ?_ ?_ _) | (with_reducible refine Below.setCell ?_ ?_ _) | (with_reducible refine below_drewN ?_ _) | (with_reducible refine Below.drew ?_) | (with_reducible refine bel_step e1 ?_ ?_) | (with_reducible refine bel_step e2 ?_ ?_) | (with_reducible refine bel_step e3 ?_ ?_) | (with_reducible exact Nat.le_refl _) | (with_reducible assumption) | omega | (simp only [World.size_alloc, World.size_setCell, World.size_drew]; omega) | (simp; omega) | (simp; done))))); (· (first | exact ((V0_0.same (.slice Ah0 ys.length ch0)).other (q := ⟨m11.heap.size, 1, none⟩) (.slice Bh0 zs.length dh0) (by simp)).1 | (simp [go_sem] <;> done))); (· (first | exact ((V0_1.other (q := ⟨m11.heap.size, 0, none⟩) (.slice Ah0 ys.length ch0) (by simp)).same (.slice Bh0 zs.length dh0)).1 | (simp [go_sem] <;> done))); (· (repeat' (first | (with_reducible exact rh00) | (with_reducible refine Wr2.alloc ?_ _) | (with_reducible refine Wr.alloc ?_ _) | (with_reducible refine Wr2.setOut ?_ _ ?_) | (with_reducible refine Wr.setOut ?_ _ ?_) | (intro hq; first | (have := hTh00 _ hq; simp only [World.size_alloc, World.size_drew] at this; omega) | (have := hTh00 _ hq; omega) | (have := hTh01 _ hq; simp only [World.size_alloc, World.size_drew] at this; omega) | (have := hTh01 _ hq; omega))))); (· (repeat' (first | (with_reducible exact rh01) | (with_reducible refine Wr2.alloc ?_ _) | (with_reducible refine Wr.alloc ?_ _) | (with_reducible refine Wr2.setOut ?_ _ ?_) | (with_reducible refine Wr.setOut ?_ _ ?_) | (intro hq; first | (have := hTh00 _ hq; simp only [World.size_alloc, World.size_drew] at this; omega) | (have := hTh00 _ hq; omega) | (have := hTh01 _ hq; simp only [World.size_alloc, World.size_drew] at this; omega) | (have := hTh01 _ hq; omega))))); (· (intro b hb; have := hTh00 b hb; (try simp only [World.size_alloc, World.size_drew] at this); omega)); (· (intro b hb; have := hTh01 b hb; (try simp only [World.size_alloc, World.size_drew] at this); omega)); (· (first | omega | (simp <;> omega))); (· (first | omega | (simp <;> omega))); (· (first | omega | (simp <;> omega))); (· (first | omega | (simp <;> omega))); (· (first | omega | (simp <;> omega))))
              | (refine ⟨d1.heap.size, d2.heap.size, d3.heap.size, Ah0, ch0, Bh0, dh0, Th00, Th01, rfl, rfl, ?_, ?_, ?_, ?_, ?_, ?_, ?_, Dh01, ?_, ?_, ?_, ?_, ?_⟩; (· ((repeat' (first | (with_reducible exact Below.refl _ _) | (with_reducible refine bel_alloc ?_ ?_ _) | (with_reducible refine Below.setCell ?_ ?_ _) | (with_reducible refine below_drewN ?_ _) | (with_reducible refine Below.drew ?_) | (with_reducible refine bel_step e1 ?_ ?_) | (with_reducible refine bel_step e2 ?_ ?_) | (with_reducible refine bel_step e3 ?_ ?_) | (with_reducible exact Nat.le_refl _) | (with_reducible assumption) | omega | (simp only [World.size_alloc, World.size_setCell, World.size_drew]; omega) | (simp; omega) | (simp; done))))); (· (first | exact ((V1_0.same (.slice Ah0 ys.length ch0)).other (q := ⟨d1.heap.size, 1, none⟩) (.slice Bh0 zs.length dh0) (by simp)).1 | (simp [go_sem] <;> done))); (· (first | exact ((V1_1.other (q := ⟨d1.heap.size, 0, none⟩) (.slice Ah0 ys.length ch0) (by simp)).same (.slice Bh0 zs.length dh0)).1 | (simp [go_sem] <;> done))); (· (repeat' (first | (with_reducible exact rh00) | (with_reducible refine Wr2.alloc ?_ _) | (with_reducible refine Wr.alloc ?_ _) | (with_reducible refine Wr2.setOut ?_ _ ?_) | (with_reducible refine Wr.setOut ?_ _ ?_) | (intro hq; first | (have := hTh00 _ hq; simp only [World.size_alloc, World.size_drew] at this; omega) | (have := hTh00 _ hq; omega) | (have := hTh01 _ hq; simp only [World.size_alloc, World.size_drew] at this; omega) | (have := hTh01 _ hq; omega))))); (· (repeat' (first | (with_reducible exact rh01) | (with_reducible refine Wr2.alloc ?_ _) | (with_reducible refine Wr.alloc ?_ _) | (with_reducible refine Wr2.setOut ?_ _ ?_) | (with_reducible refine Wr.setOut ?_ _ ?_) | (intro hq; first | (have := hTh00 _ hq; simp only [World.size_alloc, World.size_drew] at this; omega) | (have := hTh00 _ hq; omega) | (have := hTh01 _ hq; simp only [World.size_alloc, World.size_drew] at this; omega) | (have := hTh01 _ hq; omega))))); (· (intro b hb; have := hTh00 b hb; (try simp only [World.size_alloc, World.size_drew] at this); omega)); (· (intro b hb; have := hTh01 b hb; (try simp only [World.size_alloc, World.size_drew] at this); omega)); (· (first | omega | (simp <;> omega))); (· (first | omega | (simp <;> omega))); (· (first | omega | (simp <;> omega))); (· (first | omega | (simp <;> omega))); (· (first | omega | (simp <;> omega))))
              | (refine ⟨d2.heap.size, d2.heap.size + 1, d3.heap.size, Ah0, ch0, Bh0, dh0, Th00, Th01, rfl, rfl, ?_, ?_, ?_, ?_, ?_, ?_, ?_, Dh01, ?_, ?_, ?_, ?_, ?_⟩; (· ((repeat' (first | (with_reducible exact Below.refl _ _) | (with_reducible refine bel_alloc ?_ ?_ _) | (with_reducible refine Below.setCell ?_ ?_ _) | (with_reducible refine below_drewN ?_ _) | (with_reducible refine Below.drew ?_) | (with_reducible refine bel_step e1 ?_ ?_) | (with_reducible refine bel_step e2 ?_ ?_) | (with_reducible refine bel_step e3 ?_ ?_) | (with_reducible exact Nat.le_refl _) | (with_reducible assumption) | omega | (simp only [World.size_alloc, World.size_setCell, World.size_drew]; omega) | (simp; omega) | (simp; done))))); (· (first | exact ((V2_0.same (.slice Ah0 ys.length ch0)).other (q := ⟨d2.heap.size, 1, none⟩) (.slice Bh0 zs.length dh0) (by simp)).1 | (simp [go_sem] <;> done))); (· (first | exact ((V2_1.other (q := ⟨d2.heap.size, 0, none⟩) (.slice Ah0 ys.length ch0) (by simp)).same (.slice Bh0 zs.length dh0)).1 | (simp [go_sem] <;> done))); (· (repeat' (first | (with_reducible exact rh00) | (with_reducible refine Wr2.alloc ?_ _) | (with_reducible refine Wr.alloc ?_ _) | (with_reducible refine Wr2.setOut ?_ _ ?_) | (with_reducible refine Wr.setOut ?_ _ ?_) | (intro hq; first | (have := hTh00 _ hq; simp only [World.size_alloc, World.size_drew] at this; omega) | (have := hTh00 _ hq; omega) | (have := hTh01 _ hq; simp only [World.size_alloc, World.size_drew] at this; omega) | (have := hTh01 _ hq; omega))))); (· (repeat' (first | (with_reducible exact rh01) | (with_reducible refine Wr2.alloc ?_ _) | (with_reducible refine Wr.alloc ?_ _) | (with_reducible refine Wr2.setOut ?_ _ ?_) | (with_reducible refine Wr.setOut ?_ _ ?_) | (intro hq; first | (have := hTh00 _ hq; simp only [World.size_alloc, World.size_drew] at this; omega) | (have := hTh00 _ hq; omega) | (have := hTh01 _ hq; simp only [World.size_alloc, World.size_drew] at this; omega) | (have := hTh01 _ hq; omega))))); (· (intro b hb; have := hTh00 b hb; (try simp only [World.size_alloc, World.size_drew] at this); omega)); (· (intro b hb; have := hTh01 b hb; (try simp only [World.size_alloc, World.size_drew] at this); omega)); (· (first | omega | (simp <;> omega))); (· (first | omega | (simp <;> omega))); (· (first | omega | (simp <;> omega))); (· (first | omega | (simp <;> omega))); (· (first | omega | (simp <;> omega))))
              | (refine ⟨d3.heap.size, d2.heap.size, d3.heap.size, Ah0, ch0, Bh0, dh0, Th00, Th01, rfl, rfl, ?_, ?_, ?_, ?_, ?_, ?_, ?_, Dh01, ?_, ?_, ?_, ?_, ?_⟩; (· ((repeat' (first | (with_reducible exact Below.refl _ _) | (with_reducible refine bel_alloc ?_ ?_ _) | (with_reducible refine Below.setCell ?_ ?_ _) | (with_reducible refine below_drewN ?_ _) | (with_reducible refine Below.drew ?_) | (with_reducible refine bel_step e1 ?_ ?_) | (with_reducible refine bel_step e2 ?_ ?_) | (with_reducible refine bel_step e3 ?_ ?_) | (with_reducible exact Nat.le_refl _) | (with_reducible assumption) | omega | (simp only [World.size_alloc, World.size_setCell, World.size_drew]; omega) | (simp; omega) | (simp; done))))); (· (first | exact by simp [go_sem] | (simp [go_sem] <;> done))); (· (first | exact by simp [go_sem] | (simp [go_sem] <;> done))); (· (repeat' (first | (with_reducible exact rh00) | (with_reducible refine Wr2.alloc ?_ _) | (with_reducible refine Wr.alloc ?_ _) | (with_reducible refine Wr2.setOut ?_ _ ?_) | (with_reducible refine Wr.setOut ?_ _ ?_) | (intro hq; first | (have := hTh00 _ hq; simp only [World.size_alloc, World.size_drew] at this; omega) | (have := hTh00 _ hq; omega) | (have := hTh01 _ hq; simp only [World.size_alloc, World.size_drew] at this; omega) | (have := hTh01 _ hq; omega))))); (· (repeat' (first | (with_reducible exact rh01) | (with_reducible refine Wr2.alloc ?_ _) | (with_reducible refine Wr.alloc ?_ _) | (with_reducible refine Wr2.setOut ?_ _ ?_) | (with_reducible refine Wr.setOut ?_ _ ?_) | (intro hq; first | (have := hTh00 _ hq; simp only [World.size_alloc, World.size_drew] at this; omega) | (have := hTh00 _ hq; omega) | (have := hTh01 _ hq; simp only [World.size_alloc, World.size_drew] at this; omega) | (have := hTh01 _ hq; omega))))); (· (intro b hb; have := hTh00 b hb; (try simp only [World.size_alloc, World.size_drew] at this); omega)); (· (intro b hb; have := hTh01 b hb; (try simp only [World.size_alloc, World.size_drew] at this); omega)); (· (first | omega | (simp <;> omega))); (· (first | omega | (simp <;> omega))); (· (first | omega | (simp <;> omega))); (· (first | omega | (simp <;> omega))); (· (first | omega | (simp <;> omega))))
      case rest =>
        obtain ⟨gvh, tloh, thih, Ah0, ch0, Bh0, dh0, Th00, Th01, hs0, hs1, hbch, bh00, bh01, rh00, rh01, hTh00, hTh01, Dh01, hgv1h, hgv2h, htlh, hthh, hgth⟩ := hcut
        obtain ⟨m12, hwc⟩ : ∃ x, x = wc := ⟨_, rfl⟩
        subst hwc
        subst hs0 hs1
        replace hr00 := hr00.below hbch
        replace hr01 := hr01.below hbch
        replace a00 := keep hbch a00
        replace a01 := keep hbch a01
        replace a20 := keep hbch a20
        replace a21 := keep hbch a21
        replace bw00 := keep hbch bw00
        replace bw01 := keep hbch bw01
        replace rw00 := rw00.below hbch
        replace rw01 := rw01.below hbch
        replace bg00 := keep hbch bg00
        replace bg01 := keep hbch bg01
        replace x00 := keep hbch x00
        replace x01 := keep hbch x01
        replace nrg00 := nrg00.below hbch
        replace nrg01 := nrg01.below hbch
        have hz12 := hbch.size
        try simp only [World.size_alloc, World.size_drew] at hz12
        have la00 := lt_of_cell' a00
        have la20 := lt_of_cell' a20
        have lbw00 := lt_of_cell' bw00
        have lbg00 := lt_of_cell' bg00
        have lx00 := lt_of_cell' x00
        have lbh00 := lt_of_cell' bh00
        go_wp2_with fail
        refine (eqMail_same _ _ _ _ _ _ _ _ _ _ _ rh00.rd rw00.rd rh01.rd rw01.rd hyA).mono ?_
        rintro e m13 ⟨rfl, hb13⟩
        clear la00 la20 lbw00 lbg00 lx00 lbh00
        replace hr00 := hr00.below hb13
        replace hr01 := hr01.below hb13
        replace a00 := keep hb13 a00
        replace a01 := keep hb13 a01
        replace a20 := keep hb13 a20
        replace a21 := keep hb13 a21
        replace bw00 := keep hb13 bw00
        replace bw01 := keep hb13 bw01
        replace rw00 := rw00.below hb13
        replace rw01 := rw01.below hb13
        replace bg00 := keep hb13 bg00
        replace bg01 := keep hb13 bg01
        replace x00 := keep hb13 x00
        replace x01 := keep hb13 x01
        replace nrg00 := nrg00.below hb13
        replace nrg01 := nrg01.below hb13
        replace bh00 := keep hb13 bh00
        replace bh01 := keep hb13 bh01
        replace rh00 := rh00.below hb13
        replace rh01 := rh01.below hb13
        have hz13 := hb13.size
        try simp only [World.size_alloc, World.size_drew] at hz13
        have la00 := lt_of_cell' a00
        have la20 := lt_of_cell' a20
        have lbw00 := lt_of_cell' bw00
        have lbg00 := lt_of_cell' bg00
        have lx00 := lt_of_cell' x00
        have lbh00 := lt_of_cell' bh00
        go_wp2_with fail
        refine (heldMail_b _ _ _ _ _ _ _ _ nrg00.rd nrg01.rd hyA (by omega) (by omega)).mono ?_
        rintro e m14 ⟨rfl, hb14⟩
        clear la00 la20 lbw00 lbg00 lx00 lbh00
        replace hr00 := hr00.below hb14
        replace hr01 := hr01.below hb14
        replace a00 := keep hb14 a00
        replace a01 := keep hb14 a01
        replace a20 := keep hb14 a20
        replace a21 := keep hb14 a21
        replace bw00 := keep hb14 bw00
        replace bw01 := keep hb14 bw01
        replace rw00 := rw00.below hb14
        replace rw01 := rw01.below hb14
        replace bg00 := keep hb14 bg00
        replace bg01 := keep hb14 bg01
        replace x00 := keep hb14 x00
        replace x01 := keep hb14 x01
        replace nrg00 := nrg00.below hb14
        replace nrg01 := nrg01.below hb14
        replace bh00 := keep hb14 bh00
        replace bh01 := keep hb14 bh01
        replace rh00 := rh00.below hb14
        replace rh01 := rh01.below hb14
        have hz14 := hb14.size
        try simp only [World.size_alloc, World.size_drew] at hz14
        have la00 := lt_of_cell' a00
        have la20 := lt_of_cell' a20
        have lbw00 := lt_of_cell' bw00
        have lbg00 := lt_of_cell' bg00
        have lx00 := lt_of_cell' x00
        have lbh00 := lt_of_cell' bh00
        all_goals
          go_wp2
          go_ret
          exact ⟨rfl, by (repeat' (first | (with_reducible exact Below.refl _ _) | (with_reducible refine bel_alloc ?_ ?_ _) | (with_reducible refine Below.setCell ?_ ?_ _) | (with_reducible refine below_drewN ?_ _) | (with_reducible refine Below.drew ?_) | (with_reducible refine bel_step hb1 ?_ ?_) | (with_reducible refine bel_step hbcw ?_ ?_) | (with_reducible refine bel_step hb3 ?_ ?_) | (with_reducible refine bel_step hbcg ?_ ?_) | (with_reducible refine bel_step hb5 ?_ ?_) | (with_reducible refine bel_step hb6 ?_ ?_) | (with_reducible refine bel_step hb7 ?_ ?_) | (with_reducible refine bel_outS ho8 hl8 ?_ ?_) | (with_reducible refine bel_step hb9 ?_ ?_) | (with_reducible refine bel_outS ho10 hl10 ?_ ?_) | (with_reducible refine bel_step hb11 ?_ ?_) | (with_reducible refine bel_step hbch ?_ ?_) | (with_reducible refine bel_step hb13 ?_ ?_) | (with_reducible refine bel_step hb14 ?_ ?_) | (with_reducible exact Nat.le_refl _) | (with_reducible assumption) | omega | (simp only [World.size_alloc, World.size_setCell, World.size_drew]; omega) | (simp; omega) | (simp; done)))⟩
end Go.Proofs.Ytggigndkamkclaa
