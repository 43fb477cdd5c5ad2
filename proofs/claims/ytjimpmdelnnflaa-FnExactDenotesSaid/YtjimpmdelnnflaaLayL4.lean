/- The walk of the exact law on Denotes. -/
import Derived.Test.YtjimpmdelnnflaaLayG
import Derived.Test.YtjimpmdelnnflaaSpanM
import Derived.Test.YtjimpmdelnnflaaLargeM
import Derived.Deep.RegionHeld3
import Derived.Deep.DrawnRows
import Derived.Deep.DeepCutAuto
namespace Go.Proofs.Ytjimpmdelnnflaa
open Go.ChangeShapes Go.WideShapes Go.ChangeAt Go.RowKit
set_option linter.unusedVariables false
attribute [local go_sem ↓] Go.wp_at_zero Go.wp_at_succ

set_option maxHeartbeats 16000000 in
set_option maxRecDepth 100000 in
theorem law_denotes (A0 : Option Addr) (c0 : Nat) (x0 : List (Int × Int × Int)) (A1 : Option Addr) (c1 : Nat) (x1 : List (Int × Int × Int)) (p2 : Int) (w : World) (hr00 : Rd w w.heap.size A0 (tv x0)) (hm00 : x0.length ≤ maxLen) (hr10 : Rd w w.heap.size A1 (tv x1)) (hm10 : x1.length ≤ maxLen) (hp2 : -9223372036854775808 ≤ p2 ∧ p2 ≤ 9223372036854775807) : Calls Try.prog 9 #[.slice A0 x0.length c0, .slice A1 x1.length c1, .int .i64 p2] w fun e w' => e = .returned (.bool true) ∧ Below w.heap.size w w' := by
  obtain ⟨t0, t1, t2, t3, ht⟩ : ∃ t0 t1 t2 t3, den x0 x1 p2 = (t0, t1, t2, t3) := ⟨_, _, _, _, rfl⟩
  have HS := Lib.hid (fun (A A' : Option Addr) (c c' : Nat) (W : World) (B B' : Nat) (hr : Rd W B A (tv x0)) (hs : Rd W B' A' (tv x1)) (hn : x0.length ≤ 1048576) (hm : x1.length ≤ 1048576) => (show Calls _ _ _ _ (fun e w' => e = .returned (.agg #[.int .i64 t0, .int .i64 t1, .int .i64 t2, .int .i64 t3]) ∧ Below W.heap.size W w') by have h := den_s A A' c c' x0 x1 p2 W hr hs hn hm hp2; rw [ht] at h; exact h))
  have HI := Lib.hid (fun (A A' : Option Addr) (c c' : Nat) (W : World) (B B' : Nat) (hr : Rd W B A (tv x0)) (hs : Rd W B' A' (tv x1)) (hn : x0.length ≤ 1048576) (hm : x1.length ≤ 1048576) => (show Calls _ _ _ _ (fun e w' => e = .returned (.agg #[.int .i64 t0, .int .i64 t1, .int .i64 t2, .int .i64 t3]) ∧ Below W.heap.size W w') by have h := den_i A A' c c' x0 x1 p2 W hr hs hn hm; rw [ht] at h; exact h))
  clear ht
  go_enter Try.func9, Try.ntmps9
  go_wp2_with fail
  refine (szSpanS_any _ _ _ _ _ (by omega) (by omega) hm00).mono ?_
  rintro e m1 ⟨rz0, rfl, qz0, sz0, hb1⟩
  replace hr00 := hr00.below hb1
  replace hr10 := hr10.below hb1
  have hz1 := hb1.size
  try simp only [World.size_alloc, World.size_drew] at hz1
  by_cases hneg0 : rz0 < 0
  · go_wp2
    go_ret
    exact ⟨rfl, by (repeat' (first | (with_reducible exact Below.refl _ _) | (with_reducible refine bel_alloc ?_ ?_ _) | (with_reducible refine Below.setCell ?_ ?_ _) | (with_reducible refine below_drewN ?_ _) | (with_reducible refine Below.drew ?_) | (with_reducible refine bel_step hb1 ?_ ?_) | (with_reducible exact Nat.le_refl _) | (with_reducible assumption) | omega | (simp only [World.size_alloc, World.size_setCell, World.size_drew]; omega) | (simp; omega) | (simp; done)))⟩
  have hn00 : x0.length ≤ 1048576 := by have := sz0 (by omega); first | exact this | omega | exact ⟨by omega, this.2⟩
  go_wp2_with fail
  refine (szLargeS_any _ _ _ _ _ (by omega) (by omega) hm10).mono ?_
  rintro e m2 ⟨rz1, rfl, qz1, sz1, hb2⟩
  replace hr00 := hr00.below hb2
  replace hr10 := hr10.below hb2
  have hz2 := hb2.size
  try simp only [World.size_alloc, World.size_drew] at hz2
  by_cases hneg1 : rz1 < 0
  · go_wp2
    go_ret
    exact ⟨rfl, by (repeat' (first | (with_reducible exact Below.refl _ _) | (with_reducible refine bel_alloc ?_ ?_ _) | (with_reducible refine Below.setCell ?_ ?_ _) | (with_reducible refine below_drewN ?_ _) | (with_reducible refine Below.drew ?_) | (with_reducible refine bel_step hb1 ?_ ?_) | (with_reducible refine bel_step hb2 ?_ ?_) | (with_reducible exact Nat.le_refl _) | (with_reducible assumption) | omega | (simp only [World.size_alloc, World.size_setCell, World.size_drew]; omega) | (simp; omega) | (simp; done)))⟩
  have hn10 : x1.length ≤ 1048576 := by have := sz1 (by omega); first | exact this | omega | exact ⟨by omega, this.2⟩
  clear sz0 qz0 sz1 qz1
  go_wp2_with fail
  refine (toSpanS_w _ _ _ _ hr00 hn00).mono ?_
  rintro e m3 ⟨A0w, c0w, Sw00, rfl, kw00, ow00, hSw00, hb3⟩
  replace hr00 := hr00.below hb3
  replace hr10 := hr10.below hb3
  have hz3 := hb3.size
  try simp only [World.size_alloc, World.size_drew] at hz3
  replace hSw00 : ∀ b, Sw00 b → m2.heap.size + 0 ≤ b ∧ b < m3.heap.size := fun b hb => by have := hSw00 b hb; (try simp only [World.size_alloc, World.size_drew] at this); omega
  go_wp2_with fail
  refine (toLargeS_w _ _ _ _ hr10 hn10).mono ?_
  rintro e m4 ⟨A1w, c1w, Sw10, rfl, kw10, ow10, hSw10, hb4⟩
  replace hr00 := hr00.below hb4
  replace hr10 := hr10.below hb4
  replace ow00 := ow00.below hb4
  have hz4 := hb4.size
  try simp only [World.size_alloc, World.size_drew] at hz4
  replace hSw10 : ∀ b, Sw10 b → m3.heap.size + 0 ≤ b ∧ b < m4.heap.size := fun b hb => by have := hSw10 b hb; (try simp only [World.size_alloc, World.size_drew] at this); omega
  go_wp2_with fail
  refine (HS.out _ _ _ _ _ _ _ ow00.rd ow10.rd hn00 hn10).mono ?_
  rintro e m5 ⟨rfl, hb5⟩
  replace hr00 := hr00.below hb5
  replace hr10 := hr10.below hb5
  replace ow00 := ow00.below hb5
  replace ow10 := ow10.below hb5
  have hz5 := hb5.size
  try simp only [World.size_alloc, World.size_drew] at hz5
  go_wp2_with fail
  refine (toSpanS_w _ _ _ _ (hr00.alloc _) hn00).mono ?_
  rintro e m6 ⟨A0x, c0x, Sx00, rfl, kx00, ox00, hSx00, hb6⟩
  replace hr00 := (hr00.alloc _).below hb6
  replace hr10 := (hr10.alloc _).below hb6
  have bw0 : m6.cell? ⟨m5.heap.size, 0, none⟩ = some (.int .i64 t0) := keep hb6 (by simp [go_sem])
  have bw1 : m6.cell? ⟨m5.heap.size, 1, none⟩ = some (.int .i64 t1) := keep hb6 (by simp [go_sem])
  have bw2 : m6.cell? ⟨m5.heap.size, 2, none⟩ = some (.int .i64 t2) := keep hb6 (by simp [go_sem])
  have bw3 : m6.cell? ⟨m5.heap.size, 3, none⟩ = some (.int .i64 t3) := keep hb6 (by simp [go_sem])
  have hz6 := hb6.size
  try simp only [World.size_alloc, World.size_drew] at hz6
  replace hSx00 : ∀ b, Sx00 b → m5.heap.size + 1 ≤ b ∧ b < m6.heap.size := fun b hb => by have := hSx00 b hb; (try simp only [World.size_alloc, World.size_drew] at this); omega
  have lbw0 := lt_of_cell' bw0
  go_wp2_with fail
  refine (toLargeS_w _ _ _ _ hr10 hn10).mono ?_
  rintro e m7 ⟨A1x, c1x, Sx10, rfl, kx10, ox10, hSx10, hb7⟩
  clear lbw0
  replace hr00 := hr00.below hb7
  replace hr10 := hr10.below hb7
  replace bw0 := keep hb7 bw0
  replace bw1 := keep hb7 bw1
  replace bw2 := keep hb7 bw2
  replace bw3 := keep hb7 bw3
  replace ox00 := ox00.below hb7
  have hz7 := hb7.size
  try simp only [World.size_alloc, World.size_drew] at hz7
  replace hSx10 : ∀ b, Sx10 b → m6.heap.size + 0 ≤ b ∧ b < m7.heap.size := fun b hb => by have := hSx10 b hb; (try simp only [World.size_alloc, World.size_drew] at this); omega
  have lbw0 := lt_of_cell' bw0
  go_wp2_with fail
  refine (HI.out _ _ _ _ _ _ _ ox00.rd ox10.rd hn00 hn10).mono ?_
  rintro e m8 ⟨rfl, hb8⟩
  clear lbw0
  replace hr00 := hr00.below hb8
  replace hr10 := hr10.below hb8
  replace bw0 := keep hb8 bw0
  replace bw1 := keep hb8 bw1
  replace bw2 := keep hb8 bw2
  replace bw3 := keep hb8 bw3
  replace ox00 := ox00.below hb8
  replace ox10 := ox10.below hb8
  have hz8 := hb8.size
  try simp only [World.size_alloc, World.size_drew] at hz8
  have lbw0 := lt_of_cell' bw0
  go_wp2_with fail
  refine (eqOwner_same _ _ _ _ _).mono ?_
  rintro e m9 ⟨rfl, hb9⟩
  clear lbw0
  replace hr00 := (hr00.alloc _).below hb9
  replace hr10 := (hr10.alloc _).below hb9
  replace bw0 := keep hb9 (cell_al bw0 _)
  replace bw1 := keep hb9 (cell_al bw1 _)
  replace bw2 := keep hb9 (cell_al bw2 _)
  replace bw3 := keep hb9 (cell_al bw3 _)
  replace ox00 := (ox00.alloc _).below hb9
  replace ox10 := (ox10.alloc _).below hb9
  have bg0 : m9.cell? ⟨m8.heap.size, 0, none⟩ = some (.int .i64 t0) := keep hb9 (by simp [go_sem])
  have bg1 : m9.cell? ⟨m8.heap.size, 1, none⟩ = some (.int .i64 t1) := keep hb9 (by simp [go_sem])
  have bg2 : m9.cell? ⟨m8.heap.size, 2, none⟩ = some (.int .i64 t2) := keep hb9 (by simp [go_sem])
  have bg3 : m9.cell? ⟨m8.heap.size, 3, none⟩ = some (.int .i64 t3) := keep hb9 (by simp [go_sem])
  have hz9 := hb9.size
  try simp only [World.size_alloc, World.size_drew] at hz9
  have lbw0 := lt_of_cell' bw0
  have lbg0 := lt_of_cell' bg0
  go_wp2_with fail
  refine (toSpanS_w _ _ _ _ hr00 hn00).mono ?_
  rintro e m10 ⟨A0y0, c0y0, Sy000, rfl, ky000, oy000, hSy000, hb10⟩
  clear lbw0 lbg0
  replace hr00 := hr00.below hb10
  replace hr10 := hr10.below hb10
  replace bw0 := keep hb10 bw0
  replace bw1 := keep hb10 bw1
  replace bw2 := keep hb10 bw2
  replace bw3 := keep hb10 bw3
  replace ox00 := ox00.below hb10
  replace ox10 := ox10.below hb10
  replace bg0 := keep hb10 bg0
  replace bg1 := keep hb10 bg1
  replace bg2 := keep hb10 bg2
  replace bg3 := keep hb10 bg3
  have hz10 := hb10.size
  try simp only [World.size_alloc, World.size_drew] at hz10
  replace hSy000 : ∀ b, Sy000 b → m9.heap.size + 0 ≤ b ∧ b < m10.heap.size := fun b hb => by have := hSy000 b hb; (try simp only [World.size_alloc, World.size_drew] at this); omega
  have lbw0 := lt_of_cell' bw0
  have lbg0 := lt_of_cell' bg0
  go_wp2_with fail
  refine (eqSpanS_same _ _ _ _ _ _ ox00.rd oy000.rd hn00).mono ?_
  rintro e m11 ⟨rfl, hb11⟩
  clear lbw0 lbg0
  replace hr00 := hr00.below hb11
  replace hr10 := hr10.below hb11
  replace bw0 := keep hb11 bw0
  replace bw1 := keep hb11 bw1
  replace bw2 := keep hb11 bw2
  replace bw3 := keep hb11 bw3
  replace ox00 := ox00.below hb11
  replace ox10 := ox10.below hb11
  replace bg0 := keep hb11 bg0
  replace bg1 := keep hb11 bg1
  replace bg2 := keep hb11 bg2
  replace bg3 := keep hb11 bg3
  replace oy000 := oy000.below hb11
  have hz11 := hb11.size
  try simp only [World.size_alloc, World.size_drew] at hz11
  have lbw0 := lt_of_cell' bw0
  have lbg0 := lt_of_cell' bg0
  go_wp2_with fail
  refine (toLargeS_w _ _ _ _ hr10 hn10).mono ?_
  rintro e m12 ⟨A1y1, c1y1, Sy110, rfl, ky110, oy110, hSy110, hb12⟩
  clear lbw0 lbg0
  replace hr00 := hr00.below hb12
  replace hr10 := hr10.below hb12
  replace bw0 := keep hb12 bw0
  replace bw1 := keep hb12 bw1
  replace bw2 := keep hb12 bw2
  replace bw3 := keep hb12 bw3
  replace ox00 := ox00.below hb12
  replace ox10 := ox10.below hb12
  replace bg0 := keep hb12 bg0
  replace bg1 := keep hb12 bg1
  replace bg2 := keep hb12 bg2
  replace bg3 := keep hb12 bg3
  have hz12 := hb12.size
  try simp only [World.size_alloc, World.size_drew] at hz12
  replace hSy110 : ∀ b, Sy110 b → m11.heap.size + 0 ≤ b ∧ b < m12.heap.size := fun b hb => by have := hSy110 b hb; (try simp only [World.size_alloc, World.size_drew] at this); omega
  have lbw0 := lt_of_cell' bw0
  have lbg0 := lt_of_cell' bg0
  go_wp2_with fail
  refine (eqLargeS_same _ _ _ _ _ _ ox10.rd oy110.rd hn10).mono ?_
  rintro e m13 ⟨rfl, hb13⟩
  clear lbw0 lbg0
  replace hr00 := hr00.below hb13
  replace hr10 := hr10.below hb13
  replace bw0 := keep hb13 bw0
  replace bw1 := keep hb13 bw1
  replace bw2 := keep hb13 bw2
  replace bw3 := keep hb13 bw3
  replace ox00 := ox00.below hb13
  replace ox10 := ox10.below hb13
  replace bg0 := keep hb13 bg0
  replace bg1 := keep hb13 bg1
  replace bg2 := keep hb13 bg2
  replace bg3 := keep hb13 bg3
  replace oy110 := oy110.below hb13
  have hz13 := hb13.size
  try simp only [World.size_alloc, World.size_drew] at hz13
  have lbw0 := lt_of_cell' bw0
  have lbg0 := lt_of_cell' bg0
  all_goals
    go_wp2
    go_ret
    exact ⟨rfl, by (repeat' (first | (with_reducible exact Below.refl _ _) | (with_reducible refine bel_alloc ?_ ?_ _) | (with_reducible refine Below.setCell ?_ ?_ _) | (with_reducible refine below_drewN ?_ _) | (with_reducible refine Below.drew ?_) | (with_reducible refine bel_step hb1 ?_ ?_) | (with_reducible refine bel_step hb2 ?_ ?_) | (with_reducible refine bel_step hb3 ?_ ?_) | (with_reducible refine bel_step hb4 ?_ ?_) | (with_reducible refine bel_step hb5 ?_ ?_) | (with_reducible refine bel_step hb6 ?_ ?_) | (with_reducible refine bel_step hb7 ?_ ?_) | (with_reducible refine bel_step hb8 ?_ ?_) | (with_reducible refine bel_step hb9 ?_ ?_) | (with_reducible refine bel_step hb10 ?_ ?_) | (with_reducible refine bel_step hb11 ?_ ?_) | (with_reducible refine bel_step hb12 ?_ ?_) | (with_reducible refine bel_step hb13 ?_ ?_) | (with_reducible exact Nat.le_refl _) | (with_reducible assumption) | omega | (simp only [World.size_alloc, World.size_setCell, World.size_drew]; omega) | (simp; omega) | (simp; done)))⟩
end Go.Proofs.Ytjimpmdelnnflaa
