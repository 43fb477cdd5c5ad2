/- The walk of the exact law on RangeTake. -/
import Derived.Test.YtfdpplamebmdhaaRangeTkV
import Derived.Test.YtfdpplamebmdhaaRangeM
import Derived.Test.YtfdpplamebmdhaaRangeX
import Derived.Deep.RegionHeld3
import Derived.Deep.DrawnRows
import Derived.Deep.DeepCutAuto
namespace Go.Proofs.Ytfdpplamebmdhaa
open Go.ChangeShapes Go.WideShapes Go.ChangeAt Go.RowKit
set_option linter.unusedVariables false
attribute [local go_sem ↓] Go.wp_at_zero Go.wp_at_succ

set_option maxHeartbeats 16000000 in
set_option maxRecDepth 100000 in
theorem law_rangeTake (p0 : Int) (A1 : Option Addr) (c1 : Nat) (x1 : List (Int × Int)) (p2 : Int) (w : World) (hp0 : -9223372036854775808 ≤ p0 ∧ p0 ≤ 9223372036854775807) (hr10 : Rd w w.heap.size A1 (pv x1)) (hm10 : x1.length ≤ maxLen) (hp2 : -9223372036854775808 ≤ p2 ∧ p2 ≤ 9223372036854775807) : Calls Try.prog 8 #[.int .i64 p0, .slice A1 x1.length c1, .int .i64 p2] w fun e w' => e = .returned (.bool true) ∧ Below w.heap.size w w' := by
  obtain ⟨ys, t, ok, HS, HI, hy⟩ : ∃ (ys : List Rg) (t : Int) (ok : Bool), (∀ (A : Option Addr) (c : Nat) (W : World) {B : Nat}, Rd W B A (pv x1) → x1.length ≤ 1048576 → (x1.length ≤ c ∧ c ≤ maxLen) → Calls Try.prog 27 #[.int .i64 p0, .slice A x1.length c, .int .i64 p2] W (MadeRT ys t ok W)) ∧
      (∀ (A : Option Addr) (c : Nat) (W : World) {B : Nat}, Rd W B A (pv x1) → x1.length ≤ 1048576 → (x1.length ≤ c ∧ c ≤ maxLen) → Calls Try.prog 28 #[.int .i64 p0, .slice A x1.length c, .int .i64 p2] W (MadeRT ys t ok W)) ∧ (x1.length ≤ 1048576 → ys.length ≤ 1048576) := by
    by_cases h : rOkB p0 x1 = true ∧ 1 ≤ p2
    · obtain ⟨h1, h2⟩ := h
      by_cases h3 : bst p2 x1 x1.length < 0
      · exact ⟨x1, -1, false, fun A c W B hr hn hc => rangeTake_s_none p0 A c x1 p2 W hr hn hp0 h1 h2 h3, fun A c W B hr hn hc => rangeTake_i_none p0 A c x1 p2 W hr hn hp0 h1 h2 h3, id⟩
      · have hb := bst_bd p2 x1 x1.length
        obtain ⟨j, hj⟩ : ∃ j : Nat, bst p2 x1 x1.length = (j : Int) := ⟨(bst p2 x1 x1.length).toNat, by omega⟩
        have hjx : j < x1.length := by omega
        refine ⟨tkL p2 x1 j, x1[j].1, true, fun A c W B hr hn hc => rangeTake_s_yes p0 A c x1 p2 W hr hn (by unfold maxLen at hc; exact hc) hp0 h1 h2 j hj hjx, fun A c W B hr hn hc => rangeTake_i_yes p0 A c x1 p2 W hr hn hp0 h1 h2 j hj hjx, fun hn => ?_⟩
        have := tkL_len p2 x1 j
        omega
    · have h' : rOkB p0 x1 = false ∨ p2 < 1 := by
        cases h1 : rOkB p0 x1
        · exact .inl rfl
        · exact .inr (by by_cases h2 : 1 ≤ p2 <;> simp_all)
      exact ⟨x1, -1, false, fun A c W B hr hn hc => rangeTake_s_no p0 A c x1 p2 W hr hn hp0 h', fun A c W B hr hn hc => rangeTake_i_no p0 A c x1 p2 W hr hn hp0 h', id⟩
  replace HS := Lib.hid HS
  replace HI := Lib.hid HI
  replace hy := Lib.hid hy
  go_enter Try.func8, Try.ntmps8
  go_wp2_with fail
  refine (szRangeS_any _ _ _ _ _ (by omega) (by omega) hm10).mono ?_
  rintro e m1 ⟨rz1, rfl, qz1, sz1, hb1⟩
  replace hr10 := hr10.below hb1
  have hz1 := hb1.size
  try simp only [World.size_alloc, World.size_drew] at hz1
  by_cases hneg1 : rz1 < 0
  · go_wp2
    go_ret
    exact ⟨rfl, by (repeat' (first | (with_reducible exact Below.refl _ _) | (with_reducible refine bel_alloc ?_ ?_ _) | (with_reducible refine Below.setCell ?_ ?_ _) | (with_reducible refine below_drewN ?_ _) | (with_reducible refine Below.drew ?_) | (with_reducible refine bel_step hb1 ?_ ?_) | (with_reducible exact Nat.le_refl _) | (with_reducible assumption) | omega | (simp only [World.size_alloc, World.size_setCell, World.size_drew]; omega) | (simp; omega) | (simp; done)))⟩
  have hn10 : x1.length ≤ 1048576 := by have := sz1 (by omega); first | exact this | omega | exact ⟨by omega, this.2⟩
  clear sz1 qz1
  have hyz := hy.out hn10
  go_wp2_with fail
  refine (toRangeS_w _ _ _ _ hr10 hn10).mono ?_
  rintro e m2 ⟨A1w, c1w, Sw10, rfl, kw10, ow10, hSw10, hb2⟩
  replace hr10 := hr10.below hb2
  have hz2 := hb2.size
  try simp only [World.size_alloc, World.size_drew] at hz2
  replace hSw10 : ∀ b, Sw10 b → m1.heap.size + 0 ≤ b ∧ b < m2.heap.size := fun b hb => by have := hSw10 b hb; (try simp only [World.size_alloc, World.size_drew] at this); omega
  go_wp2_with fail
  refine (HS.out _ _ _ ow10.rd hn10 kw10).mono ?_
  rintro e m3 ⟨Aw0, cw0, Tw00, rfl, rw00, hTw00, hb3⟩
  replace hr10 := hr10.below hb3
  replace ow10 := ow10.below hb3
  have hz3 := hb3.size
  try simp only [World.size_alloc, World.size_drew] at hz3
  replace hTw00 : ∀ b, Tw00 b → m2.heap.size + 0 ≤ b ∧ b < m3.heap.size := fun b hb => by have := hTw00 b hb; (try simp only [World.size_alloc, World.size_drew] at this); omega
  go_wp2_with fail
  refine (toRangeS_w _ _ _ _ hr10 hn10).mono ?_
  rintro e m4 ⟨A1x, c1x, Sx10, rfl, kx10, ox10, hSx10, hb4⟩
  replace hr10 := hr10.below hb4
  replace rw00 := rw00.below hb4
  have hz4 := hb4.size
  try simp only [World.size_alloc, World.size_drew] at hz4
  replace hSx10 : ∀ b, Sx10 b → m3.heap.size + 0 ≤ b ∧ b < m4.heap.size := fun b hb => by have := hSx10 b hb; (try simp only [World.size_alloc, World.size_drew] at this); omega
  go_wp2_with fail
  refine (HI.out _ _ _ ox10.rd hn10 kx10).mono ?_
  rintro e m5 ⟨Ag0, cg0, Tg00, rfl, rg00, hTg00, hb5⟩
  replace hr10 := hr10.below hb5
  replace rw00 := rw00.below hb5
  replace ox10 := ox10.below hb5
  have hz5 := hb5.size
  try simp only [World.size_alloc, World.size_drew] at hz5
  replace hTg00 : ∀ b, Tg00 b → m4.heap.size + 0 ≤ b ∧ b < m5.heap.size := fun b hb => by have := hTg00 b hb; (try simp only [World.size_alloc, World.size_drew] at this); omega
  go_wp2_with fail
  refine (eqRangeS_same _ _ _ _ _ _ rg00.rd rw00.rd hyz).mono ?_
  rintro e m6 ⟨rfl, hb6⟩
  replace hr10 := hr10.below hb6
  replace rw00 := rw00.below hb6
  replace ox10 := ox10.below hb6
  replace rg00 := rg00.below hb6
  have hz6 := hb6.size
  try simp only [World.size_alloc, World.size_drew] at hz6
  go_wp2_with fail
  refine (toRangeS_w _ _ _ _ hr10 hn10).mono ?_
  rintro e m7 ⟨A1y1, c1y1, Sy110, rfl, ky110, oy110, hSy110, hb7⟩
  replace hr10 := hr10.below hb7
  replace rw00 := rw00.below hb7
  replace ox10 := ox10.below hb7
  replace rg00 := rg00.below hb7
  have hz7 := hb7.size
  try simp only [World.size_alloc, World.size_drew] at hz7
  replace hSy110 : ∀ b, Sy110 b → m6.heap.size + 0 ≤ b ∧ b < m7.heap.size := fun b hb => by have := hSy110 b hb; (try simp only [World.size_alloc, World.size_drew] at this); omega
  go_wp2_with fail
  refine (eqRangeS_same _ _ _ _ _ _ ox10.rd oy110.rd hn10).mono ?_
  rintro e m8 ⟨rfl, hb8⟩
  replace hr10 := hr10.below hb8
  replace rw00 := rw00.below hb8
  replace ox10 := ox10.below hb8
  replace rg00 := rg00.below hb8
  replace oy110 := oy110.below hb8
  have hz8 := hb8.size
  try simp only [World.size_alloc, World.size_drew] at hz8
  go_wp2_with fail
  refine (markRangeS_any _ _ _ _ _ ox10 hn10 (by omega) (by omega)).mono ?_
  rintro e m9 ⟨rfl, nox10, ho9⟩
  have hz9 := ho9.size
  try simp only [World.size_alloc, World.size_drew] at hz9
  have hl9 : ∀ b, Sx10 b → w.heap.size ≤ b := fun b hb => by have := hSx10 b hb; omega
  replace hr10 := hr10.outS ho9 hl9
  replace rw00 := rw00.outS ho9 (fun b hb hx => by first | (have h1 := hTw00 b hb; have h2 := hSx10 b hx; omega))
  replace rg00 := rg00.outS ho9 (fun b hb hx => by first | (have h1 := hTg00 b hb; have h2 := hSx10 b hx; omega))
  clear ox10
  go_wp2_with fail
  refine (eqRangeS_same _ _ _ _ _ _ rg00.rd rw00.rd hyz).mono ?_
  rintro e m10 ⟨rfl, hb10⟩
  replace hr10 := hr10.below hb10
  replace rw00 := rw00.below hb10
  replace rg00 := rg00.below hb10
  have hz10 := hb10.size
  try simp only [World.size_alloc, World.size_drew] at hz10
  go_wp2_with fail
  refine (markRangeS_any _ _ _ _ _ rg00 hyz (by omega) (by omega)).mono ?_
  rintro e m11 ⟨rfl, nrg00, ho11⟩
  have hz11 := ho11.size
  try simp only [World.size_alloc, World.size_drew] at hz11
  have hl11 : ∀ b, Tg00 b → w.heap.size ≤ b := fun b hb => by have := hTg00 b hb; omega
  replace hr10 := hr10.outS ho11 hl11
  replace rw00 := rw00.outS ho11 (fun b hb hx => by first | (have h1 := hTw00 b hb; have h2 := hTg00 b hx; omega))
  clear rg00
  go_wp2_with fail
  refine (heldRangeS_b _ _ _ _ _ nrg00.rd hyz (by omega) (by omega)).mono ?_
  rintro e m12 ⟨rfl, hb12⟩
  replace hr10 := hr10.below hb12
  replace rw00 := rw00.below hb12
  replace nrg00 := nrg00.below hb12
  have hz12 := hb12.size
  try simp only [World.size_alloc, World.size_drew] at hz12
  go_wp2_with fail
  refine (toRangeS_w _ _ _ _ hr10 hn10).mono ?_
  rintro e m13 ⟨A1h, c1h, Sh10, rfl, kh10, oh10, hSh10, hb13⟩
  replace hr10 := hr10.below hb13
  replace rw00 := rw00.below hb13
  replace nrg00 := nrg00.below hb13
  have hz13 := hb13.size
  try simp only [World.size_alloc, World.size_drew] at hz13
  replace hSh10 : ∀ b, Sh10 b → m12.heap.size + 0 ≤ b ∧ b < m13.heap.size := fun b hb => by have := hSh10 b hb; (try simp only [World.size_alloc, World.size_drew] at this); omega
  go_wp2_with fail
  refine (HI.out _ _ _ oh10.rd hn10 kh10).mono ?_
  rintro e m14 ⟨Ah0, ch0, Th00, rfl, rh00, hTh00, hb14⟩
  replace hr10 := hr10.below hb14
  replace rw00 := rw00.below hb14
  replace nrg00 := nrg00.below hb14
  replace oh10 := oh10.below hb14
  have hz14 := hb14.size
  try simp only [World.size_alloc, World.size_drew] at hz14
  replace hTh00 : ∀ b, Th00 b → m13.heap.size + 0 ≤ b ∧ b < m14.heap.size := fun b hb => by have := hTh00 b hb; (try simp only [World.size_alloc, World.size_drew] at this); omega
  go_wp2_with fail
  refine (eqRangeS_same _ _ _ _ _ _ rh00.rd rw00.rd hyz).mono ?_
  rintro e m15 ⟨rfl, hb15⟩
  replace hr10 := hr10.below hb15
  replace rw00 := rw00.below hb15
  replace nrg00 := nrg00.below hb15
  replace rh00 := rh00.below hb15
  have hz15 := hb15.size
  try simp only [World.size_alloc, World.size_drew] at hz15
  go_wp2_with fail
  refine (heldRangeS_b _ _ _ _ _ nrg00.rd hyz (by omega) (by omega)).mono ?_
  rintro e m16 ⟨rfl, hb16⟩
  replace hr10 := hr10.below hb16
  replace rw00 := rw00.below hb16
  replace nrg00 := nrg00.below hb16
  replace rh00 := rh00.below hb16
  have hz16 := hb16.size
  try simp only [World.size_alloc, World.size_drew] at hz16
  all_goals
    go_wp2
    go_ret
    exact ⟨rfl, by (repeat' (first | (with_reducible exact Below.refl _ _) | (with_reducible refine bel_alloc ?_ ?_ _) | (with_reducible refine Below.setCell ?_ ?_ _) | (with_reducible refine below_drewN ?_ _) | (with_reducible refine Below.drew ?_) | (with_reducible refine bel_step hb1 ?_ ?_) | (with_reducible refine bel_step hb2 ?_ ?_) | (with_reducible refine bel_step hb3 ?_ ?_) | (with_reducible refine bel_step hb4 ?_ ?_) | (with_reducible refine bel_step hb5 ?_ ?_) | (with_reducible refine bel_step hb6 ?_ ?_) | (with_reducible refine bel_step hb7 ?_ ?_) | (with_reducible refine bel_step hb8 ?_ ?_) | (with_reducible refine bel_outS ho9 hl9 ?_ ?_) | (with_reducible refine bel_step hb10 ?_ ?_) | (with_reducible refine bel_outS ho11 hl11 ?_ ?_) | (with_reducible refine bel_step hb12 ?_ ?_) | (with_reducible refine bel_step hb13 ?_ ?_) | (with_reducible refine bel_step hb14 ?_ ?_) | (with_reducible refine bel_step hb15 ?_ ?_) | (with_reducible refine bel_step hb16 ?_ ?_) | (with_reducible exact Nat.le_refl _) | (with_reducible assumption) | omega | (simp only [World.size_alloc, World.size_setCell, World.size_drew]; omega) | (simp; omega) | (simp; done)))⟩
end Go.Proofs.Ytfdpplamebmdhaa
