/- The walk of the exact law on LiveAddrs. -/
import Derived.Test.YtjimpmdelnnflaaLivB
import Derived.Test.YtjimpmdelnnflaaLivW
import Derived.Test.YtjimpmdelnnflaaSpanM
import Derived.Test.YtjimpmdelnnflaaLargeM
import Derived.Deep.RegionHeld3
import Derived.Deep.DrawnRows
import Derived.Deep.DeepCutAuto
namespace Go.Proofs.Ytjimpmdelnnflaa
open Go.ChangeShapes Go.WideShapes Go.ChangeAt Go.RowKit
set_option linter.unusedVariables false
attribute [local go_sem ↓] Go.wp_at_zero Go.wp_at_succ

set_option maxHeartbeats 16000000 in
set_option maxRecDepth 100000 in
theorem law_liveAddrs (A0 : Option Addr) (c0 : Nat) (x0 : List (Int × Int × Int)) (A1 : Option Addr) (c1 : Nat) (x1 : List (Int × Int × Int)) (w : World) (hr00 : Rd w w.heap.size A0 (tv x0)) (hm00 : x0.length ≤ maxLen) (hr10 : Rd w w.heap.size A1 (tv x1)) (hm10 : x1.length ≤ maxLen) : Calls Try.prog 4 #[.slice A0 x0.length c0, .slice A1 x1.length c1] w fun e w' => e = .returned (.bool true) ∧ Below w.heap.size w w' := by
  obtain ⟨zs, HS, HI, hy⟩ : ∃ zs : List Int, (∀ (A A' : Option Addr) (c c' : Nat) (W : World) {B B' : Nat}, Rd W B A (tv x0) → Rd W B' A' (tv x1) → x0.length ≤ 1048576 → x1.length ≤ 1048576 → Calls Try.prog 21 #[.slice A x0.length c, .slice A' x1.length c'] W (MadeIntSN zs W)) ∧
      (∀ (A A' : Option Addr) (c c' : Nat) (W : World) {B B' : Nat}, Rd W B A (tv x0) → Rd W B' A' (tv x1) → x0.length ≤ 1048576 → x1.length ≤ 1048576 → Calls Try.prog 14 #[.slice A x0.length c, .slice A' x1.length c'] W (MadeIntSN zs W)) ∧ zs.length ≤ 1048576 := by
    refine ⟨specL x0 x1, fun A A' c c' W B B' hr hs hn hm => ?_, fun A A' c c' W B B' hr hs hn hm => ?_, ?_⟩
    · cases hl : layOk x0 x1
      · exact liveAddrs_s_no A A' c c' x0 x1 W hr hs hn hm hl
      · exact liveAddrs_s_yes A A' c c' x0 x1 W hr hs hn hm hl
    · rw [← live_same]
      cases hl : layOk x0 x1
      · exact liveAddrs_i_no A A' c c' x0 x1 W hr hs hn hm hl
      · exact liveAddrs_i_yes A A' c c' x0 x1 W hr hs hn hm hl
    · have := spD_len x0 x1 512
      unfold specL
      split <;> simp <;> omega
  replace HS := Lib.hid HS
  replace HI := Lib.hid HI
  replace hy := Lib.hid hy
  go_enter Try.func4, Try.ntmps4
  go_wp2_with fail
  refine (szSpanS_any _ _ _ _ _ (by omega) (by omega) hm00).mono ?_
  rintro e m1 ⟨rz0, rfl, qz0, sz0, hb1⟩
  replace hr00 := hr00.below hb1
  replace hr10 := hr10.below hb1
  have hz1 := hb1.size
  try simp only [World.size_alloc, World.size_drew] at hz1
  by_cases hneg0 : rz0 < 0
  · go_wp2
    go_ret
    exact ⟨rfl, by (repeat' (first | (with_reducible exact Below.refl _ _) | (with_reducible refine bel_alloc ?_ ?_ _) | (with_reducible refine Below.setCell ?_ ?_ _) | (with_reducible refine below_drewN ?_ _) | (with_reducible refine Below.drew ?_) | (with_reducible refine bel_step hb1 ?_ ?_) | (with_reducible exact Nat.le_refl _) | (with_reducible assumption) | omega | (simp only [World.size_alloc, World.size_setCell, World.size_drew]; omega) | (simp; omega) | (simp; done)))⟩
  have hn00 : x0.length ≤ 1048576 := by have := sz0 (by omega); first | exact this | omega | exact ⟨by omega, this.2⟩
  go_wp2_with fail
  refine (szLargeS_any _ _ _ _ _ (by omega) (by omega) hm10).mono ?_
  rintro e m2 ⟨rz1, rfl, qz1, sz1, hb2⟩
  replace hr00 := hr00.below hb2
  replace hr10 := hr10.below hb2
  have hz2 := hb2.size
  try simp only [World.size_alloc, World.size_drew] at hz2
  by_cases hneg1 : rz1 < 0
  · go_wp2
    go_ret
    exact ⟨rfl, by (repeat' (first | (with_reducible exact Below.refl _ _) | (with_reducible refine bel_alloc ?_ ?_ _) | (with_reducible refine Below.setCell ?_ ?_ _) | (with_reducible refine below_drewN ?_ _) | (with_reducible refine Below.drew ?_) | (with_reducible refine bel_step hb1 ?_ ?_) | (with_reducible refine bel_step hb2 ?_ ?_) | (with_reducible exact Nat.le_refl _) | (with_reducible assumption) | omega | (simp only [World.size_alloc, World.size_setCell, World.size_drew]; omega) | (simp; omega) | (simp; done)))⟩
  have hn10 : x1.length ≤ 1048576 := by have := sz1 (by omega); first | exact this | omega | exact ⟨by omega, this.2⟩
  clear sz0 qz0 sz1 qz1
  have hyz := hy.out
  go_wp2_with fail
  refine (toSpanS_w _ _ _ _ hr00 hn00).mono ?_
  rintro e m3 ⟨A0w, c0w, Sw00, rfl, kw00, ow00, hSw00, hb3⟩
  replace hr00 := hr00.below hb3
  replace hr10 := hr10.below hb3
  have hz3 := hb3.size
  try simp only [World.size_alloc, World.size_drew] at hz3
  replace hSw00 : ∀ b, Sw00 b → m2.heap.size + 0 ≤ b ∧ b < m3.heap.size := fun b hb => by have := hSw00 b hb; (try simp only [World.size_alloc, World.size_drew] at this); omega
  go_wp2_with fail
  refine (toLargeS_w _ _ _ _ hr10 hn10).mono ?_
  rintro e m4 ⟨A1w, c1w, Sw10, rfl, kw10, ow10, hSw10, hb4⟩
  replace hr00 := hr00.below hb4
  replace hr10 := hr10.below hb4
  replace ow00 := ow00.below hb4
  have hz4 := hb4.size
  try simp only [World.size_alloc, World.size_drew] at hz4
  replace hSw10 : ∀ b, Sw10 b → m3.heap.size + 0 ≤ b ∧ b < m4.heap.size := fun b hb => by have := hSw10 b hb; (try simp only [World.size_alloc, World.size_drew] at this); omega
  go_wp2_with fail
  refine (HS.out _ _ _ _ _ ow00.rd ow10.rd hn00 hn10).mono ?_
  rintro e m5 ⟨Aw0, cw0, Tw00, rfl, rw00, hTw00, hb5⟩
  replace hr00 := hr00.below hb5
  replace hr10 := hr10.below hb5
  replace ow00 := ow00.below hb5
  replace ow10 := ow10.below hb5
  have hz5 := hb5.size
  try simp only [World.size_alloc, World.size_drew] at hz5
  replace hTw00 : ∀ b, Tw00 b → m4.heap.size + 0 ≤ b ∧ b < m5.heap.size := fun b hb => by have := hTw00 b hb; (try simp only [World.size_alloc, World.size_drew] at this); omega
  go_wp2_with fail
  refine (toSpanS_w _ _ _ _ hr00 hn00).mono ?_
  rintro e m6 ⟨A0x, c0x, Sx00, rfl, kx00, ox00, hSx00, hb6⟩
  replace hr00 := hr00.below hb6
  replace hr10 := hr10.below hb6
  replace rw00 := rw00.below hb6
  have hz6 := hb6.size
  try simp only [World.size_alloc, World.size_drew] at hz6
  replace hSx00 : ∀ b, Sx00 b → m5.heap.size + 0 ≤ b ∧ b < m6.heap.size := fun b hb => by have := hSx00 b hb; (try simp only [World.size_alloc, World.size_drew] at this); omega
  go_wp2_with fail
  refine (toLargeS_w _ _ _ _ hr10 hn10).mono ?_
  rintro e m7 ⟨A1x, c1x, Sx10, rfl, kx10, ox10, hSx10, hb7⟩
  replace hr00 := hr00.below hb7
  replace hr10 := hr10.below hb7
  replace rw00 := rw00.below hb7
  replace ox00 := ox00.below hb7
  have hz7 := hb7.size
  try simp only [World.size_alloc, World.size_drew] at hz7
  replace hSx10 : ∀ b, Sx10 b → m6.heap.size + 0 ≤ b ∧ b < m7.heap.size := fun b hb => by have := hSx10 b hb; (try simp only [World.size_alloc, World.size_drew] at this); omega
  go_wp2_with fail
  refine (HI.out _ _ _ _ _ ox00.rd ox10.rd hn00 hn10).mono ?_
  rintro e m8 ⟨Ag0, cg0, Tg00, rfl, rg00, hTg00, hb8⟩
  replace hr00 := hr00.below hb8
  replace hr10 := hr10.below hb8
  replace rw00 := rw00.below hb8
  replace ox00 := ox00.below hb8
  replace ox10 := ox10.below hb8
  have hz8 := hb8.size
  try simp only [World.size_alloc, World.size_drew] at hz8
  replace hTg00 : ∀ b, Tg00 b → m7.heap.size + 0 ≤ b ∧ b < m8.heap.size := fun b hb => by have := hTg00 b hb; (try simp only [World.size_alloc, World.size_drew] at this); omega
  go_wp2_with fail
  refine (eqIntS_same _ _ _ _ _ _ rg00.rd rw00.rd hyz).mono ?_
  rintro e m9 ⟨rfl, hb9⟩
  replace hr00 := hr00.below hb9
  replace hr10 := hr10.below hb9
  replace rw00 := rw00.below hb9
  replace ox00 := ox00.below hb9
  replace ox10 := ox10.below hb9
  replace rg00 := rg00.below hb9
  have hz9 := hb9.size
  try simp only [World.size_alloc, World.size_drew] at hz9
  go_wp2_with fail
  refine (toSpanS_w _ _ _ _ hr00 hn00).mono ?_
  rintro e m10 ⟨A0y0, c0y0, Sy000, rfl, ky000, oy000, hSy000, hb10⟩
  replace hr00 := hr00.below hb10
  replace hr10 := hr10.below hb10
  replace rw00 := rw00.below hb10
  replace ox00 := ox00.below hb10
  replace ox10 := ox10.below hb10
  replace rg00 := rg00.below hb10
  have hz10 := hb10.size
  try simp only [World.size_alloc, World.size_drew] at hz10
  replace hSy000 : ∀ b, Sy000 b → m9.heap.size + 0 ≤ b ∧ b < m10.heap.size := fun b hb => by have := hSy000 b hb; (try simp only [World.size_alloc, World.size_drew] at this); omega
  go_wp2_with fail
  refine (eqSpanS_same _ _ _ _ _ _ ox00.rd oy000.rd hn00).mono ?_
  rintro e m11 ⟨rfl, hb11⟩
  replace hr00 := hr00.below hb11
  replace hr10 := hr10.below hb11
  replace rw00 := rw00.below hb11
  replace ox00 := ox00.below hb11
  replace ox10 := ox10.below hb11
  replace rg00 := rg00.below hb11
  replace oy000 := oy000.below hb11
  have hz11 := hb11.size
  try simp only [World.size_alloc, World.size_drew] at hz11
  go_wp2_with fail
  refine (toLargeS_w _ _ _ _ hr10 hn10).mono ?_
  rintro e m12 ⟨A1y1, c1y1, Sy110, rfl, ky110, oy110, hSy110, hb12⟩
  replace hr00 := hr00.below hb12
  replace hr10 := hr10.below hb12
  replace rw00 := rw00.below hb12
  replace ox00 := ox00.below hb12
  replace ox10 := ox10.below hb12
  replace rg00 := rg00.below hb12
  have hz12 := hb12.size
  try simp only [World.size_alloc, World.size_drew] at hz12
  replace hSy110 : ∀ b, Sy110 b → m11.heap.size + 0 ≤ b ∧ b < m12.heap.size := fun b hb => by have := hSy110 b hb; (try simp only [World.size_alloc, World.size_drew] at this); omega
  go_wp2_with fail
  refine (eqLargeS_same _ _ _ _ _ _ ox10.rd oy110.rd hn10).mono ?_
  rintro e m13 ⟨rfl, hb13⟩
  replace hr00 := hr00.below hb13
  replace hr10 := hr10.below hb13
  replace rw00 := rw00.below hb13
  replace ox00 := ox00.below hb13
  replace ox10 := ox10.below hb13
  replace rg00 := rg00.below hb13
  replace oy110 := oy110.below hb13
  have hz13 := hb13.size
  try simp only [World.size_alloc, World.size_drew] at hz13
  go_wp2_with fail
  refine (markSpanS_any _ _ _ _ _ ox00 hn00 (by omega) (by omega)).mono ?_
  rintro e m14 ⟨rfl, nox00, ho14⟩
  have hz14 := ho14.size
  try simp only [World.size_alloc, World.size_drew] at hz14
  have hl14 : ∀ b, Sx00 b → w.heap.size ≤ b := fun b hb => by have := hSx00 b hb; omega
  replace hr00 := hr00.outS ho14 hl14
  replace hr10 := hr10.outS ho14 hl14
  replace rw00 := rw00.outS ho14 (fun b hb hx => by first | (have h1 := hTw00 b hb; have h2 := hSx00 b hx; omega))
  replace ox10 := ox10.outS ho14 (fun b hb hx => by first | (have h1 := hSx10 b hb; have h2 := hSx00 b hx; omega))
  replace rg00 := rg00.outS ho14 (fun b hb hx => by first | (have h1 := hTg00 b hb; have h2 := hSx00 b hx; omega))
  clear ox00
  go_wp2_with fail
  refine (markLargeS_any _ _ _ _ _ ox10 hn10 (by omega) (by omega)).mono ?_
  rintro e m15 ⟨rfl, nox10, ho15⟩
  have hz15 := ho15.size
  try simp only [World.size_alloc, World.size_drew] at hz15
  have hl15 : ∀ b, Sx10 b → w.heap.size ≤ b := fun b hb => by have := hSx10 b hb; omega
  replace hr00 := hr00.outS ho15 hl15
  replace hr10 := hr10.outS ho15 hl15
  replace rw00 := rw00.outS ho15 (fun b hb hx => by first | (have h1 := hTw00 b hb; have h2 := hSx10 b hx; omega))
  replace rg00 := rg00.outS ho15 (fun b hb hx => by first | (have h1 := hTg00 b hb; have h2 := hSx10 b hx; omega))
  replace nox00 := nox00.outS ho15 (fun b hb hx => by first | (have h1 := hSx00 b hb; have h2 := hSx10 b hx; omega))
  clear ox10
  go_wp2_with fail
  refine (eqIntS_same _ _ _ _ _ _ rg00.rd rw00.rd hyz).mono ?_
  rintro e m16 ⟨rfl, hb16⟩
  replace hr00 := hr00.below hb16
  replace hr10 := hr10.below hb16
  replace rw00 := rw00.below hb16
  replace rg00 := rg00.below hb16
  have hz16 := hb16.size
  try simp only [World.size_alloc, World.size_drew] at hz16
  go_wp2_with fail
  refine (markIntS_w _ _ _ _ _ rg00 hyz (by omega) (by omega)).mono ?_
  rintro e m17 ⟨rfl, nrg00, ho17⟩
  have hz17 := ho17.size
  try simp only [World.size_alloc, World.size_drew] at hz17
  have hl17 : ∀ b, Tg00 b → w.heap.size ≤ b := fun b hb => by have := hTg00 b hb; omega
  replace hr00 := hr00.outS ho17 hl17
  replace hr10 := hr10.outS ho17 hl17
  replace rw00 := rw00.outS ho17 (fun b hb hx => by first | (have h1 := hTw00 b hb; have h2 := hTg00 b hx; omega))
  clear rg00
  go_wp2_with fail
  refine (heldIntS_b _ _ _ _ _ nrg00.rd hyz (by omega) (by omega)).mono ?_
  rintro e m18 ⟨rfl, hb18⟩
  replace hr00 := hr00.below hb18
  replace hr10 := hr10.below hb18
  replace rw00 := rw00.below hb18
  replace nrg00 := nrg00.below hb18
  have hz18 := hb18.size
  try simp only [World.size_alloc, World.size_drew] at hz18
  go_wp2_with fail
  refine (toSpanS_w _ _ _ _ hr00 hn00).mono ?_
  rintro e m19 ⟨A0h, c0h, Sh00, rfl, kh00, oh00, hSh00, hb19⟩
  replace hr00 := hr00.below hb19
  replace hr10 := hr10.below hb19
  replace rw00 := rw00.below hb19
  replace nrg00 := nrg00.below hb19
  have hz19 := hb19.size
  try simp only [World.size_alloc, World.size_drew] at hz19
  replace hSh00 : ∀ b, Sh00 b → m18.heap.size + 0 ≤ b ∧ b < m19.heap.size := fun b hb => by have := hSh00 b hb; (try simp only [World.size_alloc, World.size_drew] at this); omega
  go_wp2_with fail
  refine (toLargeS_w _ _ _ _ hr10 hn10).mono ?_
  rintro e m20 ⟨A1h, c1h, Sh10, rfl, kh10, oh10, hSh10, hb20⟩
  replace hr00 := hr00.below hb20
  replace hr10 := hr10.below hb20
  replace rw00 := rw00.below hb20
  replace nrg00 := nrg00.below hb20
  replace oh00 := oh00.below hb20
  have hz20 := hb20.size
  try simp only [World.size_alloc, World.size_drew] at hz20
  replace hSh10 : ∀ b, Sh10 b → m19.heap.size + 0 ≤ b ∧ b < m20.heap.size := fun b hb => by have := hSh10 b hb; (try simp only [World.size_alloc, World.size_drew] at this); omega
  go_wp2_with fail
  refine (HI.out _ _ _ _ _ oh00.rd oh10.rd hn00 hn10).mono ?_
  rintro e m21 ⟨Ah0, ch0, Th00, rfl, rh00, hTh00, hb21⟩
  replace hr00 := hr00.below hb21
  replace hr10 := hr10.below hb21
  replace rw00 := rw00.below hb21
  replace nrg00 := nrg00.below hb21
  replace oh00 := oh00.below hb21
  replace oh10 := oh10.below hb21
  have hz21 := hb21.size
  try simp only [World.size_alloc, World.size_drew] at hz21
  replace hTh00 : ∀ b, Th00 b → m20.heap.size + 0 ≤ b ∧ b < m21.heap.size := fun b hb => by have := hTh00 b hb; (try simp only [World.size_alloc, World.size_drew] at this); omega
  go_wp2_with fail
  refine (eqIntS_same _ _ _ _ _ _ rh00.rd rw00.rd hyz).mono ?_
  rintro e m22 ⟨rfl, hb22⟩
  replace hr00 := hr00.below hb22
  replace hr10 := hr10.below hb22
  replace rw00 := rw00.below hb22
  replace nrg00 := nrg00.below hb22
  replace rh00 := rh00.below hb22
  have hz22 := hb22.size
  try simp only [World.size_alloc, World.size_drew] at hz22
  go_wp2_with fail
  refine (heldIntS_b _ _ _ _ _ nrg00.rd hyz (by omega) (by omega)).mono ?_
  rintro e m23 ⟨rfl, hb23⟩
  replace hr00 := hr00.below hb23
  replace hr10 := hr10.below hb23
  replace rw00 := rw00.below hb23
  replace nrg00 := nrg00.below hb23
  replace rh00 := rh00.below hb23
  have hz23 := hb23.size
  try simp only [World.size_alloc, World.size_drew] at hz23
  all_goals
    go_wp2
    go_ret
    exact ⟨rfl, by (repeat' (first | (with_reducible exact Below.refl _ _) | (with_reducible refine bel_alloc ?_ ?_ _) | (with_reducible refine Below.setCell ?_ ?_ _) | (with_reducible refine below_drewN ?_ _) | (with_reducible refine Below.drew ?_) | (with_reducible refine bel_step hb1 ?_ ?_) | (with_reducible refine bel_step hb2 ?_ ?_) | (with_reducible refine bel_step hb3 ?_ ?_) | (with_reducible refine bel_step hb4 ?_ ?_) | (with_reducible refine bel_step hb5 ?_ ?_) | (with_reducible refine bel_step hb6 ?_ ?_) | (with_reducible refine bel_step hb7 ?_ ?_) | (with_reducible refine bel_step hb8 ?_ ?_) | (with_reducible refine bel_step hb9 ?_ ?_) | (with_reducible refine bel_step hb10 ?_ ?_) | (with_reducible refine bel_step hb11 ?_ ?_) | (with_reducible refine bel_step hb12 ?_ ?_) | (with_reducible refine bel_step hb13 ?_ ?_) | (with_reducible refine bel_outS ho14 hl14 ?_ ?_) | (with_reducible refine bel_outS ho15 hl15 ?_ ?_) | (with_reducible refine bel_step hb16 ?_ ?_) | (with_reducible refine bel_outS ho17 hl17 ?_ ?_) | (with_reducible refine bel_step hb18 ?_ ?_) | (with_reducible refine bel_step hb19 ?_ ?_) | (with_reducible refine bel_step hb20 ?_ ?_) | (with_reducible refine bel_step hb21 ?_ ?_) | (with_reducible refine bel_step hb22 ?_ ?_) | (with_reducible refine bel_step hb23 ?_ ?_) | (with_reducible exact Nat.le_refl _) | (with_reducible assumption) | omega | (simp only [World.size_alloc, World.size_setCell, World.size_drew]; omega) | (simp; omega) | (simp; done)))⟩
end Go.Proofs.Ytjimpmdelnnflaa
