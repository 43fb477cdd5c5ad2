/- The walk of the exact law on CachePut. -/
import Derived.Test.YtmfomflmbhognaaCacheKin
import Derived.Test.YtmfomflmbhognaaCacheKiy
import Derived.Test.YtmfomflmbhognaaCacheKsn
import Derived.Test.YtmfomflmbhognaaCacheKsy
import Derived.Deep.RegionHeld3
import Derived.Deep.DrawnRows
namespace Go.Proofs.Ytmfomflmbhognaa
open Go.ChangeShapes Go.WideShapes Go.ChangeAt Go.RowKit
set_option linter.unusedVariables false
attribute [local go_sem ↓] Go.wp_at_zero Go.wp_at_succ

set_option maxHeartbeats 16000000 in
set_option maxRecDepth 100000 in
theorem law_cachePut (A0 : Option Addr) (c0 : Nat) (x0 : List (List Int)) (p1 : Int) (p2 : Int) (w : World) (hr00 : Rd2 iv w w.heap.size A0 x0) (hm00 : x0.length ≤ maxLen ∧ ∀ l ∈ x0, l.length ≤ maxLen) (hp1 : -9223372036854775808 ≤ p1 ∧ p1 ≤ 9223372036854775807) (hp2 : -9223372036854775808 ≤ p2 ∧ p2 ≤ 9223372036854775807) : Calls Try.prog 10 #[.agg #[.slice A0 x0.length c0], .int .i64 p1, .int .i64 p2] w fun e w' => e = .returned (.bool true) ∧ Below w.heap.size w w' := by
  obtain ⟨ys, ok, HS, HI, hy⟩ : ∃ (ys : List (List Int)) (ok : Bool), (∀ (A : Option Addr) (c : Nat) (W : World) {B : Nat}, Rd2 iv W B A x0 → Rows x0 → Calls Try.prog 36 #[.agg #[.slice A x0.length c], .int .i64 p1, .int .i64 p2] W (MadePut ys ok W)) ∧
      (∀ (A : Option Addr) (c : Nat) (W : World) {B : Nat}, Rd2 iv W B A x0 → Rows x0 → Calls Try.prog 15 #[.agg #[.slice A x0.length c], .int .i64 p1, .int .i64 p2] W (MadePut ys ok W)) ∧ (Rows x0 → Rows ys) := by
    cases hv : hasL x0 p1 with
    | false => exact ⟨x0, false, fun A c W B hr hn => cachePut_s_no1 A c x0 p1 p2 W hr hn hv, fun A c W B hr hn => cachePut_i_no1 A c x0 p1 p2 W hr hn hv, fun hn => hn⟩
    | true =>
      obtain ⟨κ, rfl⟩ := hasL_nat hv
      have hk := hasL_lt hv
      have h8 := hasL_row hv
      cases hok : cOkB (x0.set κ (x0[κ] ++ [p2])) with
      | false => exact ⟨x0, false, fun A c W B hr hn => cachePut_s_no2 A c x0 κ _ p2 _ W hr hn hv hk rfl rfl hok, fun A c W B hr hn => cachePut_i_no2 A c x0 κ _ p2 _ W hr hn hv hk rfl rfl hok, fun hn => hn⟩
      | true => exact ⟨_, true, fun A c W B hr hn => cachePut_s_yes A c x0 κ _ p2 _ W hr hn hv hk rfl rfl hok, fun A c W B hr hn => cachePut_i_yes A c x0 κ _ p2 _ W hr hn hv hk rfl rfl hok, fun hn => rows_set hn (by simp; omega)⟩
  replace HS := Lib.hid HS
  replace HI := Lib.hid HI
  replace hy := Lib.hid hy
  go_enter Try.func10, Try.ntmps10
  go_wp2_with fail
  refine (szCache_any _ _ _ _ _ (hr00.alloc _) (by omega) (by omega) hm00).mono ?_
  rintro e u1 ⟨rz0, rfl, qz0, sz0, hb1⟩
  replace hr00 := (hr00.alloc _).below hb1
  have a00 : u1.cell? ⟨w.heap.size, 0, none⟩ = some (.slice A0 x0.length c0) := keep hb1 (by simp [go_sem])
  have hz1 := hb1.size
  try simp only [World.size_alloc, World.size_drew] at hz1
  have la00 := lt_of_cell' a00
  by_cases hneg0 : rz0 < 0
  · go_wp2
    go_ret
    exact ⟨rfl, by (repeat' (first | (with_reducible exact Below.refl _ _) | (with_reducible refine bel_alloc ?_ ?_ _) | (with_reducible refine Below.setCell ?_ ?_ _) | (with_reducible refine below_drewN ?_ _) | (with_reducible refine Below.drew ?_) | (with_reducible refine bel_step hb1 ?_ ?_) | (with_reducible exact Nat.le_refl _) | (with_reducible assumption) | omega | (simp only [World.size_alloc, World.size_setCell, World.size_drew]; omega) | (simp; omega) | (simp; done)))⟩
  have hn00 : Rows x0 := by have := sz0 (by omega); first | exact this | omega | exact ⟨by omega, this.2⟩
  clear sz0 qz0
  have hyz := hy.out hn00
  go_wp2_with fail
  refine (toCache_w _ _ _ _ hr00 hn00).mono ?_
  rintro e u2 ⟨A0w, c0w, Sw00, rfl, kw00, ow00, hSw00, hb2⟩
  clear la00
  replace hr00 := hr00.below hb2
  replace a00 := keep hb2 a00
  have hz2 := hb2.size
  try simp only [World.size_alloc, World.size_drew] at hz2
  replace hSw00 : ∀ b, Sw00 b → u1.heap.size + 0 ≤ b ∧ b < u2.heap.size := fun b hb => by have := hSw00 b hb; (try simp only [World.size_alloc, World.size_drew] at this); omega
  have la00 := lt_of_cell' a00
  go_wp2_with fail
  refine (HS.out _ _ _ ow00.rd hn00).mono ?_
  rintro e u3 ⟨Aw0, cw0, Tw00, rfl, rw00, hTw00, hb3⟩
  clear la00
  replace hr00 := hr00.below hb3
  replace a00 := keep hb3 a00
  replace ow00 := ow00.below hb3
  have hz3 := hb3.size
  try simp only [World.size_alloc, World.size_drew] at hz3
  replace hTw00 : ∀ b, Tw00 b → u2.heap.size + 0 ≤ b ∧ b < u3.heap.size := fun b hb => by have := hTw00 b hb; (try simp only [World.size_alloc, World.size_drew] at this); omega
  have la00 := lt_of_cell' a00
  go_wp2_with fail
  refine (toCache_w _ _ _ _ (hr00.alloc _) hn00).mono ?_
  rintro e u4 ⟨A0x, c0x, Sx00, rfl, kx00, ox00, hSx00, hb4⟩
  clear la00
  replace hr00 := (hr00.alloc _).below hb4
  replace a00 := keep hb4 (cell_al a00 _)
  replace rw00 := (rw00.alloc _).below hb4
  have bw00 : u4.cell? ⟨u3.heap.size, 0, none⟩ = some (.slice Aw0 ys.length cw0) := keep hb4 (by simp [go_sem])
  have hz4 := hb4.size
  try simp only [World.size_alloc, World.size_drew] at hz4
  replace hSx00 : ∀ b, Sx00 b → u3.heap.size + 1 ≤ b ∧ b < u4.heap.size := fun b hb => by have := hSx00 b hb; (try simp only [World.size_alloc, World.size_drew] at this); omega
  have la00 := lt_of_cell' a00
  have lbw00 := lt_of_cell' bw00
  go_wp2_with fail
  refine (HI.out _ _ _ (ox00.alloc _).rd hn00).mono ?_
  rintro e u5 ⟨Ag0, cg0, Tg00, rfl, rg00, hTg00, hb5⟩
  clear la00 lbw00
  replace hr00 := (hr00.alloc _).below hb5
  replace a00 := keep hb5 (cell_al a00 _)
  replace rw00 := (rw00.alloc _).below hb5
  replace bw00 := keep hb5 (cell_al bw00 _)
  replace ox00 := (ox00.alloc _).below hb5
  have x00 : u5.cell? ⟨u4.heap.size, 0, none⟩ = some (.slice A0x x0.length c0x) := keep hb5 (by simp [go_sem])
  have hz5 := hb5.size
  try simp only [World.size_alloc, World.size_drew] at hz5
  replace hTg00 : ∀ b, Tg00 b → u4.heap.size + 1 ≤ b ∧ b < u5.heap.size := fun b hb => by have := hTg00 b hb; (try simp only [World.size_alloc, World.size_drew] at this); omega
  have la00 := lt_of_cell' a00
  have lbw00 := lt_of_cell' bw00
  have lx00 := lt_of_cell' x00
  go_wp2_with fail
  refine (eqCache_same _ _ _ _ _ _ (rg00.alloc _).rd (rw00.alloc _).rd hyz).mono ?_
  rintro e u6 ⟨rfl, hb6⟩
  clear la00 lbw00 lx00
  replace hr00 := (hr00.alloc _).below hb6
  replace a00 := keep hb6 (cell_al a00 _)
  replace rw00 := (rw00.alloc _).below hb6
  replace bw00 := keep hb6 (cell_al bw00 _)
  replace ox00 := (ox00.alloc _).below hb6
  replace x00 := keep hb6 (cell_al x00 _)
  replace rg00 := (rg00.alloc _).below hb6
  have bg00 : u6.cell? ⟨u5.heap.size, 0, none⟩ = some (.slice Ag0 ys.length cg0) := keep hb6 (by simp [go_sem])
  have hz6 := hb6.size
  try simp only [World.size_alloc, World.size_drew] at hz6
  have la00 := lt_of_cell' a00
  have lbw00 := lt_of_cell' bw00
  have lx00 := lt_of_cell' x00
  have lbg00 := lt_of_cell' bg00
  go_wp2_with fail
  clear la00 lbw00 lx00 lbg00
  replace hr00 := hr00.drew
  replace a00 := (show World.cell? (World.drew _) _ = _ from a00)
  replace rw00 := rw00.drew
  replace bw00 := (show World.cell? (World.drew _) _ = _ from bw00)
  replace ox00 := ox00.drew
  replace x00 := (show World.cell? (World.drew _) _ = _ from x00)
  replace rg00 := rg00.drew
  replace bg00 := (show World.cell? (World.drew _) _ = _ from bg00)
  go_region_held3 (fun w' => w'.cell? ⟨w.heap.size, 0, none⟩ = some (.slice A0 x0.length c0) ∧ w'.cell? ⟨u4.heap.size, 0, none⟩ = some (.slice A0x x0.length c0x)) (first | go_keep | exact ⟨(keep hb7 a00), (keep hb7 x00)⟩ | exact ⟨(keep hb8 (keep hb7 a00)), (keep hb8 (keep hb7 x00))⟩)
    (first | (go_at_call 20; refine (toCache_w _ _ _ _ hr00 hn00).mono ?_; rintro e u7 ⟨A0y0, c0y0, Sy000, rfl, ky000, oy000, hSy000, hb7⟩) | (go_at_call 22; refine (eqCache_same _ _ _ _ _ _ (ox00.below hb7).rd oy000.rd hn00).mono ?_; rintro e u8 ⟨rfl, hb8⟩))
  replace hr00 := ((hr00.below hb7).below hb8)
  replace a00 := (keep hb8 (keep hb7 a00))
  replace rw00 := ((rw00.below hb7).below hb8)
  replace bw00 := (keep hb8 (keep hb7 bw00))
  replace ox00 := ((ox00.below hb7).below hb8)
  replace x00 := (keep hb8 (keep hb7 x00))
  replace rg00 := ((rg00.below hb7).below hb8)
  replace bg00 := (keep hb8 (keep hb7 bg00))
  have hz7 := hb7.size
  try simp only [World.size_alloc, World.size_drew] at hz7
  replace hSy000 : ∀ b, Sy000 b → u6.heap.size + 0 ≤ b ∧ b < u7.heap.size := fun b hb => by have := hSy000 b hb; (try simp only [World.size_alloc, World.size_drew] at this); omega
  have hz8 := hb8.size
  try simp only [World.size_alloc, World.size_drew] at hz8
  have la00 := lt_of_cell' a00
  have lbw00 := lt_of_cell' bw00
  have lx00 := lt_of_cell' x00
  have lbg00 := lt_of_cell' bg00
  go_wp2_with fail
  refine (markCache_c _ _ _ _ _ ox00 hn00 (by omega) (by omega)).mono ?_
  rintro e u9 ⟨rfl, nox00, ho9⟩
  have hz9 := ho9.size
  try simp only [World.size_alloc, World.size_drew] at hz9
  clear la00 lbw00 lx00 lbg00
  have hl9 : ∀ b, Sx00 b → w.heap.size ≤ b := fun b hb => by have := hSx00 b hb; omega
  replace hr00 := hr00.outS ho9 hl9
  replace a00 := ho9.cell a00 (fun hb => by have := hSx00 _ hb; first | omega | (dsimp only at this; omega) | (simp at this; omega))
  replace rw00 := rw00.outS ho9 (fun b hb hx => by first | (have h1 := hTw00 b hb; have h2 := hSx00 b hx; omega))
  replace bw00 := ho9.cell bw00 (fun hb => by have := hSx00 _ hb; first | omega | (dsimp only at this; omega) | (simp at this; omega))
  replace x00 := ho9.cell x00 (fun hb => by have := hSx00 _ hb; first | omega | (dsimp only at this; omega) | (simp at this; omega))
  replace rg00 := rg00.outS ho9 (fun b hb hx => by first | (have h1 := hTg00 b hb; have h2 := hSx00 b hx; omega))
  replace bg00 := ho9.cell bg00 (fun hb => by have := hSx00 _ hb; first | omega | (dsimp only at this; omega) | (simp at this; omega))
  clear ox00
  have la00 := lt_of_cell' a00
  have lbw00 := lt_of_cell' bw00
  have lx00 := lt_of_cell' x00
  have lbg00 := lt_of_cell' bg00
  go_wp2_with fail
  refine (eqCache_same _ _ _ _ _ _ rg00.rd rw00.rd hyz).mono ?_
  rintro e u10 ⟨rfl, hb10⟩
  clear la00 lbw00 lx00 lbg00
  replace hr00 := hr00.below hb10
  replace a00 := keep hb10 a00
  replace rw00 := rw00.below hb10
  replace bw00 := keep hb10 bw00
  replace x00 := keep hb10 x00
  replace rg00 := rg00.below hb10
  replace bg00 := keep hb10 bg00
  have hz10 := hb10.size
  try simp only [World.size_alloc, World.size_drew] at hz10
  have la00 := lt_of_cell' a00
  have lbw00 := lt_of_cell' bw00
  have lx00 := lt_of_cell' x00
  have lbg00 := lt_of_cell' bg00
  go_wp2_with fail
  refine (markCache_any _ _ _ _ _ rg00 hyz (by omega) (by omega)).mono ?_
  rintro e u11 ⟨rfl, nrg00, ho11⟩
  have hz11 := ho11.size
  try simp only [World.size_alloc, World.size_drew] at hz11
  clear la00 lbw00 lx00 lbg00
  have hl11 : ∀ b, Tg00 b → w.heap.size ≤ b := fun b hb => by have := hTg00 b hb; omega
  replace hr00 := hr00.outS ho11 hl11
  replace a00 := ho11.cell a00 (fun hb => by have := hTg00 _ hb; first | omega | (dsimp only at this; omega) | (simp at this; omega))
  replace rw00 := rw00.outS ho11 (fun b hb hx => by first | (have h1 := hTw00 b hb; have h2 := hTg00 b hx; omega))
  replace bw00 := ho11.cell bw00 (fun hb => by have := hTg00 _ hb; first | omega | (dsimp only at this; omega) | (simp at this; omega))
  replace x00 := ho11.cell x00 (fun hb => by have := hTg00 _ hb; first | omega | (dsimp only at this; omega) | (simp at this; omega))
  replace bg00 := ho11.cell bg00 (fun hb => by have := hTg00 _ hb; first | omega | (dsimp only at this; omega) | (simp at this; omega))
  clear rg00
  have la00 := lt_of_cell' a00
  have lbw00 := lt_of_cell' bw00
  have lx00 := lt_of_cell' x00
  have lbg00 := lt_of_cell' bg00
  go_wp2_with fail
  refine (heldCache_b _ _ _ _ _ nrg00.rd hyz (by omega) (by omega)).mono ?_
  rintro e u12 ⟨rfl, hb12⟩
  clear la00 lbw00 lx00 lbg00
  replace hr00 := hr00.below hb12
  replace a00 := keep hb12 a00
  replace rw00 := rw00.below hb12
  replace bw00 := keep hb12 bw00
  replace x00 := keep hb12 x00
  replace bg00 := keep hb12 bg00
  replace nrg00 := nrg00.below hb12
  have hz12 := hb12.size
  try simp only [World.size_alloc, World.size_drew] at hz12
  have la00 := lt_of_cell' a00
  have lbw00 := lt_of_cell' bw00
  have lx00 := lt_of_cell' x00
  have lbg00 := lt_of_cell' bg00
  go_wp2_with fail
  refine (toCache_w _ _ _ _ hr00 hn00).mono ?_
  rintro e u13 ⟨A0h, c0h, Sh00, rfl, kh00, oh00, hSh00, hb13⟩
  clear la00 lbw00 lx00 lbg00
  replace hr00 := hr00.below hb13
  replace a00 := keep hb13 a00
  replace rw00 := rw00.below hb13
  replace bw00 := keep hb13 bw00
  replace x00 := keep hb13 x00
  replace bg00 := keep hb13 bg00
  replace nrg00 := nrg00.below hb13
  have hz13 := hb13.size
  try simp only [World.size_alloc, World.size_drew] at hz13
  replace hSh00 : ∀ b, Sh00 b → u12.heap.size + 0 ≤ b ∧ b < u13.heap.size := fun b hb => by have := hSh00 b hb; (try simp only [World.size_alloc, World.size_drew] at this); omega
  have la00 := lt_of_cell' a00
  have lbw00 := lt_of_cell' bw00
  have lx00 := lt_of_cell' x00
  have lbg00 := lt_of_cell' bg00
  go_wp2_with fail
  refine (HI.out _ _ _ oh00.rd hn00).mono ?_
  rintro e u14 ⟨Ah0, ch0, Th00, rfl, rh00, hTh00, hb14⟩
  clear la00 lbw00 lx00 lbg00
  replace hr00 := hr00.below hb14
  replace a00 := keep hb14 a00
  replace rw00 := rw00.below hb14
  replace bw00 := keep hb14 bw00
  replace x00 := keep hb14 x00
  replace bg00 := keep hb14 bg00
  replace nrg00 := nrg00.below hb14
  replace oh00 := oh00.below hb14
  have hz14 := hb14.size
  try simp only [World.size_alloc, World.size_drew] at hz14
  replace hTh00 : ∀ b, Th00 b → u13.heap.size + 0 ≤ b ∧ b < u14.heap.size := fun b hb => by have := hTh00 b hb; (try simp only [World.size_alloc, World.size_drew] at this); omega
  have la00 := lt_of_cell' a00
  have lbw00 := lt_of_cell' bw00
  have lx00 := lt_of_cell' x00
  have lbg00 := lt_of_cell' bg00
  go_wp2_with fail
  refine (eqCache_same _ _ _ _ _ _ (rh00.alloc _).rd (rw00.alloc _).rd hyz).mono ?_
  rintro e u15 ⟨rfl, hb15⟩
  clear la00 lbw00 lx00 lbg00
  replace hr00 := (hr00.alloc _).below hb15
  replace a00 := keep hb15 (cell_al a00 _)
  replace rw00 := (rw00.alloc _).below hb15
  replace bw00 := keep hb15 (cell_al bw00 _)
  replace x00 := keep hb15 (cell_al x00 _)
  replace bg00 := keep hb15 (cell_al bg00 _)
  replace nrg00 := (nrg00.alloc _).below hb15
  replace rh00 := (rh00.alloc _).below hb15
  have bh00 : u15.cell? ⟨u14.heap.size, 0, none⟩ = some (.slice Ah0 ys.length ch0) := keep hb15 (by simp [go_sem])
  have hz15 := hb15.size
  try simp only [World.size_alloc, World.size_drew] at hz15
  have la00 := lt_of_cell' a00
  have lbw00 := lt_of_cell' bw00
  have lx00 := lt_of_cell' x00
  have lbg00 := lt_of_cell' bg00
  have lbh00 := lt_of_cell' bh00
  go_wp2_with fail
  refine (heldCache_b _ _ _ _ _ nrg00.rd hyz (by omega) (by omega)).mono ?_
  rintro e u16 ⟨rfl, hb16⟩
  clear la00 lbw00 lx00 lbg00 lbh00
  replace hr00 := hr00.below hb16
  replace a00 := keep hb16 a00
  replace rw00 := rw00.below hb16
  replace bw00 := keep hb16 bw00
  replace x00 := keep hb16 x00
  replace bg00 := keep hb16 bg00
  replace nrg00 := nrg00.below hb16
  replace rh00 := rh00.below hb16
  replace bh00 := keep hb16 bh00
  have hz16 := hb16.size
  try simp only [World.size_alloc, World.size_drew] at hz16
  have la00 := lt_of_cell' a00
  have lbw00 := lt_of_cell' bw00
  have lx00 := lt_of_cell' x00
  have lbg00 := lt_of_cell' bg00
  have lbh00 := lt_of_cell' bh00
  all_goals
    go_wp2
    go_ret
    exact ⟨rfl, by (repeat' (first | (with_reducible exact Below.refl _ _) | (with_reducible refine bel_alloc ?_ ?_ _) | (with_reducible refine Below.setCell ?_ ?_ _) | (with_reducible refine below_drewN ?_ _) | (with_reducible refine Below.drew ?_) | (with_reducible refine bel_step hb1 ?_ ?_) | (with_reducible refine bel_step hb2 ?_ ?_) | (with_reducible refine bel_step hb3 ?_ ?_) | (with_reducible refine bel_step hb4 ?_ ?_) | (with_reducible refine bel_step hb5 ?_ ?_) | (with_reducible refine bel_step hb6 ?_ ?_) | (with_reducible refine bel_step hb7 ?_ ?_) | (with_reducible refine bel_step hb8 ?_ ?_) | (with_reducible refine bel_outS ho9 hl9 ?_ ?_) | (with_reducible refine bel_step hb10 ?_ ?_) | (with_reducible refine bel_outS ho11 hl11 ?_ ?_) | (with_reducible refine bel_step hb12 ?_ ?_) | (with_reducible refine bel_step hb13 ?_ ?_) | (with_reducible refine bel_step hb14 ?_ ?_) | (with_reducible refine bel_step hb15 ?_ ?_) | (with_reducible refine bel_step hb16 ?_ ?_) | (with_reducible exact Nat.le_refl _) | (with_reducible assumption) | omega | (simp only [World.size_alloc, World.size_setCell, World.size_drew]; omega) | (simp; omega) | (simp; done)))⟩
end Go.Proofs.Ytmfomflmbhognaa
