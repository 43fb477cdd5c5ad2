/- The walk of the exact law on InFlight. -/
import Derived.Test.YtggigndkamkclaaMailF
import Derived.Deep.RegionHeld3
import Derived.Deep.DrawnRows
namespace Go.Proofs.Ytggigndkamkclaa
open Go.ChangeShapes Go.WideShapes Go.ChangeAt Go.RowKit
set_option linter.unusedVariables false
attribute [local go_sem ↓] Go.wp_at_zero Go.wp_at_succ

set_option maxHeartbeats 16000000 in
set_option maxRecDepth 100000 in
theorem law_inFlight (A0 : Option Addr) (c0 : Nat) (B0 : Option Addr) (d0 : Nat) (x0 : List (List Po)) (y0 : List (List Int)) (w : World) (hr00 : Rd2 pv w w.heap.size A0 x0) (hr01 : Rd2 iv w w.heap.size B0 y0) (hm00 : x0.length ≤ maxLen ∧ ∀ l ∈ x0, l.length ≤ maxLen) (hm01 : y0.length ≤ maxLen ∧ ∀ l ∈ y0, l.length ≤ maxLen) : Calls Try.prog 7 #[.agg #[.slice A0 x0.length c0, .slice B0 y0.length d0]] w fun e w' => e = .returned (.bool true) ∧ Below w.heap.size w w' := by
  obtain ⟨zs, HS, HI, hy⟩ : ∃ (zs : List Int), (∀ (A : Option Addr) (c : Nat) (B : Option Addr) (d : Nat) (W : World) {B1 B2 : Nat}, Rd2 pv W B1 A x0 → Rd2 iv W B2 B y0 → (Rows x0 ∧ Rows y0) → Calls Try.prog 28 #[.agg #[.slice A x0.length c, .slice B y0.length d]] W (MadeIntSN zs W)) ∧
      (∀ (A : Option Addr) (c : Nat) (B : Option Addr) (d : Nat) (W : World) {B1 B2 : Nat}, Rd2 pv W B1 A x0 → Rd2 iv W B2 B y0 → (Rows x0 ∧ Rows y0) → Calls Try.prog 27 #[.agg #[.slice A x0.length c, .slice B y0.length d]] W (MadeIntSN zs W)) ∧ zs.length ≤ 1048576 := by
    cases hv : mOkB x0 y0 with
    | false => exact ⟨[], fun A c B d W _ _ hr hs hn => inFlight_s_no A c B d x0 y0 W hr hs hn hv, fun A c B d W _ _ hr hs hn => inFlight_i_no A c B d x0 y0 W hr hs hn hv, by simp⟩
    | true =>
      refine ⟨_, fun A c B d W _ _ hr hs hn => inFlight_s_yes A c B d x0 y0 W hr hs hn hv, fun A c B d W _ _ hr hs hn => inFlight_i_yes A c B d x0 y0 W hr hs hn hv, ?_⟩
      obtain ⟨_, _, h⟩ := mOk_facts hv
      have h1 := tot_take_le x0 x0.length
      have h2 := tot_take_le y0 y0.length
      rw [List.length_append, fa_len, fb_len]
      omega
  replace HS := Lib.hid HS
  replace HI := Lib.hid HI
  replace hy := Lib.hid hy
  go_enter Try.func7, Try.ntmps7
  go_wp2_with fail
  refine (szMail_any _ _ _ _ _ _ _ _ (hr00.alloc _) (hr01.alloc _) (by omega) (by omega) hm00 hm01).mono ?_
  rintro e u1 ⟨rz0, rfl, qz0, sz0, hb1⟩
  replace hr00 := (hr00.alloc _).below hb1
  replace hr01 := (hr01.alloc _).below hb1
  have a00 : u1.cell? ⟨w.heap.size, 0, none⟩ = some (.slice A0 x0.length c0) := keep hb1 (by simp [go_sem])
  have a01 : u1.cell? ⟨w.heap.size, 1, none⟩ = some (.slice B0 y0.length d0) := keep hb1 (by simp [go_sem])
  have hz1 := hb1.size
  try simp only [World.size_alloc, World.size_drew] at hz1
  have la00 := lt_of_cell' a00
  by_cases hneg0 : rz0 < 0
  · go_wp2
    go_ret
    exact ⟨rfl, by (repeat' (first | (with_reducible exact Below.refl _ _) | (with_reducible refine bel_alloc ?_ ?_ _) | (with_reducible refine Below.setCell ?_ ?_ _) | (with_reducible refine below_drewN ?_ _) | (with_reducible refine Below.drew ?_) | (with_reducible refine bel_step hb1 ?_ ?_) | (with_reducible exact Nat.le_refl _) | (with_reducible assumption) | omega | (simp only [World.size_alloc, World.size_setCell, World.size_drew]; omega) | (simp; omega) | (simp; done)))⟩
  have hn00 : Rows x0 ∧ Rows y0 := by have := sz0 (by omega); first | exact this | omega | exact ⟨by omega, this.2⟩
  clear sz0 qz0
  have hyz := hy.out
  go_wp2_with fail
  refine (toMail_w _ _ _ _ _ _ _ hr00 hr01 hn00).mono ?_
  rintro e u2 ⟨A0w, c0w, B0w, d0w, Sw00, Sw01, rfl, kw00, kw01, ow00, ow01, hSw00, hSw01, dw00, hb2⟩
  clear la00
  replace hr00 := hr00.below hb2
  replace hr01 := hr01.below hb2
  replace a00 := keep hb2 a00
  replace a01 := keep hb2 a01
  have hz2 := hb2.size
  try simp only [World.size_alloc, World.size_drew] at hz2
  replace hSw00 : ∀ b, Sw00 b → u1.heap.size + 0 ≤ b ∧ b < u2.heap.size := fun b hb => by have := hSw00 b hb; (try simp only [World.size_alloc, World.size_drew] at this); omega
  replace hSw01 : ∀ b, Sw01 b → u1.heap.size + 0 ≤ b ∧ b < u2.heap.size := fun b hb => by have := hSw01 b hb; (try simp only [World.size_alloc, World.size_drew] at this); omega
  have la00 := lt_of_cell' a00
  go_wp2_with fail
  refine (HS.out _ _ _ _ _ ow00.rd ow01.rd hn00).mono ?_
  rintro e u3 ⟨Aw0, cw0, Tw00, rfl, rw00, hTw00, hb3⟩
  clear la00
  replace hr00 := hr00.below hb3
  replace hr01 := hr01.below hb3
  replace a00 := keep hb3 a00
  replace a01 := keep hb3 a01
  replace ow00 := ow00.below hb3
  replace ow01 := ow01.below hb3
  have hz3 := hb3.size
  try simp only [World.size_alloc, World.size_drew] at hz3
  replace hTw00 : ∀ b, Tw00 b → u2.heap.size + 0 ≤ b ∧ b < u3.heap.size := fun b hb => by have := hTw00 b hb; (try simp only [World.size_alloc, World.size_drew] at this); omega
  have la00 := lt_of_cell' a00
  go_wp2_with fail
  refine (toMail_w _ _ _ _ _ _ _ hr00 hr01 hn00).mono ?_
  rintro e u4 ⟨A0x, c0x, B0x, d0x, Sx00, Sx01, rfl, kx00, kx01, ox00, ox01, hSx00, hSx01, dx00, hb4⟩
  clear la00
  replace hr00 := hr00.below hb4
  replace hr01 := hr01.below hb4
  replace a00 := keep hb4 a00
  replace a01 := keep hb4 a01
  replace rw00 := rw00.below hb4
  have hz4 := hb4.size
  try simp only [World.size_alloc, World.size_drew] at hz4
  replace hSx00 : ∀ b, Sx00 b → u3.heap.size + 0 ≤ b ∧ b < u4.heap.size := fun b hb => by have := hSx00 b hb; (try simp only [World.size_alloc, World.size_drew] at this); omega
  replace hSx01 : ∀ b, Sx01 b → u3.heap.size + 0 ≤ b ∧ b < u4.heap.size := fun b hb => by have := hSx01 b hb; (try simp only [World.size_alloc, World.size_drew] at this); omega
  have la00 := lt_of_cell' a00
  go_wp2_with fail
  refine (HI.out _ _ _ _ _ (ox00.alloc _).rd (ox01.alloc _).rd hn00).mono ?_
  rintro e u5 ⟨Ag0, cg0, Tg00, rfl, rg00, hTg00, hb5⟩
  clear la00
  replace hr00 := (hr00.alloc _).below hb5
  replace hr01 := (hr01.alloc _).below hb5
  replace a00 := keep hb5 (cell_al a00 _)
  replace a01 := keep hb5 (cell_al a01 _)
  replace rw00 := (rw00.alloc _).below hb5
  replace ox00 := (ox00.alloc _).below hb5
  replace ox01 := (ox01.alloc _).below hb5
  have x00 : u5.cell? ⟨u4.heap.size, 0, none⟩ = some (.slice A0x x0.length c0x) := keep hb5 (by simp [go_sem])
  have x01 : u5.cell? ⟨u4.heap.size, 1, none⟩ = some (.slice B0x y0.length d0x) := keep hb5 (by simp [go_sem])
  have hz5 := hb5.size
  try simp only [World.size_alloc, World.size_drew] at hz5
  replace hTg00 : ∀ b, Tg00 b → u4.heap.size + 1 ≤ b ∧ b < u5.heap.size := fun b hb => by have := hTg00 b hb; (try simp only [World.size_alloc, World.size_drew] at this); omega
  have la00 := lt_of_cell' a00
  have lx00 := lt_of_cell' x00
  go_wp2_with fail
  refine (eqIntS_same _ _ _ _ _ _ rg00.rd rw00.rd hyz).mono ?_
  rintro e u6 ⟨rfl, hb6⟩
  clear la00 lx00
  replace hr00 := hr00.below hb6
  replace hr01 := hr01.below hb6
  replace a00 := keep hb6 a00
  replace a01 := keep hb6 a01
  replace rw00 := rw00.below hb6
  replace ox00 := ox00.below hb6
  replace ox01 := ox01.below hb6
  replace x00 := keep hb6 x00
  replace x01 := keep hb6 x01
  replace rg00 := rg00.below hb6
  have hz6 := hb6.size
  try simp only [World.size_alloc, World.size_drew] at hz6
  have la00 := lt_of_cell' a00
  have lx00 := lt_of_cell' x00
  go_wp2_with fail
  clear la00 lx00
  replace hr00 := hr00.drew
  replace hr01 := hr01.drew
  replace a00 := (show World.cell? (World.drew _) _ = _ from a00)
  replace a01 := (show World.cell? (World.drew _) _ = _ from a01)
  replace rw00 := rw00.drew
  replace ox00 := ox00.drew
  replace ox01 := ox01.drew
  replace x00 := (show World.cell? (World.drew _) _ = _ from x00)
  replace x01 := (show World.cell? (World.drew _) _ = _ from x01)
  replace rg00 := rg00.drew
  go_region_held3 (fun w' => w'.cell? ⟨w.heap.size, 0, none⟩ = some (.slice A0 x0.length c0) ∧ w'.cell? ⟨w.heap.size, 1, none⟩ = some (.slice B0 y0.length d0) ∧ w'.cell? ⟨u4.heap.size, 0, none⟩ = some (.slice A0x x0.length c0x) ∧ w'.cell? ⟨u4.heap.size, 1, none⟩ = some (.slice B0x y0.length d0x)) (first | go_keep | exact ⟨(keep hb7 a00), (keep hb7 a01), (keep hb7 x00), (keep hb7 x01)⟩ | exact ⟨(keep hb8 (keep hb7 a00)), (keep hb8 (keep hb7 a01)), (keep hb8 (keep hb7 x00)), (keep hb8 (keep hb7 x01))⟩)
    (first | (go_at_call 23; refine (toMail_w _ _ _ _ _ _ _ hr00 hr01 hn00).mono ?_; rintro e u7 ⟨A0y0, c0y0, B0y0, d0y0, Sy000, Sy001, rfl, ky000, ky001, oy000, oy001, hSy000, hSy001, dy000, hb7⟩) | (go_at_call 18; refine (eqMail_same _ _ _ _ _ _ _ _ _ _ _ (ox00.below hb7).rd oy000.rd (ox01.below hb7).rd oy001.rd hn00).mono ?_; rintro e u8 ⟨rfl, hb8⟩))
  replace hr00 := ((hr00.below hb7).below hb8)
  replace hr01 := ((hr01.below hb7).below hb8)
  replace a00 := (keep hb8 (keep hb7 a00))
  replace a01 := (keep hb8 (keep hb7 a01))
  replace rw00 := ((rw00.below hb7).below hb8)
  replace ox00 := ((ox00.below hb7).below hb8)
  replace ox01 := ((ox01.below hb7).below hb8)
  replace x00 := (keep hb8 (keep hb7 x00))
  replace x01 := (keep hb8 (keep hb7 x01))
  replace rg00 := ((rg00.below hb7).below hb8)
  have hz7 := hb7.size
  try simp only [World.size_alloc, World.size_drew] at hz7
  replace hSy000 : ∀ b, Sy000 b → u6.heap.size + 0 ≤ b ∧ b < u7.heap.size := fun b hb => by have := hSy000 b hb; (try simp only [World.size_alloc, World.size_drew] at this); omega
  replace hSy001 : ∀ b, Sy001 b → u6.heap.size + 0 ≤ b ∧ b < u7.heap.size := fun b hb => by have := hSy001 b hb; (try simp only [World.size_alloc, World.size_drew] at this); omega
  have hz8 := hb8.size
  try simp only [World.size_alloc, World.size_drew] at hz8
  have la00 := lt_of_cell' a00
  have lx00 := lt_of_cell' x00
  go_wp2_with fail
  refine (markMail_any _ _ _ _ _ _ _ _ ox00 ox01 dx00 hn00 (by omega) (by omega) (fun b hb => by have := hSx00 b hb; omega) (fun b hb => by have := hSx01 b hb; omega)).mono ?_
  rintro e u9 ⟨rfl, nox00, nox01, ho9⟩
  have hz9 := ho9.size
  try simp only [World.size_alloc, World.size_drew] at hz9
  clear la00 lx00
  have hl9 : ∀ b, (fun b => Sx00 b ∨ Sx01 b) b → w.heap.size ≤ b := fun b hb => by rcases hb with hb | hb <;> first | (have := hSx00 b hb; omega) | (have := hSx01 b hb; omega)
  replace hr00 := hr00.outS ho9 hl9
  replace hr01 := hr01.outS ho9 hl9
  replace a00 := ho9.cell a00 (fun hb => by rcases hb with hb | hb <;> first | (have := hSx00 _ hb; first | omega | (dsimp only at this; omega) | (simp at this; omega)) | (have := hSx01 _ hb; first | omega | (dsimp only at this; omega) | (simp at this; omega)))
  replace a01 := ho9.cell a01 (fun hb => by rcases hb with hb | hb <;> first | (have := hSx00 _ hb; first | omega | (dsimp only at this; omega) | (simp at this; omega)) | (have := hSx01 _ hb; first | omega | (dsimp only at this; omega) | (simp at this; omega)))
  replace rw00 := rw00.outS ho9 (fun b hb hx => by rcases hx with hx | hx <;> first | (have h1 := hTw00 b hb; have h2 := hSx00 b hx; omega) | (have h1 := hTw00 b hb; have h2 := hSx01 b hx; omega))
  replace x00 := ho9.cell x00 (fun hb => by rcases hb with hb | hb <;> first | (have := hSx00 _ hb; first | omega | (dsimp only at this; omega) | (simp at this; omega)) | (have := hSx01 _ hb; first | omega | (dsimp only at this; omega) | (simp at this; omega)))
  replace x01 := ho9.cell x01 (fun hb => by rcases hb with hb | hb <;> first | (have := hSx00 _ hb; first | omega | (dsimp only at this; omega) | (simp at this; omega)) | (have := hSx01 _ hb; first | omega | (dsimp only at this; omega) | (simp at this; omega)))
  replace rg00 := rg00.outS ho9 (fun b hb hx => by rcases hx with hx | hx <;> first | (have h1 := hTg00 b hb; have h2 := hSx00 b hx; omega) | (have h1 := hTg00 b hb; have h2 := hSx01 b hx; omega))
  clear ox00
  clear ox01
  have la00 := lt_of_cell' a00
  have lx00 := lt_of_cell' x00
  go_wp2_with fail
  refine (eqIntS_same _ _ _ _ _ _ rg00.rd rw00.rd hyz).mono ?_
  rintro e u10 ⟨rfl, hb10⟩
  clear la00 lx00
  replace hr00 := hr00.below hb10
  replace hr01 := hr01.below hb10
  replace a00 := keep hb10 a00
  replace a01 := keep hb10 a01
  replace rw00 := rw00.below hb10
  replace x00 := keep hb10 x00
  replace x01 := keep hb10 x01
  replace rg00 := rg00.below hb10
  have hz10 := hb10.size
  try simp only [World.size_alloc, World.size_drew] at hz10
  have la00 := lt_of_cell' a00
  have lx00 := lt_of_cell' x00
  go_wp2_with fail
  refine (markIntS_w _ _ _ _ _ rg00 hyz (by omega) (by omega)).mono ?_
  rintro e u11 ⟨rfl, nrg00, ho11⟩
  have hz11 := ho11.size
  try simp only [World.size_alloc, World.size_drew] at hz11
  clear la00 lx00
  have hl11 : ∀ b, Tg00 b → w.heap.size ≤ b := fun b hb => by have := hTg00 b hb; omega
  replace hr00 := hr00.outS ho11 hl11
  replace hr01 := hr01.outS ho11 hl11
  replace a00 := ho11.cell a00 (fun hb => by have := hTg00 _ hb; first | omega | (dsimp only at this; omega) | (simp at this; omega))
  replace a01 := ho11.cell a01 (fun hb => by have := hTg00 _ hb; first | omega | (dsimp only at this; omega) | (simp at this; omega))
  replace rw00 := rw00.outS ho11 (fun b hb hx => by first | (have h1 := hTw00 b hb; have h2 := hTg00 b hx; omega))
  replace x00 := ho11.cell x00 (fun hb => by have := hTg00 _ hb; first | omega | (dsimp only at this; omega) | (simp at this; omega))
  replace x01 := ho11.cell x01 (fun hb => by have := hTg00 _ hb; first | omega | (dsimp only at this; omega) | (simp at this; omega))
  clear rg00
  have la00 := lt_of_cell' a00
  have lx00 := lt_of_cell' x00
  go_wp2_with fail
  refine (heldIntS_b _ _ _ _ _ nrg00.rd hyz (by omega) (by omega)).mono ?_
  rintro e u12 ⟨rfl, hb12⟩
  clear la00 lx00
  replace hr00 := hr00.below hb12
  replace hr01 := hr01.below hb12
  replace a00 := keep hb12 a00
  replace a01 := keep hb12 a01
  replace rw00 := rw00.below hb12
  replace x00 := keep hb12 x00
  replace x01 := keep hb12 x01
  replace nrg00 := nrg00.below hb12
  have hz12 := hb12.size
  try simp only [World.size_alloc, World.size_drew] at hz12
  have la00 := lt_of_cell' a00
  have lx00 := lt_of_cell' x00
  go_wp2_with fail
  refine (toMail_w _ _ _ _ _ _ _ hr00 hr01 hn00).mono ?_
  rintro e u13 ⟨A0h, c0h, B0h, d0h, Sh00, Sh01, rfl, kh00, kh01, oh00, oh01, hSh00, hSh01, dh00, hb13⟩
  clear la00 lx00
  replace hr00 := hr00.below hb13
  replace hr01 := hr01.below hb13
  replace a00 := keep hb13 a00
  replace a01 := keep hb13 a01
  replace rw00 := rw00.below hb13
  replace x00 := keep hb13 x00
  replace x01 := keep hb13 x01
  replace nrg00 := nrg00.below hb13
  have hz13 := hb13.size
  try simp only [World.size_alloc, World.size_drew] at hz13
  replace hSh00 : ∀ b, Sh00 b → u12.heap.size + 0 ≤ b ∧ b < u13.heap.size := fun b hb => by have := hSh00 b hb; (try simp only [World.size_alloc, World.size_drew] at this); omega
  replace hSh01 : ∀ b, Sh01 b → u12.heap.size + 0 ≤ b ∧ b < u13.heap.size := fun b hb => by have := hSh01 b hb; (try simp only [World.size_alloc, World.size_drew] at this); omega
  have la00 := lt_of_cell' a00
  have lx00 := lt_of_cell' x00
  go_wp2_with fail
  refine (HI.out _ _ _ _ _ oh00.rd oh01.rd hn00).mono ?_
  rintro e u14 ⟨Ah0, ch0, Th00, rfl, rh00, hTh00, hb14⟩
  clear la00 lx00
  replace hr00 := hr00.below hb14
  replace hr01 := hr01.below hb14
  replace a00 := keep hb14 a00
  replace a01 := keep hb14 a01
  replace rw00 := rw00.below hb14
  replace x00 := keep hb14 x00
  replace x01 := keep hb14 x01
  replace nrg00 := nrg00.below hb14
  replace oh00 := oh00.below hb14
  replace oh01 := oh01.below hb14
  have hz14 := hb14.size
  try simp only [World.size_alloc, World.size_drew] at hz14
  replace hTh00 : ∀ b, Th00 b → u13.heap.size + 0 ≤ b ∧ b < u14.heap.size := fun b hb => by have := hTh00 b hb; (try simp only [World.size_alloc, World.size_drew] at this); omega
  have la00 := lt_of_cell' a00
  have lx00 := lt_of_cell' x00
  go_wp2_with fail
  refine (eqIntS_same _ _ _ _ _ _ rh00.rd rw00.rd hyz).mono ?_
  rintro e u15 ⟨rfl, hb15⟩
  clear la00 lx00
  replace hr00 := hr00.below hb15
  replace hr01 := hr01.below hb15
  replace a00 := keep hb15 a00
  replace a01 := keep hb15 a01
  replace rw00 := rw00.below hb15
  replace x00 := keep hb15 x00
  replace x01 := keep hb15 x01
  replace nrg00 := nrg00.below hb15
  replace rh00 := rh00.below hb15
  have hz15 := hb15.size
  try simp only [World.size_alloc, World.size_drew] at hz15
  have la00 := lt_of_cell' a00
  have lx00 := lt_of_cell' x00
  go_wp2_with fail
  refine (heldIntS_b _ _ _ _ _ nrg00.rd hyz (by omega) (by omega)).mono ?_
  rintro e u16 ⟨rfl, hb16⟩
  clear la00 lx00
  replace hr00 := hr00.below hb16
  replace hr01 := hr01.below hb16
  replace a00 := keep hb16 a00
  replace a01 := keep hb16 a01
  replace rw00 := rw00.below hb16
  replace x00 := keep hb16 x00
  replace x01 := keep hb16 x01
  replace nrg00 := nrg00.below hb16
  replace rh00 := rh00.below hb16
  have hz16 := hb16.size
  try simp only [World.size_alloc, World.size_drew] at hz16
  have la00 := lt_of_cell' a00
  have lx00 := lt_of_cell' x00
  all_goals
    go_wp2
    go_ret
    exact ⟨rfl, by (repeat' (first | (with_reducible exact Below.refl _ _) | (with_reducible refine bel_alloc ?_ ?_ _) | (with_reducible refine Below.setCell ?_ ?_ _) | (with_reducible refine below_drewN ?_ _) | (with_reducible refine Below.drew ?_) | (with_reducible refine bel_step hb1 ?_ ?_) | (with_reducible refine bel_step hb2 ?_ ?_) | (with_reducible refine bel_step hb3 ?_ ?_) | (with_reducible refine bel_step hb4 ?_ ?_) | (with_reducible refine bel_step hb5 ?_ ?_) | (with_reducible refine bel_step hb6 ?_ ?_) | (with_reducible refine bel_step hb7 ?_ ?_) | (with_reducible refine bel_step hb8 ?_ ?_) | (with_reducible refine bel_outS ho9 hl9 ?_ ?_) | (with_reducible refine bel_step hb10 ?_ ?_) | (with_reducible refine bel_outS ho11 hl11 ?_ ?_) | (with_reducible refine bel_step hb12 ?_ ?_) | (with_reducible refine bel_step hb13 ?_ ?_) | (with_reducible refine bel_step hb14 ?_ ?_) | (with_reducible refine bel_step hb15 ?_ ?_) | (with_reducible refine bel_step hb16 ?_ ?_) | (with_reducible exact Nat.le_refl _) | (with_reducible assumption) | omega | (simp only [World.size_alloc, World.size_setCell, World.size_drew]; omega) | (simp; omega) | (simp; done)))⟩
end Go.Proofs.Ytggigndkamkclaa
