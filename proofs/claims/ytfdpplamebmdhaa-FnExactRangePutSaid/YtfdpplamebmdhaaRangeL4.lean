/- The walk of the exact law on RangePut. -/
import Derived.Test.YtfdpplamebmdhaaRangeR
import Derived.Test.YtfdpplamebmdhaaRangeV
import Derived.Test.YtfdpplamebmdhaaRangeM
import Derived.Test.YtfdpplamebmdhaaRangeX
import Derived.Deep.RegionHeld3
import Derived.Deep.DrawnRows
import Derived.Deep.DeepCutAuto
namespace Go.Proofs.Ytfdpplamebmdhaa
open Go.ChangeShapes Go.WideShapes Go.ChangeAt Go.RowKit
set_option linter.unusedVariables false
attribute [local go_sem ↓] Go.wp_at_zero Go.wp_at_succ

set_option maxHeartbeats 16000000 in
set_option maxRecDepth 100000 in
theorem law_rangePut (p0 : Int) (A1 : Option Addr) (c1 : Nat) (x1 : List (Int × Int)) (q20 : Int) (q21 : Int) (w : World) (hp0 : -9223372036854775808 ≤ p0 ∧ p0 ≤ 9223372036854775807) (hr10 : Rd w w.heap.size A1 (pv x1)) (hm10 : x1.length ≤ maxLen) (hq20 : -9223372036854775808 ≤ q20 ∧ q20 ≤ 9223372036854775807) (hq21 : -9223372036854775808 ≤ q21 ∧ q21 ≤ 9223372036854775807) : Calls Try.prog 9 #[.int .i64 p0, .slice A1 x1.length c1, .agg #[.int .i64 q20, .int .i64 q21]] w fun e w' => e = .returned (.bool true) ∧ Below w.heap.size w w' := by
  obtain ⟨ys, ok, HS, HI, hy⟩ : ∃ (ys : List Rg) (ok : Bool), (∀ (A : Option Addr) (c : Nat) (W : World) {B : Nat}, Rd W B A (pv x1) → x1.length ≤ 1048576 → Calls Try.prog 31 #[.int .i64 p0, .slice A x1.length c, .agg #[.int .i64 q20, .int .i64 q21]] W (MadeRP ys ok W)) ∧
      (∀ (A : Option Addr) (c : Nat) (W : World) {B : Nat}, Rd W B A (pv x1) → x1.length ≤ 1048576 → Calls Try.prog 26 #[.int .i64 p0, .slice A x1.length c, .agg #[.int .i64 q20, .int .i64 q21]] W (MadeRP ys ok W)) ∧ (x1.length ≤ 1048576 → ys.length ≤ 1048576) := by
    by_cases h : rOkB p0 x1 = true ∧ rInB p0 (q20, q21) = true
    · obtain ⟨h1, h2⟩ := h
      have e := rPut_sp h1 h2
      have e2 : rPut p0 x1 (q20, q21) = ip (q20, q21) false x1 := by unfold rPut; rw [h1, h2]; rfl
      rw [e2] at e
      refine ⟨((ip (q20, q21) false x1).getD x1), (ip (q20, q21) false x1).isSome, fun A c W B hr hn => ?_, fun A c W B hr hn => rangePut_i_yes p0 A c x1 q20 q21 W hr hn hp0 h1 h2 _ rfl, fun hn => ?_⟩
      · have h := rangePut_s_yes p0 A c x1 q20 q21 W hr hn hp0 h1 h2 _ rfl
        rw [e]
        cases hs : sp (q20, q21) false x1 <;> rw [hs] at h <;> exact h
      · have hl := ip_len (q20, q21) x1 false
        have h33 := rOk_len h1
        cases hs : ip (q20, q21) false x1 with
        | none => exact hn
        | some l => have := hl l hs; simp; omega
    · have h' : rOkB p0 x1 = false ∨ rInB p0 (q20, q21) = false := by
        cases h1 : rOkB p0 x1 <;> cases h2 : rInB p0 (q20, q21) <;> simp_all
      exact ⟨x1, false, fun A c W B hr hn => rangePut_s_no p0 A c x1 q20 q21 W hr hn hp0 h', fun A c W B hr hn => rangePut_i_no p0 A c x1 q20 q21 W hr hn hp0 h', fun hn => hn⟩
  replace HS := Lib.hid HS
  replace HI := Lib.hid HI
  replace hy := Lib.hid hy
  go_enter Try.func9, Try.ntmps9
  go_wp2_with fail
  refine (szRangeS_any _ _ _ _ _ (by omega) (by omega) hm10).mono ?_
  rintro e m1 ⟨rz1, rfl, qz1, sz1, hb1⟩
  replace hr10 := (hr10.alloc _).below hb1
  have a20 : m1.cell? ⟨w.heap.size, 0, none⟩ = some (.int .i64 q20) := keep hb1 (by simp [go_sem])
  have a21 : m1.cell? ⟨w.heap.size, 1, none⟩ = some (.int .i64 q21) := keep hb1 (by simp [go_sem])
  have hz1 := hb1.size
  try simp only [World.size_alloc, World.size_drew] at hz1
  have la20 := lt_of_cell' a20
  by_cases hneg1 : rz1 < 0
  · go_wp2
    go_ret
    exact ⟨rfl, by (repeat' (first | (with_reducible exact Below.refl _ _) | (with_reducible refine bel_alloc ?_ ?_ _) | (with_reducible refine Below.setCell ?_ ?_ _) | (with_reducible refine below_drewN ?_ _) | (with_reducible refine Below.drew ?_) | (with_reducible refine bel_step hb1 ?_ ?_) | (with_reducible exact Nat.le_refl _) | (with_reducible assumption) | omega | (simp only [World.size_alloc, World.size_setCell, World.size_drew]; omega) | (simp; omega) | (simp; done)))⟩
  have hn10 : x1.length ≤ 1048576 := by have := sz1 (by omega); first | exact this | omega | exact ⟨by omega, this.2⟩
  clear sz1 qz1
  have hyz := hy.out hn10
  go_wp2_with fail
  clear la20
  replace hr10 := hr10.drew
  replace a20 := (show World.cell? (World.drew _) _ = _ from a20)
  replace a21 := (show World.cell? (World.drew _) _ = _ from a21)
  go_region_held3 (fun w' => w'.cell? ⟨w.heap.size, 0, none⟩ = some (.int .i64 q20) ∧ w'.cell? ⟨w.heap.size, 1, none⟩ = some (.int .i64 q21)) (first | go_keep | exact ⟨a20, a21⟩ | exact ⟨(keep hb2 a20), (keep hb2 a21)⟩ | exact ⟨(keep hb3 (keep hb2 a20)), (keep hb3 (keep hb2 a21))⟩ | exact ⟨(keep hb4 (keep hb3 (keep hb2 a20))), (keep hb4 (keep hb3 (keep hb2 a21)))⟩ | fail)
    (first | (go_at_call 14; refine (toRangeS_w _ _ _ _ hr10 hn10).mono ?_; rintro e m2 ⟨A1w, c1w, Sw10, rfl, kw10, ow10, hSw10, hb2⟩) | (go_at_call 32; refine (toRange_any _ _ _).mono ?_; rintro e m3 ⟨rfl, hb3⟩) | (go_at_call 31; refine (HS.out _ _ _ (ow10.below hb3).rd hn10).mono ?_; rintro e m4 ⟨Aw0, cw0, Tw00, rfl, rw00, hTw00, hb4⟩) | fail)
  replace hr10 := (((hr10.below hb2).below hb3).below hb4)
  replace a20 := (keep hb4 (keep hb3 (keep hb2 a20)))
  replace a21 := (keep hb4 (keep hb3 (keep hb2 a21)))
  have hz2 := hb2.size
  try simp only [World.size_alloc, World.size_drew] at hz2
  replace hSw10 : ∀ b, Sw10 b → m1.heap.size + 0 ≤ b ∧ b < m2.heap.size := fun b hb => by have := hSw10 b hb; (try simp only [World.size_alloc, World.size_drew] at this); omega
  have hz3 := hb3.size
  try simp only [World.size_alloc, World.size_drew] at hz3
  have hz4 := hb4.size
  try simp only [World.size_alloc, World.size_drew] at hz4
  replace hTw00 : ∀ b, Tw00 b → m3.heap.size + 0 ≤ b ∧ b < m4.heap.size := fun b hb => by have := hTw00 b hb; (try simp only [World.size_alloc, World.size_drew] at this); omega
  have la20 := lt_of_cell' a20
  go_wp2_with fail
  refine (toRangeS_w _ _ _ _ hr10 hn10).mono ?_
  rintro e m5 ⟨A1x, c1x, Sx10, rfl, kx10, ox10, hSx10, hb5⟩
  clear la20
  replace hr10 := hr10.below hb5
  replace a20 := keep hb5 a20
  replace a21 := keep hb5 a21
  replace rw00 := rw00.below hb5
  have hz5 := hb5.size
  try simp only [World.size_alloc, World.size_drew] at hz5
  replace hSx10 : ∀ b, Sx10 b → m4.heap.size + 0 ≤ b ∧ b < m5.heap.size := fun b hb => by have := hSx10 b hb; (try simp only [World.size_alloc, World.size_drew] at this); omega
  have la20 := lt_of_cell' a20
  go_wp2_with fail
  refine (toRange_any _ _ _).mono ?_
  rintro e m6 ⟨rfl, hb6⟩
  clear la20
  replace hr10 := hr10.below hb6
  replace a20 := keep hb6 a20
  replace a21 := keep hb6 a21
  replace rw00 := rw00.below hb6
  replace ox10 := ox10.below hb6
  have hz6 := hb6.size
  try simp only [World.size_alloc, World.size_drew] at hz6
  have la20 := lt_of_cell' a20
  go_wp2_with fail
  refine (HI.out _ _ _ ox10.rd hn10).mono ?_
  rintro e m7 ⟨Ag0, cg0, Tg00, rfl, rg00, hTg00, hb7⟩
  clear la20
  replace hr10 := hr10.below hb7
  replace a20 := keep hb7 a20
  replace a21 := keep hb7 a21
  replace rw00 := rw00.below hb7
  replace ox10 := ox10.below hb7
  have hz7 := hb7.size
  try simp only [World.size_alloc, World.size_drew] at hz7
  replace hTg00 : ∀ b, Tg00 b → m6.heap.size + 0 ≤ b ∧ b < m7.heap.size := fun b hb => by have := hTg00 b hb; (try simp only [World.size_alloc, World.size_drew] at this); omega
  have la20 := lt_of_cell' a20
  go_wp2_with fail
  refine (eqRangeS_same _ _ _ _ _ _ rg00.rd rw00.rd hyz).mono ?_
  rintro e m8 ⟨rfl, hb8⟩
  clear la20
  replace hr10 := hr10.below hb8
  replace a20 := keep hb8 a20
  replace a21 := keep hb8 a21
  replace rw00 := rw00.below hb8
  replace ox10 := ox10.below hb8
  replace rg00 := rg00.below hb8
  have hz8 := hb8.size
  try simp only [World.size_alloc, World.size_drew] at hz8
  have la20 := lt_of_cell' a20
  go_wp2_with fail
  refine (toRangeS_w _ _ _ _ hr10 hn10).mono ?_
  rintro e m9 ⟨A1y1, c1y1, Sy110, rfl, ky110, oy110, hSy110, hb9⟩
  clear la20
  replace hr10 := hr10.below hb9
  replace a20 := keep hb9 a20
  replace a21 := keep hb9 a21
  replace rw00 := rw00.below hb9
  replace ox10 := ox10.below hb9
  replace rg00 := rg00.below hb9
  have hz9 := hb9.size
  try simp only [World.size_alloc, World.size_drew] at hz9
  replace hSy110 : ∀ b, Sy110 b → m8.heap.size + 0 ≤ b ∧ b < m9.heap.size := fun b hb => by have := hSy110 b hb; (try simp only [World.size_alloc, World.size_drew] at this); omega
  have la20 := lt_of_cell' a20
  go_wp2_with fail
  refine (eqRangeS_same _ _ _ _ _ _ ox10.rd oy110.rd hn10).mono ?_
  rintro e m10 ⟨rfl, hb10⟩
  clear la20
  replace hr10 := hr10.below hb10
  replace a20 := keep hb10 a20
  replace a21 := keep hb10 a21
  replace rw00 := rw00.below hb10
  replace ox10 := ox10.below hb10
  replace rg00 := rg00.below hb10
  replace oy110 := oy110.below hb10
  have hz10 := hb10.size
  try simp only [World.size_alloc, World.size_drew] at hz10
  have la20 := lt_of_cell' a20
  go_wp2_with fail
  refine (markRangeS_any _ _ _ _ _ ox10 hn10 (by omega) (by omega)).mono ?_
  rintro e m11 ⟨rfl, nox10, ho11⟩
  have hz11 := ho11.size
  try simp only [World.size_alloc, World.size_drew] at hz11
  clear la20
  have hl11 : ∀ b, Sx10 b → w.heap.size ≤ b := fun b hb => by have := hSx10 b hb; omega
  replace hr10 := hr10.outS ho11 hl11
  replace a20 := ho11.cell a20 (fun hb => by have := hSx10 _ hb; first | omega | (dsimp only at this; omega) | (simp at this; omega))
  replace a21 := ho11.cell a21 (fun hb => by have := hSx10 _ hb; first | omega | (dsimp only at this; omega) | (simp at this; omega))
  replace rw00 := rw00.outS ho11 (fun b hb hx => by first | (have h1 := hTw00 b hb; have h2 := hSx10 b hx; omega))
  replace rg00 := rg00.outS ho11 (fun b hb hx => by first | (have h1 := hTg00 b hb; have h2 := hSx10 b hx; omega))
  clear ox10
  have la20 := lt_of_cell' a20
  go_wp2_with fail
  refine (eqRangeS_same _ _ _ _ _ _ rg00.rd rw00.rd hyz).mono ?_
  rintro e m12 ⟨rfl, hb12⟩
  clear la20
  replace hr10 := hr10.below hb12
  replace a20 := keep hb12 a20
  replace a21 := keep hb12 a21
  replace rw00 := rw00.below hb12
  replace rg00 := rg00.below hb12
  have hz12 := hb12.size
  try simp only [World.size_alloc, World.size_drew] at hz12
  have la20 := lt_of_cell' a20
  go_wp2_with fail
  refine (markRangeS_any _ _ _ _ _ rg00 hyz (by omega) (by omega)).mono ?_
  rintro e m13 ⟨rfl, nrg00, ho13⟩
  have hz13 := ho13.size
  try simp only [World.size_alloc, World.size_drew] at hz13
  clear la20
  have hl13 : ∀ b, Tg00 b → w.heap.size ≤ b := fun b hb => by have := hTg00 b hb; omega
  replace hr10 := hr10.outS ho13 hl13
  replace a20 := ho13.cell a20 (fun hb => by have := hTg00 _ hb; first | omega | (dsimp only at this; omega) | (simp at this; omega))
  replace a21 := ho13.cell a21 (fun hb => by have := hTg00 _ hb; first | omega | (dsimp only at this; omega) | (simp at this; omega))
  replace rw00 := rw00.outS ho13 (fun b hb hx => by first | (have h1 := hTw00 b hb; have h2 := hTg00 b hx; omega))
  clear rg00
  have la20 := lt_of_cell' a20
  go_wp2_with fail
  refine (heldRangeS_b _ _ _ _ _ nrg00.rd hyz (by omega) (by omega)).mono ?_
  rintro e m14 ⟨rfl, hb14⟩
  clear la20
  replace hr10 := hr10.below hb14
  replace a20 := keep hb14 a20
  replace a21 := keep hb14 a21
  replace rw00 := rw00.below hb14
  replace nrg00 := nrg00.below hb14
  have hz14 := hb14.size
  try simp only [World.size_alloc, World.size_drew] at hz14
  have la20 := lt_of_cell' a20
  go_wp2_with fail
  clear la20
  replace hr10 := hr10.drew
  replace a20 := (show World.cell? (World.drew _) _ = _ from a20)
  replace a21 := (show World.cell? (World.drew _) _ = _ from a21)
  replace rw00 := rw00.drew
  replace nrg00 := nrg00.drew
  go_region_held3 (fun w' => w'.cell? ⟨w.heap.size, 0, none⟩ = some (.int .i64 q20) ∧ w'.cell? ⟨w.heap.size, 1, none⟩ = some (.int .i64 q21)) (first | go_keep | exact ⟨a20, a21⟩ | exact ⟨(keep hb15 a20), (keep hb15 a21)⟩ | exact ⟨(keep hb16 (keep hb15 a20)), (keep hb16 (keep hb15 a21))⟩ | exact ⟨(keep hb17 (keep hb16 (keep hb15 a20))), (keep hb17 (keep hb16 (keep hb15 a21)))⟩ | fail)
    (first | (go_at_call 14; refine (toRangeS_w _ _ _ _ hr10 hn10).mono ?_; rintro e m15 ⟨A1h, c1h, Sh10, rfl, kh10, oh10, hSh10, hb15⟩) | (go_at_call 32; refine (toRange_any _ _ _).mono ?_; rintro e m16 ⟨rfl, hb16⟩) | (go_at_call 26; refine (HI.out _ _ _ (oh10.below hb16).rd hn10).mono ?_; rintro e m17 ⟨Ah0, ch0, Th00, rfl, rh00, hTh00, hb17⟩) | fail)
  replace hr10 := (((hr10.below hb15).below hb16).below hb17)
  replace a20 := (keep hb17 (keep hb16 (keep hb15 a20)))
  replace a21 := (keep hb17 (keep hb16 (keep hb15 a21)))
  replace rw00 := (((rw00.below hb15).below hb16).below hb17)
  replace nrg00 := (((nrg00.below hb15).below hb16).below hb17)
  have hz15 := hb15.size
  try simp only [World.size_alloc, World.size_drew] at hz15
  replace hSh10 : ∀ b, Sh10 b → m14.heap.size + 0 ≤ b ∧ b < m15.heap.size := fun b hb => by have := hSh10 b hb; (try simp only [World.size_alloc, World.size_drew] at this); omega
  have hz16 := hb16.size
  try simp only [World.size_alloc, World.size_drew] at hz16
  have hz17 := hb17.size
  try simp only [World.size_alloc, World.size_drew] at hz17
  replace hTh00 : ∀ b, Th00 b → m16.heap.size + 0 ≤ b ∧ b < m17.heap.size := fun b hb => by have := hTh00 b hb; (try simp only [World.size_alloc, World.size_drew] at this); omega
  have la20 := lt_of_cell' a20
  go_wp2_with fail
  refine (eqRangeS_same _ _ _ _ _ _ rh00.rd rw00.rd hyz).mono ?_
  rintro e m18 ⟨rfl, hb18⟩
  clear la20
  replace hr10 := hr10.below hb18
  replace a20 := keep hb18 a20
  replace a21 := keep hb18 a21
  replace rw00 := rw00.below hb18
  replace nrg00 := nrg00.below hb18
  replace rh00 := rh00.below hb18
  have hz18 := hb18.size
  try simp only [World.size_alloc, World.size_drew] at hz18
  have la20 := lt_of_cell' a20
  go_wp2_with fail
  refine (heldRangeS_b _ _ _ _ _ nrg00.rd hyz (by omega) (by omega)).mono ?_
  rintro e m19 ⟨rfl, hb19⟩
  clear la20
  replace hr10 := hr10.below hb19
  replace a20 := keep hb19 a20
  replace a21 := keep hb19 a21
  replace rw00 := rw00.below hb19
  replace nrg00 := nrg00.below hb19
  replace rh00 := rh00.below hb19
  have hz19 := hb19.size
  try simp only [World.size_alloc, World.size_drew] at hz19
  have la20 := lt_of_cell' a20
  all_goals
    go_wp2
    go_ret
    exact ⟨rfl, by (repeat' (first | (with_reducible exact Below.refl _ _) | (with_reducible refine bel_alloc ?_ ?_ _) | (with_reducible refine Below.setCell ?_ ?_ _) | (with_reducible refine below_drewN ?_ _) | (with_reducible refine Below.drew ?_) | (with_reducible refine bel_step hb1 ?_ ?_) | (with_reducible refine bel_step hb2 ?_ ?_) | (with_reducible refine bel_step hb3 ?_ ?_) | (with_reducible refine bel_step hb4 ?_ ?_) | (with_reducible refine bel_step hb5 ?_ ?_) | (with_reducible refine bel_step hb6 ?_ ?_) | (with_reducible refine bel_step hb7 ?_ ?_) | (with_reducible refine bel_step hb8 ?_ ?_) | (with_reducible refine bel_step hb9 ?_ ?_) | (with_reducible refine bel_step hb10 ?_ ?_) | (with_reducible refine bel_outS ho11 hl11 ?_ ?_) | (with_reducible refine bel_step hb12 ?_ ?_) | (with_reducible refine bel_outS ho13 hl13 ?_ ?_) | (with_reducible refine bel_step hb14 ?_ ?_) | (with_reducible refine bel_step hb15 ?_ ?_) | (with_reducible refine bel_step hb16 ?_ ?_) | (with_reducible refine bel_step hb17 ?_ ?_) | (with_reducible refine bel_step hb18 ?_ ?_) | (with_reducible refine bel_step hb19 ?_ ?_) | (with_reducible exact Nat.le_refl _) | (with_reducible assumption) | omega | (simp only [World.size_alloc, World.size_setCell, World.size_drew]; omega) | (simp; omega) | (simp; done)))⟩
end Go.Proofs.Ytfdpplamebmdhaa
