/- The walk of the exact law on CacheSpill. -/
import Derived.Test.YtmfomflmbhognaaCacheSi
import Derived.Test.YtmfomflmbhognaaCacheSs
import Derived.Test.YtmfomflmbhognaaCacheW
import Derived.Deep.RegionHeld3
import Derived.Deep.DrawnRows
import Derived.Deep.DeepCutAuto
namespace Go.Proofs.Ytmfomflmbhognaa
open Go.ChangeShapes Go.WideShapes Go.ChangeAt Go.RowKit
set_option linter.unusedVariables false
attribute [local go_sem ↓] Go.wp_at_zero Go.wp_at_succ

set_option maxHeartbeats 16000000 in
set_option maxRecDepth 100000 in
theorem law_cacheSpill (A0 : Option Addr) (c0 : Nat) (x0 : List (List Int)) (p1 : Int) (p2 : Int) (w : World) (hr00 : Rd2 iv w w.heap.size A0 x0) (hm00 : x0.length ≤ maxLen ∧ ∀ l ∈ x0, l.length ≤ maxLen) (hp1 : -9223372036854775808 ≤ p1 ∧ p1 ≤ 9223372036854775807) (hp2 : -9223372036854775808 ≤ p2 ∧ p2 ≤ 9223372036854775807) : Calls Try.prog 8 #[.agg #[.slice A0 x0.length c0], .int .i64 p1, .int .i64 p2] w fun e w' => e = .returned (.bool true) ∧ Below w.heap.size w w' := by
  obtain ⟨ys, zs, HS, HI, hy⟩ : ∃ (ys : List (List Int)) (zs : List Int), (∀ (A : Option Addr) (c : Nat) (W : World) {B : Nat}, Rd2c iv W B A x0 → Rows x0 → Calls Try.prog 29 #[.agg #[.slice A x0.length c], .int .i64 p1, .int .i64 p2] W (MadeSpill ys zs W)) ∧
      (∀ (A : Option Addr) (c : Nat) (W : World) {B : Nat}, Rd2 iv W B A x0 → Rows x0 → Calls Try.prog 27 #[.agg #[.slice A x0.length c], .int .i64 p1, .int .i64 p2] W (MadeSpill ys zs W)) ∧ (Rows x0 → Rows ys ∧ zs.length ≤ 1048576) := by
    by_cases hyes : hasL x0 p1 = true ∧ 1 ≤ p2
    · obtain ⟨hv, h1⟩ := hyes
      obtain ⟨κ, rfl⟩ := hasL_nat hv
      have hk := hasL_lt hv
      obtain ⟨m, hm⟩ : ∃ m : Nat, min p2 ((x0[κ]).length : Int) = m := ⟨(min p2 ((x0[κ]).length : Int)).toNat, by omega⟩
      exact ⟨x0.set κ (x0[κ].drop m), x0[κ].take m, fun A c W B hr hn => cacheSpill_s_yes A c x0 κ m p2 _ W hr hn hv hk rfl h1 hm, fun A c W B hr hn => cacheSpill_i_yes A c x0 κ m p2 _ W hr hn hv hk rfl h1 hm, fun hn => ⟨rows_set hn (by have := hn.2 _ (List.getElem_mem hk); simp; omega), by have := hn.2 _ (List.getElem_mem hk); simp; omega⟩⟩
    · have hno : hasL x0 p1 = false ∨ p2 < 1 := by
        cases h : hasL x0 p1
        · exact .inl rfl
        · exact .inr (by by_cases h2 : 1 ≤ p2 <;> simp_all)
      exact ⟨x0, [], fun A c W B hr hn => cacheSpill_s_no A c x0 p1 p2 W hr.rd hn _ rfl hno, fun A c W B hr hn => cacheSpill_i_no A c x0 p1 p2 W hr hn _ rfl hno, fun hn => ⟨hn, by simp⟩⟩
  replace HS := Lib.hid HS
  replace HI := Lib.hid HI
  replace hy := Lib.hid hy
  go_enter Try.func8, Try.ntmps8
  go_wp2_with fail
  refine (szCache_any _ _ _ _ _ (hr00.alloc _) (by omega) (by omega) hm00).mono ?_
  rintro e m1 ⟨rz0, rfl, qz0, sz0, hb1⟩
  replace hr00 := (hr00.alloc _).below hb1
  have a00 : m1.cell? ⟨w.heap.size, 0, none⟩ = some (.slice A0 x0.length c0) := keep hb1 (by simp [go_sem])
  have hz1 := hb1.size
  try simp only [World.size_alloc, World.size_drew] at hz1
  have la00 := lt_of_cell' a00
  by_cases hneg0 : rz0 < 0
  · go_wp2
    go_ret
    exact ⟨rfl, by (repeat' (first | (with_reducible exact Below.refl _ _) | (with_reducible refine bel_alloc ?_ ?_ _) | (with_reducible refine Below.setCell ?_ ?_ _) | (with_reducible refine below_drewN ?_ _) | (with_reducible refine Below.drew ?_) | (with_reducible refine bel_step hb1 ?_ ?_) | (with_reducible exact Nat.le_refl _) | (with_reducible assumption) | omega | (simp only [World.size_alloc, World.size_setCell, World.size_drew]; omega) | (simp; omega) | (simp; done)))⟩
  have hn00 : Rows x0 := by have := sz0 (by omega); first | exact this | omega | exact ⟨by omega, this.2⟩
  clear sz0 qz0
  have hyA := (hy.out hn00).1
  have hyB := (hy.out hn00).2
  have htA := tot_bd hyA
  go_wp2_with fail
  refine (toCache_w _ _ _ _ hr00 hn00).mono ?_
  rintro e m2 ⟨A0w, c0w, Sw00, rfl, kw00, ow00, hSw00, hb2⟩
  clear la00
  replace hr00 := hr00.below hb2
  replace a00 := keep hb2 a00
  have hz2 := hb2.size
  try simp only [World.size_alloc, World.size_drew] at hz2
  replace hSw00 : ∀ b, Sw00 b → m1.heap.size + 0 ≤ b ∧ b < m2.heap.size := fun b hb => by have := hSw00 b hb; (try simp only [World.size_alloc, World.size_drew] at this); omega
  have la00 := lt_of_cell' a00
  go_wp2_with fail
  refine (HS.out _ _ _ ow00.rdc hn00).mono ?_
  rintro e m3 ⟨Aw0, cw0, Aw1, cw1, Tw00, Tw10, rfl, rw00, rw10, hTw00, hTw10, Dw01, hb3⟩
  clear la00
  replace hr00 := hr00.below hb3
  replace a00 := keep hb3 a00
  replace ow00 := ow00.below hb3
  have hz3 := hb3.size
  try simp only [World.size_alloc, World.size_drew] at hz3
  replace hTw00 : ∀ b, Tw00 b → m2.heap.size + 0 ≤ b ∧ b < m3.heap.size := fun b hb => by have := hTw00 b hb; (try simp only [World.size_alloc, World.size_drew] at this); omega
  replace hTw10 : ∀ b, Tw10 b → m2.heap.size + 0 ≤ b ∧ b < m3.heap.size := fun b hb => by have := hTw10 b hb; (try simp only [World.size_alloc, World.size_drew] at this); omega
  have la00 := lt_of_cell' a00
  go_wp2_with fail
  refine (toCache_w _ _ _ _ (hr00.alloc _) hn00).mono ?_
  rintro e m4 ⟨A0x, c0x, Sx00, rfl, kx00, ox00, hSx00, hb4⟩
  clear la00
  replace hr00 := (hr00.alloc _).below hb4
  replace a00 := keep hb4 (cell_al a00 _)
  replace rw00 := (rw00.alloc _).below hb4
  replace rw10 := (rw10.alloc _).below hb4
  have bw00 : m4.cell? ⟨m3.heap.size, 0, none⟩ = some (.slice Aw0 ys.length cw0) := keep hb4 (by simp [go_sem])
  have hz4 := hb4.size
  try simp only [World.size_alloc, World.size_drew] at hz4
  replace hSx00 : ∀ b, Sx00 b → m3.heap.size + 1 ≤ b ∧ b < m4.heap.size := fun b hb => by have := hSx00 b hb; (try simp only [World.size_alloc, World.size_drew] at this); omega
  have la00 := lt_of_cell' a00
  have lbw00 := lt_of_cell' bw00
  go_wp2_with fail
  refine (HI.out _ _ _ (ox00.alloc _).rd hn00).mono ?_
  rintro e m5 ⟨Ag0, cg0, Ag1, cg1, Tg00, Tg10, rfl, rg00, rg10, hTg00, hTg10, Dg01, hb5⟩
  clear la00 lbw00
  replace hr00 := (hr00.alloc _).below hb5
  replace a00 := keep hb5 (cell_al a00 _)
  replace rw00 := (rw00.alloc _).below hb5
  replace rw10 := (rw10.alloc _).below hb5
  replace bw00 := keep hb5 (cell_al bw00 _)
  replace ox00 := (ox00.alloc _).below hb5
  have x00 : m5.cell? ⟨m4.heap.size, 0, none⟩ = some (.slice A0x x0.length c0x) := keep hb5 (by simp [go_sem])
  have hz5 := hb5.size
  try simp only [World.size_alloc, World.size_drew] at hz5
  replace hTg00 : ∀ b, Tg00 b → m4.heap.size + 1 ≤ b ∧ b < m5.heap.size := fun b hb => by have := hTg00 b hb; (try simp only [World.size_alloc, World.size_drew] at this); omega
  replace hTg10 : ∀ b, Tg10 b → m4.heap.size + 1 ≤ b ∧ b < m5.heap.size := fun b hb => by have := hTg10 b hb; (try simp only [World.size_alloc, World.size_drew] at this); omega
  have la00 := lt_of_cell' a00
  have lbw00 := lt_of_cell' bw00
  have lx00 := lt_of_cell' x00
  go_wp2_with fail
  refine (eqCache_same _ _ _ _ _ _ (rg00.alloc _).rd (rw00.alloc _).rd hyA).mono ?_
  rintro e m6 ⟨rfl, hb6⟩
  clear la00 lbw00 lx00
  replace hr00 := (hr00.alloc _).below hb6
  replace a00 := keep hb6 (cell_al a00 _)
  replace rw00 := (rw00.alloc _).below hb6
  replace rw10 := (rw10.alloc _).below hb6
  replace bw00 := keep hb6 (cell_al bw00 _)
  replace ox00 := (ox00.alloc _).below hb6
  replace x00 := keep hb6 (cell_al x00 _)
  replace rg00 := (rg00.alloc _).below hb6
  replace rg10 := (rg10.alloc _).below hb6
  have bg00 : m6.cell? ⟨m5.heap.size, 0, none⟩ = some (.slice Ag0 ys.length cg0) := keep hb6 (by simp [go_sem])
  have hz6 := hb6.size
  try simp only [World.size_alloc, World.size_drew] at hz6
  have la00 := lt_of_cell' a00
  have lbw00 := lt_of_cell' bw00
  have lx00 := lt_of_cell' x00
  have lbg00 := lt_of_cell' bg00
  go_wp2_with fail
  refine (eqIntS_same _ _ _ _ _ _ rg10.rd rw10.rd hyB).mono ?_
  rintro e m7 ⟨rfl, hb7⟩
  clear la00 lbw00 lx00 lbg00
  replace hr00 := hr00.below hb7
  replace a00 := keep hb7 a00
  replace rw00 := rw00.below hb7
  replace rw10 := rw10.below hb7
  replace bw00 := keep hb7 bw00
  replace ox00 := ox00.below hb7
  replace x00 := keep hb7 x00
  replace rg00 := rg00.below hb7
  replace rg10 := rg10.below hb7
  replace bg00 := keep hb7 bg00
  have hz7 := hb7.size
  try simp only [World.size_alloc, World.size_drew] at hz7
  have la00 := lt_of_cell' a00
  have lbw00 := lt_of_cell' bw00
  have lx00 := lt_of_cell' x00
  have lbg00 := lt_of_cell' bg00
  go_wp2_with fail
  clear la00 lbw00 lx00 lbg00
  replace hr00 := hr00.drew
  replace a00 := (show World.cell? (World.drew _) _ = _ from a00)
  replace rw00 := rw00.drew
  replace rw10 := rw10.drew
  replace bw00 := (show World.cell? (World.drew _) _ = _ from bw00)
  replace ox00 := ox00.drew
  replace x00 := (show World.cell? (World.drew _) _ = _ from x00)
  replace rg00 := rg00.drew
  replace rg10 := rg10.drew
  replace bg00 := (show World.cell? (World.drew _) _ = _ from bg00)
  go_region_held3 (fun w' => w'.cell? ⟨w.heap.size, 0, none⟩ = some (.slice A0 x0.length c0) ∧ w'.cell? ⟨m4.heap.size, 0, none⟩ = some (.slice A0x x0.length c0x)) (first | go_keep | exact ⟨(keep hb8 a00), (keep hb8 x00)⟩ | exact ⟨(keep hb9 (keep hb8 a00)), (keep hb9 (keep hb8 x00))⟩)
    (first | (go_at_call 20; refine (toCache_w _ _ _ _ hr00 hn00).mono ?_; rintro e m8 ⟨A0y0, c0y0, Sy000, rfl, ky000, oy000, hSy000, hb8⟩) | (go_at_call 22; refine (eqCache_same _ _ _ _ _ _ (ox00.below hb8).rd oy000.rd hn00).mono ?_; rintro e m9 ⟨rfl, hb9⟩))
  replace hr00 := ((hr00.below hb8).below hb9)
  replace a00 := (keep hb9 (keep hb8 a00))
  replace rw00 := ((rw00.below hb8).below hb9)
  replace rw10 := ((rw10.below hb8).below hb9)
  replace bw00 := (keep hb9 (keep hb8 bw00))
  replace ox00 := ((ox00.below hb8).below hb9)
  replace x00 := (keep hb9 (keep hb8 x00))
  replace rg00 := ((rg00.below hb8).below hb9)
  replace rg10 := ((rg10.below hb8).below hb9)
  replace bg00 := (keep hb9 (keep hb8 bg00))
  have hz8 := hb8.size
  try simp only [World.size_alloc, World.size_drew] at hz8
  replace hSy000 : ∀ b, Sy000 b → m7.heap.size + 0 ≤ b ∧ b < m8.heap.size := fun b hb => by have := hSy000 b hb; (try simp only [World.size_alloc, World.size_drew] at this); omega
  have hz9 := hb9.size
  try simp only [World.size_alloc, World.size_drew] at hz9
  have la00 := lt_of_cell' a00
  have lbw00 := lt_of_cell' bw00
  have lx00 := lt_of_cell' x00
  have lbg00 := lt_of_cell' bg00
  go_wp2_with fail
  refine (markCache_c _ _ _ _ _ ox00 hn00 (by omega) (by omega)).mono ?_
  rintro e m10 ⟨rfl, nox00, ho10⟩
  have hz10 := ho10.size
  try simp only [World.size_alloc, World.size_drew] at hz10
  clear la00 lbw00 lx00 lbg00
  have hl10 : ∀ b, Sx00 b → w.heap.size ≤ b := fun b hb => by have := hSx00 b hb; omega
  replace hr00 := hr00.outS ho10 hl10
  replace a00 := ho10.cell a00 (fun hb => by have := hSx00 _ hb; first | omega | (dsimp only at this; omega) | (simp at this; omega))
  replace rw00 := rw00.outS ho10 (fun b hb hx => by first | (have h1 := hTw00 b hb; have h2 := hSx00 b hx; omega))
  replace rw10 := rw10.outS ho10 (fun b hb hx => by first | (have h1 := hTw10 b hb; have h2 := hSx00 b hx; omega))
  replace bw00 := ho10.cell bw00 (fun hb => by have := hSx00 _ hb; first | omega | (dsimp only at this; omega) | (simp at this; omega))
  replace x00 := ho10.cell x00 (fun hb => by have := hSx00 _ hb; first | omega | (dsimp only at this; omega) | (simp at this; omega))
  replace rg00 := rg00.outS ho10 (fun b hb hx => by first | (have h1 := hTg00 b hb; have h2 := hSx00 b hx; omega))
  replace rg10 := rg10.outS ho10 (fun b hb hx => by first | (have h1 := hTg10 b hb; have h2 := hSx00 b hx; omega))
  replace bg00 := ho10.cell bg00 (fun hb => by have := hSx00 _ hb; first | omega | (dsimp only at this; omega) | (simp at this; omega))
  clear ox00
  have la00 := lt_of_cell' a00
  have lbw00 := lt_of_cell' bw00
  have lx00 := lt_of_cell' x00
  have lbg00 := lt_of_cell' bg00
  go_wp2_with fail
  refine (eqCache_same _ _ _ _ _ _ rg00.rd rw00.rd hyA).mono ?_
  rintro e m11 ⟨rfl, hb11⟩
  clear la00 lbw00 lx00 lbg00
  replace hr00 := hr00.below hb11
  replace a00 := keep hb11 a00
  replace rw00 := rw00.below hb11
  replace rw10 := rw10.below hb11
  replace bw00 := keep hb11 bw00
  replace x00 := keep hb11 x00
  replace rg00 := rg00.below hb11
  replace rg10 := rg10.below hb11
  replace bg00 := keep hb11 bg00
  have hz11 := hb11.size
  try simp only [World.size_alloc, World.size_drew] at hz11
  have la00 := lt_of_cell' a00
  have lbw00 := lt_of_cell' bw00
  have lx00 := lt_of_cell' x00
  have lbg00 := lt_of_cell' bg00
  go_wp2_with fail
  refine (eqIntS_same _ _ _ _ _ _ rg10.rd rw10.rd hyB).mono ?_
  rintro e m12 ⟨rfl, hb12⟩
  clear la00 lbw00 lx00 lbg00
  replace hr00 := hr00.below hb12
  replace a00 := keep hb12 a00
  replace rw00 := rw00.below hb12
  replace rw10 := rw10.below hb12
  replace bw00 := keep hb12 bw00
  replace x00 := keep hb12 x00
  replace rg00 := rg00.below hb12
  replace rg10 := rg10.below hb12
  replace bg00 := keep hb12 bg00
  have hz12 := hb12.size
  try simp only [World.size_alloc, World.size_drew] at hz12
  have la00 := lt_of_cell' a00
  have lbw00 := lt_of_cell' bw00
  have lx00 := lt_of_cell' x00
  have lbg00 := lt_of_cell' bg00
  go_wp2_with fail
  refine (markCache_any _ _ _ _ _ rg00 hyA (by omega) (by omega)).mono ?_
  rintro e m13 ⟨rfl, nrg00, ho13⟩
  have hz13 := ho13.size
  try simp only [World.size_alloc, World.size_drew] at hz13
  clear la00 lbw00 lx00 lbg00
  have hl13 : ∀ b, Tg00 b → w.heap.size ≤ b := fun b hb => by have := hTg00 b hb; omega
  replace hr00 := hr00.outS ho13 hl13
  replace a00 := ho13.cell a00 (fun hb => by have := hTg00 _ hb; first | omega | (dsimp only at this; omega) | (simp at this; omega))
  replace rw00 := rw00.outS ho13 (fun b hb hx => by first | (have h1 := hTw00 b hb; have h2 := hTg00 b hx; omega))
  replace rw10 := rw10.outS ho13 (fun b hb hx => by first | (have h1 := hTw10 b hb; have h2 := hTg00 b hx; omega))
  replace bw00 := ho13.cell bw00 (fun hb => by have := hTg00 _ hb; first | omega | (dsimp only at this; omega) | (simp at this; omega))
  replace x00 := ho13.cell x00 (fun hb => by have := hTg00 _ hb; first | omega | (dsimp only at this; omega) | (simp at this; omega))
  replace rg10 := rg10.outS ho13 (fun b hb hx => by first | exact Dg01 b hx hb)
  replace bg00 := ho13.cell bg00 (fun hb => by have := hTg00 _ hb; first | omega | (dsimp only at this; omega) | (simp at this; omega))
  clear rg00
  have la00 := lt_of_cell' a00
  have lbw00 := lt_of_cell' bw00
  have lx00 := lt_of_cell' x00
  have lbg00 := lt_of_cell' bg00
  go_wp2_with fail
  refine (markIntS_w _ _ _ _ _ rg10 hyB (by omega) (by omega)).mono ?_
  rintro e m14 ⟨rfl, nrg10, ho14⟩
  have hz14 := ho14.size
  try simp only [World.size_alloc, World.size_drew] at hz14
  clear la00 lbw00 lx00 lbg00
  have hl14 : ∀ b, Tg10 b → w.heap.size ≤ b := fun b hb => by have := hTg10 b hb; omega
  replace hr00 := hr00.outS ho14 hl14
  replace a00 := ho14.cell a00 (fun hb => by have := hTg10 _ hb; first | omega | (dsimp only at this; omega) | (simp at this; omega))
  replace rw00 := rw00.outS ho14 (fun b hb hx => by first | (have h1 := hTw00 b hb; have h2 := hTg10 b hx; omega))
  replace rw10 := rw10.outS ho14 (fun b hb hx => by first | (have h1 := hTw10 b hb; have h2 := hTg10 b hx; omega))
  replace bw00 := ho14.cell bw00 (fun hb => by have := hTg10 _ hb; first | omega | (dsimp only at this; omega) | (simp at this; omega))
  replace x00 := ho14.cell x00 (fun hb => by have := hTg10 _ hb; first | omega | (dsimp only at this; omega) | (simp at this; omega))
  replace bg00 := ho14.cell bg00 (fun hb => by have := hTg10 _ hb; first | omega | (dsimp only at this; omega) | (simp at this; omega))
  replace nrg00 := nrg00.outS ho14 (fun b hb hx => by first | exact Dg01 b hb hx)
  clear rg10
  have la00 := lt_of_cell' a00
  have lbw00 := lt_of_cell' bw00
  have lx00 := lt_of_cell' x00
  have lbg00 := lt_of_cell' bg00
  go_wp2_with fail
  refine (heldCache_b _ _ _ _ _ nrg00.rd hyA (by omega) (by omega)).mono ?_
  rintro e m15 ⟨rfl, hb15⟩
  clear la00 lbw00 lx00 lbg00
  replace hr00 := hr00.below hb15
  replace a00 := keep hb15 a00
  replace rw00 := rw00.below hb15
  replace rw10 := rw10.below hb15
  replace bw00 := keep hb15 bw00
  replace x00 := keep hb15 x00
  replace bg00 := keep hb15 bg00
  replace nrg00 := nrg00.below hb15
  replace nrg10 := nrg10.below hb15
  have hz15 := hb15.size
  try simp only [World.size_alloc, World.size_drew] at hz15
  have la00 := lt_of_cell' a00
  have lbw00 := lt_of_cell' bw00
  have lx00 := lt_of_cell' x00
  have lbg00 := lt_of_cell' bg00
  go_wp2_with fail
  refine (heldIntS_b _ _ _ _ _ nrg10.rd hyB (by omega) (by omega)).mono ?_
  rintro e m16 ⟨rfl, hb16⟩
  clear la00 lbw00 lx00 lbg00
  replace hr00 := hr00.below hb16
  replace a00 := keep hb16 a00
  replace rw00 := rw00.below hb16
  replace rw10 := rw10.below hb16
  replace bw00 := keep hb16 bw00
  replace x00 := keep hb16 x00
  replace bg00 := keep hb16 bg00
  replace nrg00 := nrg00.below hb16
  replace nrg10 := nrg10.below hb16
  have hz16 := hb16.size
  try simp only [World.size_alloc, World.size_drew] at hz16
  have la00 := lt_of_cell' a00
  have lbw00 := lt_of_cell' bw00
  have lx00 := lt_of_cell' x00
  have lbg00 := lt_of_cell' bg00
  go_wp2_with fail
  refine (toCache_w _ _ _ _ hr00 hn00).mono ?_
  rintro e m17 ⟨A0h, c0h, Sh00, rfl, kh00, oh00, hSh00, hb17⟩
  clear la00 lbw00 lx00 lbg00
  replace hr00 := hr00.below hb17
  replace a00 := keep hb17 a00
  replace rw00 := rw00.below hb17
  replace rw10 := rw10.below hb17
  replace bw00 := keep hb17 bw00
  replace x00 := keep hb17 x00
  replace bg00 := keep hb17 bg00
  replace nrg00 := nrg00.below hb17
  replace nrg10 := nrg10.below hb17
  have hz17 := hb17.size
  try simp only [World.size_alloc, World.size_drew] at hz17
  replace hSh00 : ∀ b, Sh00 b → m16.heap.size + 0 ≤ b ∧ b < m17.heap.size := fun b hb => by have := hSh00 b hb; (try simp only [World.size_alloc, World.size_drew] at this); omega
  have la00 := lt_of_cell' a00
  have lbw00 := lt_of_cell' bw00
  have lx00 := lt_of_cell' x00
  have lbg00 := lt_of_cell' bg00
  go_wp2_with fail
  refine (HI.out _ _ _ oh00.rd hn00).mono ?_
  rintro e m18 ⟨Ah0, ch0, Ah1, ch1, Th00, Th10, rfl, rh00, rh10, hTh00, hTh10, Dh01, hb18⟩
  clear la00 lbw00 lx00 lbg00
  replace hr00 := hr00.below hb18
  replace a00 := keep hb18 a00
  replace rw00 := rw00.below hb18
  replace rw10 := rw10.below hb18
  replace bw00 := keep hb18 bw00
  replace x00 := keep hb18 x00
  replace bg00 := keep hb18 bg00
  replace nrg00 := nrg00.below hb18
  replace nrg10 := nrg10.below hb18
  replace oh00 := oh00.below hb18
  have hz18 := hb18.size
  try simp only [World.size_alloc, World.size_drew] at hz18
  replace hTh00 : ∀ b, Th00 b → m17.heap.size + 0 ≤ b ∧ b < m18.heap.size := fun b hb => by have := hTh00 b hb; (try simp only [World.size_alloc, World.size_drew] at this); omega
  replace hTh10 : ∀ b, Th10 b → m17.heap.size + 0 ≤ b ∧ b < m18.heap.size := fun b hb => by have := hTh10 b hb; (try simp only [World.size_alloc, World.size_drew] at this); omega
  have la00 := lt_of_cell' a00
  have lbw00 := lt_of_cell' bw00
  have lx00 := lt_of_cell' x00
  have lbg00 := lt_of_cell' bg00
  go_wp2_with fail
  refine (eqCache_same _ _ _ _ _ _ (rh00.alloc _).rd (rw00.alloc _).rd hyA).mono ?_
  rintro e m19 ⟨rfl, hb19⟩
  clear la00 lbw00 lx00 lbg00
  replace hr00 := (hr00.alloc _).below hb19
  replace a00 := keep hb19 (cell_al a00 _)
  replace rw00 := (rw00.alloc _).below hb19
  replace rw10 := (rw10.alloc _).below hb19
  replace bw00 := keep hb19 (cell_al bw00 _)
  replace x00 := keep hb19 (cell_al x00 _)
  replace bg00 := keep hb19 (cell_al bg00 _)
  replace nrg00 := (nrg00.alloc _).below hb19
  replace nrg10 := (nrg10.alloc _).below hb19
  replace rh00 := (rh00.alloc _).below hb19
  replace rh10 := (rh10.alloc _).below hb19
  have bh00 : m19.cell? ⟨m18.heap.size, 0, none⟩ = some (.slice Ah0 ys.length ch0) := keep hb19 (by simp [go_sem])
  have hz19 := hb19.size
  try simp only [World.size_alloc, World.size_drew] at hz19
  have la00 := lt_of_cell' a00
  have lbw00 := lt_of_cell' bw00
  have lx00 := lt_of_cell' x00
  have lbg00 := lt_of_cell' bg00
  have lbh00 := lt_of_cell' bh00
  go_wp2_with fail
  refine (eqIntS_same _ _ _ _ _ _ rh10.rd rw10.rd hyB).mono ?_
  rintro e m20 ⟨rfl, hb20⟩
  clear la00 lbw00 lx00 lbg00 lbh00
  replace hr00 := hr00.below hb20
  replace a00 := keep hb20 a00
  replace rw00 := rw00.below hb20
  replace rw10 := rw10.below hb20
  replace bw00 := keep hb20 bw00
  replace x00 := keep hb20 x00
  replace bg00 := keep hb20 bg00
  replace nrg00 := nrg00.below hb20
  replace nrg10 := nrg10.below hb20
  replace rh00 := rh00.below hb20
  replace rh10 := rh10.below hb20
  replace bh00 := keep hb20 bh00
  have hz20 := hb20.size
  try simp only [World.size_alloc, World.size_drew] at hz20
  have la00 := lt_of_cell' a00
  have lbw00 := lt_of_cell' bw00
  have lx00 := lt_of_cell' x00
  have lbg00 := lt_of_cell' bg00
  have lbh00 := lt_of_cell' bh00
  go_wp2_with fail
  refine (heldCache_b _ _ _ _ _ nrg00.rd hyA (by omega) (by omega)).mono ?_
  rintro e m21 ⟨rfl, hb21⟩
  clear la00 lbw00 lx00 lbg00 lbh00
  replace hr00 := hr00.below hb21
  replace a00 := keep hb21 a00
  replace rw00 := rw00.below hb21
  replace rw10 := rw10.below hb21
  replace bw00 := keep hb21 bw00
  replace x00 := keep hb21 x00
  replace bg00 := keep hb21 bg00
  replace nrg00 := nrg00.below hb21
  replace nrg10 := nrg10.below hb21
  replace rh00 := rh00.below hb21
  replace rh10 := rh10.below hb21
  replace bh00 := keep hb21 bh00
  have hz21 := hb21.size
  try simp only [World.size_alloc, World.size_drew] at hz21
  have la00 := lt_of_cell' a00
  have lbw00 := lt_of_cell' bw00
  have lx00 := lt_of_cell' x00
  have lbg00 := lt_of_cell' bg00
  have lbh00 := lt_of_cell' bh00
  go_wp2_with fail
  refine (heldIntS_b _ _ _ _ _ nrg10.rd hyB (by omega) (by omega)).mono ?_
  rintro e m22 ⟨rfl, hb22⟩
  clear la00 lbw00 lx00 lbg00 lbh00
  replace hr00 := hr00.below hb22
  replace a00 := keep hb22 a00
  replace rw00 := rw00.below hb22
  replace rw10 := rw10.below hb22
  replace bw00 := keep hb22 bw00
  replace x00 := keep hb22 x00
  replace bg00 := keep hb22 bg00
  replace nrg00 := nrg00.below hb22
  replace nrg10 := nrg10.below hb22
  replace rh00 := rh00.below hb22
  replace rh10 := rh10.below hb22
  replace bh00 := keep hb22 bh00
  have hz22 := hb22.size
  try simp only [World.size_alloc, World.size_drew] at hz22
  have la00 := lt_of_cell' a00
  have lbw00 := lt_of_cell' bw00
  have lx00 := lt_of_cell' x00
  have lbg00 := lt_of_cell' bg00
  have lbh00 := lt_of_cell' bh00
  all_goals
    go_wp2
    go_ret
    exact ⟨rfl, by (repeat' (first | (with_reducible exact Below.refl _ _) | (with_reducible refine bel_alloc ?_ ?_ _) | (with_reducible refine Below.setCell ?_ ?_ _) | (with_reducible refine below_drewN ?_ _) | (with_reducible refine Below.drew ?_) | (with_reducible refine bel_step hb1 ?_ ?_) | (with_reducible refine bel_step hb2 ?_ ?_) | (with_reducible refine bel_step hb3 ?_ ?_) | (with_reducible refine bel_step hb4 ?_ ?_) | (with_reducible refine bel_step hb5 ?_ ?_) | (with_reducible refine bel_step hb6 ?_ ?_) | (with_reducible refine bel_step hb7 ?_ ?_) | (with_reducible refine bel_step hb8 ?_ ?_) | (with_reducible refine bel_step hb9 ?_ ?_) | (with_reducible refine bel_outS ho10 hl10 ?_ ?_) | (with_reducible refine bel_step hb11 ?_ ?_) | (with_reducible refine bel_step hb12 ?_ ?_) | (with_reducible refine bel_outS ho13 hl13 ?_ ?_) | (with_reducible refine bel_outS ho14 hl14 ?_ ?_) | (with_reducible refine bel_step hb15 ?_ ?_) | (with_reducible refine bel_step hb16 ?_ ?_) | (with_reducible refine bel_step hb17 ?_ ?_) | (with_reducible refine bel_step hb18 ?_ ?_) | (with_reducible refine bel_step hb19 ?_ ?_) | (with_reducible refine bel_step hb20 ?_ ?_) | (with_reducible refine bel_step hb21 ?_ ?_) | (with_reducible refine bel_step hb22 ?_ ?_) | (with_reducible exact Nat.le_refl _) | (with_reducible assumption) | omega | (simp only [World.size_alloc, World.size_setCell, World.size_drew]; omega) | (simp; omega) | (simp; done)))⟩
end Go.Proofs.Ytmfomflmbhognaa
