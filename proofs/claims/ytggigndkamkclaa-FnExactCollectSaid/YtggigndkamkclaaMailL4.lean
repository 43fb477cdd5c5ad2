/- The walk of the exact law on Collect. -/
import Derived.Test.YtggigndkamkclaaMailJi
import Derived.Test.YtggigndkamkclaaMailJs
import Derived.Test.YtggigndkamkclaaMailW
import Derived.Deep.RegionHeld3
import Derived.Deep.DrawnRows
namespace Go.Proofs.Ytggigndkamkclaa
open Go.ChangeShapes Go.WideShapes Go.ChangeAt Go.RowKit
set_option linter.unusedVariables false
attribute [local go_sem ↓] Go.wp_at_zero Go.wp_at_succ

set_option maxHeartbeats 16000000 in
set_option maxRecDepth 100000 in
theorem law_collect (A0 : Option Addr) (c0 : Nat) (B0 : Option Addr) (d0 : Nat) (x0 : List (List Po)) (y0 : List (List Int)) (p1 : Int) (w : World) (hr00 : Rd2 pv w w.heap.size A0 x0) (hr01 : Rd2 iv w w.heap.size B0 y0) (hm00 : x0.length ≤ maxLen ∧ ∀ l ∈ x0, l.length ≤ maxLen) (hm01 : y0.length ≤ maxLen ∧ ∀ l ∈ y0, l.length ≤ maxLen) (hp1 : -9223372036854775808 ≤ p1 ∧ p1 ≤ 9223372036854775807) : Calls Try.prog 8 #[.agg #[.slice A0 x0.length c0, .slice B0 y0.length d0], .int .i64 p1] w fun e w' => e = .returned (.bool true) ∧ Below w.heap.size w w' := by
  obtain ⟨ys, zs, l, HS, HI, hy⟩ : ∃ (ys : List (List Po)) (zs : List (List Int)) (l : List Int), (∀ (A : Option Addr) (c : Nat) (B : Option Addr) (d : Nat) (W : World) {B1 B2 : Nat}, Rd2 pv W B1 A x0 → Rd2 iv W B2 B y0 → (Rows x0 ∧ Rows y0) → Calls Try.prog 32 #[.agg #[.slice A x0.length c, .slice B y0.length d], .int .i64 p1] W (MadeMI ys zs l W)) ∧
      (∀ (A : Option Addr) (c : Nat) (B : Option Addr) (d : Nat) (W : World) {B1 B2 : Nat}, Rd2 pv W B1 A x0 → Rd2 iv W B2 B y0 → (Rows x0 ∧ Rows y0) → Calls Try.prog 16 #[.agg #[.slice A x0.length c, .slice B y0.length d], .int .i64 p1] W (MadeMI ys zs l W)) ∧ (Rows x0 ∧ Rows y0 → (Rows ys ∧ Rows zs) ∧ l.length ≤ 1048576) := by
    cases hv : hasTh x0 y0 p1 with
    | false => exact ⟨x0, y0, [], fun A c B d W _ _ hr hs hn => collect_s_no A c B d x0 y0 p1 W hr hs hn hv, fun A c B d W _ _ hr hs hn => collect_i_no A c B d x0 y0 p1 W hr hs hn hv, fun hn => ⟨hn, by simp⟩⟩
    | true =>
      obtain ⟨κ, rfl, hk, hk2, -⟩ := hasTh_nat hv
      exact ⟨x0, y0.set κ [], y0[κ], fun A c B d W _ _ hr hs hn => collect_s_yes A c B d x0 y0 κ _ W hr hs hn hv hk2 rfl, fun A c B d W _ _ hr hs hn => collect_i_yes A c B d x0 y0 κ _ W hr hs hn hv hk2 rfl, fun hn => ⟨⟨hn.1, rows_set hn.2 (by simp)⟩, hn.2.2 _ (List.getElem_mem hk2)⟩⟩
  replace HS := Lib.hid HS
  replace HI := Lib.hid HI
  replace hy := Lib.hid hy
  go_enter Try.func8, Try.ntmps8
  go_wp2_with fail
  refine (szMail_any _ _ _ _ _ _ _ _ (hr00.alloc _) (hr01.alloc _) (by omega) (by omega) hm00 hm01).mono ?_
  rintro e u1 ⟨rz0, rfl, qz0, sz0, hb1⟩
  replace hr00 := (hr00.alloc _).below hb1
  replace hr01 := (hr01.alloc _).below hb1
  have a00 : u1.cell? ⟨w.heap.size, 0, none⟩ = some (.slice A0 x0.length c0) := keep hb1 (by simp [go_sem])
  have a01 : u1.cell? ⟨w.heap.size, 1, none⟩ = some (.slice B0 y0.length d0) := keep hb1 (by simp [go_sem])
  have hz1 := hb1.size
  try simp only [World.size_alloc, World.size_drew] at hz1
  have la00 := lt_of_cell' a00
  by_cases hneg0 : rz0 < 0
  · go_wp2
    go_ret
    exact ⟨rfl, by (repeat' (first | (with_reducible exact Below.refl _ _) | (with_reducible refine bel_alloc ?_ ?_ _) | (with_reducible refine Below.setCell ?_ ?_ _) | (with_reducible refine below_drewN ?_ _) | (with_reducible refine Below.drew ?_) | (with_reducible refine bel_step hb1 ?_ ?_) | (with_reducible exact Nat.le_refl _) | (with_reducible assumption) | omega | (simp only [World.size_alloc, World.size_setCell, World.size_drew]; omega) | (simp; omega) | (simp; done)))⟩
  have hn00 : Rows x0 ∧ Rows y0 := by have := sz0 (by omega); first | exact this | omega | exact ⟨by omega, this.2⟩
  clear sz0 qz0
  have hyA := (hy.out hn00).1
  have hyB := (hy.out hn00).2
  have htA := tot_bd hyA.1
  have htB := tot_bd hyA.2
  go_wp2_with fail
  refine (toMail_w _ _ _ _ _ _ _ hr00 hr01 hn00).mono ?_
  rintro e u2 ⟨A0w, c0w, B0w, d0w, Sw00, Sw01, rfl, kw00, kw01, ow00, ow01, hSw00, hSw01, dw00, hb2⟩
  clear la00
  replace hr00 := hr00.below hb2
  replace hr01 := hr01.below hb2
  replace a00 := keep hb2 a00
  replace a01 := keep hb2 a01
  have hz2 := hb2.size
  try simp only [World.size_alloc, World.size_drew] at hz2
  replace hSw00 : ∀ b, Sw00 b → u1.heap.size + 0 ≤ b ∧ b < u2.heap.size := fun b hb => by have := hSw00 b hb; (try simp only [World.size_alloc, World.size_drew] at this); omega
  replace hSw01 : ∀ b, Sw01 b → u1.heap.size + 0 ≤ b ∧ b < u2.heap.size := fun b hb => by have := hSw01 b hb; (try simp only [World.size_alloc, World.size_drew] at this); omega
  have la00 := lt_of_cell' a00
  go_wp2_with fail
  refine (HS.out _ _ _ _ _ ow00.rd ow01.rd hn00).mono ?_
  rintro e u3 ⟨Aw0, cw0, Bw0, dw0, Aw1, cw1, Tw00, Tw01, Tw10, rfl, rw00, rw01, rw10, hTw00, hTw01, hTw10, Dw01, Dw02, Dw12, hb3⟩
  clear la00
  replace hr00 := hr00.below hb3
  replace hr01 := hr01.below hb3
  replace a00 := keep hb3 a00
  replace a01 := keep hb3 a01
  replace ow00 := ow00.below hb3
  replace ow01 := ow01.below hb3
  have hz3 := hb3.size
  try simp only [World.size_alloc, World.size_drew] at hz3
  replace hTw00 : ∀ b, Tw00 b → u2.heap.size + 0 ≤ b ∧ b < u3.heap.size := fun b hb => by have := hTw00 b hb; (try simp only [World.size_alloc, World.size_drew] at this); omega
  replace hTw01 : ∀ b, Tw01 b → u2.heap.size + 0 ≤ b ∧ b < u3.heap.size := fun b hb => by have := hTw01 b hb; (try simp only [World.size_alloc, World.size_drew] at this); omega
  replace hTw10 : ∀ b, Tw10 b → u2.heap.size + 0 ≤ b ∧ b < u3.heap.size := fun b hb => by have := hTw10 b hb; (try simp only [World.size_alloc, World.size_drew] at this); omega
  have la00 := lt_of_cell' a00
  go_wp2_with fail
  refine (toMail_w _ _ _ _ _ _ _ (hr00.alloc _) (hr01.alloc _) hn00).mono ?_
  rintro e u4 ⟨A0x, c0x, B0x, d0x, Sx00, Sx01, rfl, kx00, kx01, ox00, ox01, hSx00, hSx01, dx00, hb4⟩
  clear la00
  replace hr00 := (hr00.alloc _).below hb4
  replace hr01 := (hr01.alloc _).below hb4
  replace a00 := keep hb4 (cell_al a00 _)
  replace a01 := keep hb4 (cell_al a01 _)
  replace rw00 := (rw00.alloc _).below hb4
  replace rw01 := (rw01.alloc _).below hb4
  replace rw10 := (rw10.alloc _).below hb4
  have bw00 : u4.cell? ⟨u3.heap.size, 0, none⟩ = some (.slice Aw0 ys.length cw0) := keep hb4 (by simp [go_sem])
  have bw01 : u4.cell? ⟨u3.heap.size, 1, none⟩ = some (.slice Bw0 zs.length dw0) := keep hb4 (by simp [go_sem])
  have hz4 := hb4.size
  try simp only [World.size_alloc, World.size_drew] at hz4
  replace hSx00 : ∀ b, Sx00 b → u3.heap.size + 1 ≤ b ∧ b < u4.heap.size := fun b hb => by have := hSx00 b hb; (try simp only [World.size_alloc, World.size_drew] at this); omega
  replace hSx01 : ∀ b, Sx01 b → u3.heap.size + 1 ≤ b ∧ b < u4.heap.size := fun b hb => by have := hSx01 b hb; (try simp only [World.size_alloc, World.size_drew] at this); omega
  have la00 := lt_of_cell' a00
  have lbw00 := lt_of_cell' bw00
  go_wp2_with fail
  refine (HI.out _ _ _ _ _ (ox00.alloc _).rd (ox01.alloc _).rd hn00).mono ?_
  rintro e u5 ⟨Ag0, cg0, Bg0, dg0, Ag1, cg1, Tg00, Tg01, Tg10, rfl, rg00, rg01, rg10, hTg00, hTg01, hTg10, Dg01, Dg02, Dg12, hb5⟩
  clear la00 lbw00
  replace hr00 := (hr00.alloc _).below hb5
  replace hr01 := (hr01.alloc _).below hb5
  replace a00 := keep hb5 (cell_al a00 _)
  replace a01 := keep hb5 (cell_al a01 _)
  replace rw00 := (rw00.alloc _).below hb5
  replace rw01 := (rw01.alloc _).below hb5
  replace rw10 := (rw10.alloc _).below hb5
  replace bw00 := keep hb5 (cell_al bw00 _)
  replace bw01 := keep hb5 (cell_al bw01 _)
  replace ox00 := (ox00.alloc _).below hb5
  replace ox01 := (ox01.alloc _).below hb5
  have x00 : u5.cell? ⟨u4.heap.size, 0, none⟩ = some (.slice A0x x0.length c0x) := keep hb5 (by simp [go_sem])
  have x01 : u5.cell? ⟨u4.heap.size, 1, none⟩ = some (.slice B0x y0.length d0x) := keep hb5 (by simp [go_sem])
  have hz5 := hb5.size
  try simp only [World.size_alloc, World.size_drew] at hz5
  replace hTg00 : ∀ b, Tg00 b → u4.heap.size + 1 ≤ b ∧ b < u5.heap.size := fun b hb => by have := hTg00 b hb; (try simp only [World.size_alloc, World.size_drew] at this); omega
  replace hTg01 : ∀ b, Tg01 b → u4.heap.size + 1 ≤ b ∧ b < u5.heap.size := fun b hb => by have := hTg01 b hb; (try simp only [World.size_alloc, World.size_drew] at this); omega
  replace hTg10 : ∀ b, Tg10 b → u4.heap.size + 1 ≤ b ∧ b < u5.heap.size := fun b hb => by have := hTg10 b hb; (try simp only [World.size_alloc, World.size_drew] at this); omega
  have la00 := lt_of_cell' a00
  have lbw00 := lt_of_cell' bw00
  have lx00 := lt_of_cell' x00
  go_wp2_with fail
  refine (eqMail_same _ _ _ _ _ _ _ _ _ _ _ (rg00.alloc _).rd (rw00.alloc _).rd (rg01.alloc _).rd (rw01.alloc _).rd hyA).mono ?_
  rintro e u6 ⟨rfl, hb6⟩
  clear la00 lbw00 lx00
  replace hr00 := (hr00.alloc _).below hb6
  replace hr01 := (hr01.alloc _).below hb6
  replace a00 := keep hb6 (cell_al a00 _)
  replace a01 := keep hb6 (cell_al a01 _)
  replace rw00 := (rw00.alloc _).below hb6
  replace rw01 := (rw01.alloc _).below hb6
  replace rw10 := (rw10.alloc _).below hb6
  replace bw00 := keep hb6 (cell_al bw00 _)
  replace bw01 := keep hb6 (cell_al bw01 _)
  replace ox00 := (ox00.alloc _).below hb6
  replace ox01 := (ox01.alloc _).below hb6
  replace x00 := keep hb6 (cell_al x00 _)
  replace x01 := keep hb6 (cell_al x01 _)
  replace rg00 := (rg00.alloc _).below hb6
  replace rg01 := (rg01.alloc _).below hb6
  replace rg10 := (rg10.alloc _).below hb6
  have bg00 : u6.cell? ⟨u5.heap.size, 0, none⟩ = some (.slice Ag0 ys.length cg0) := keep hb6 (by simp [go_sem])
  have bg01 : u6.cell? ⟨u5.heap.size, 1, none⟩ = some (.slice Bg0 zs.length dg0) := keep hb6 (by simp [go_sem])
  have hz6 := hb6.size
  try simp only [World.size_alloc, World.size_drew] at hz6
  have la00 := lt_of_cell' a00
  have lbw00 := lt_of_cell' bw00
  have lx00 := lt_of_cell' x00
  have lbg00 := lt_of_cell' bg00
  go_wp2_with fail
  refine (eqIntS_same _ _ _ _ _ _ rg10.rd rw10.rd hyB).mono ?_
  rintro e u7 ⟨rfl, hb7⟩
  clear la00 lbw00 lx00 lbg00
  replace hr00 := hr00.below hb7
  replace hr01 := hr01.below hb7
  replace a00 := keep hb7 a00
  replace a01 := keep hb7 a01
  replace rw00 := rw00.below hb7
  replace rw01 := rw01.below hb7
  replace rw10 := rw10.below hb7
  replace bw00 := keep hb7 bw00
  replace bw01 := keep hb7 bw01
  replace ox00 := ox00.below hb7
  replace ox01 := ox01.below hb7
  replace x00 := keep hb7 x00
  replace x01 := keep hb7 x01
  replace rg00 := rg00.below hb7
  replace rg01 := rg01.below hb7
  replace rg10 := rg10.below hb7
  replace bg00 := keep hb7 bg00
  replace bg01 := keep hb7 bg01
  have hz7 := hb7.size
  try simp only [World.size_alloc, World.size_drew] at hz7
  have la00 := lt_of_cell' a00
  have lbw00 := lt_of_cell' bw00
  have lx00 := lt_of_cell' x00
  have lbg00 := lt_of_cell' bg00
  go_wp2_with fail
  clear la00 lbw00 lx00 lbg00
  replace hr00 := hr00.drew
  replace hr01 := hr01.drew
  replace a00 := (show World.cell? (World.drew _) _ = _ from a00)
  replace a01 := (show World.cell? (World.drew _) _ = _ from a01)
  replace rw00 := rw00.drew
  replace rw01 := rw01.drew
  replace rw10 := rw10.drew
  replace bw00 := (show World.cell? (World.drew _) _ = _ from bw00)
  replace bw01 := (show World.cell? (World.drew _) _ = _ from bw01)
  replace ox00 := ox00.drew
  replace ox01 := ox01.drew
  replace x00 := (show World.cell? (World.drew _) _ = _ from x00)
  replace x01 := (show World.cell? (World.drew _) _ = _ from x01)
  replace rg00 := rg00.drew
  replace rg01 := rg01.drew
  replace rg10 := rg10.drew
  replace bg00 := (show World.cell? (World.drew _) _ = _ from bg00)
  replace bg01 := (show World.cell? (World.drew _) _ = _ from bg01)
  go_region_held3 (fun w' => w'.cell? ⟨w.heap.size, 0, none⟩ = some (.slice A0 x0.length c0) ∧ w'.cell? ⟨w.heap.size, 1, none⟩ = some (.slice B0 y0.length d0) ∧ w'.cell? ⟨u4.heap.size, 0, none⟩ = some (.slice A0x x0.length c0x) ∧ w'.cell? ⟨u4.heap.size, 1, none⟩ = some (.slice B0x y0.length d0x)) (first | go_keep | exact ⟨(keep hb8 a00), (keep hb8 a01), (keep hb8 x00), (keep hb8 x01)⟩ | exact ⟨(keep hb9 (keep hb8 a00)), (keep hb9 (keep hb8 a01)), (keep hb9 (keep hb8 x00)), (keep hb9 (keep hb8 x01))⟩)
    (first | (go_at_call 23; refine (toMail_w _ _ _ _ _ _ _ hr00 hr01 hn00).mono ?_; rintro e u8 ⟨A0y0, c0y0, B0y0, d0y0, Sy000, Sy001, rfl, ky000, ky001, oy000, oy001, hSy000, hSy001, dy000, hb8⟩) | (go_at_call 18; refine (eqMail_same _ _ _ _ _ _ _ _ _ _ _ (ox00.below hb8).rd oy000.rd (ox01.below hb8).rd oy001.rd hn00).mono ?_; rintro e u9 ⟨rfl, hb9⟩))
  replace hr00 := ((hr00.below hb8).below hb9)
  replace hr01 := ((hr01.below hb8).below hb9)
  replace a00 := (keep hb9 (keep hb8 a00))
  replace a01 := (keep hb9 (keep hb8 a01))
  replace rw00 := ((rw00.below hb8).below hb9)
  replace rw01 := ((rw01.below hb8).below hb9)
  replace rw10 := ((rw10.below hb8).below hb9)
  replace bw00 := (keep hb9 (keep hb8 bw00))
  replace bw01 := (keep hb9 (keep hb8 bw01))
  replace ox00 := ((ox00.below hb8).below hb9)
  replace ox01 := ((ox01.below hb8).below hb9)
  replace x00 := (keep hb9 (keep hb8 x00))
  replace x01 := (keep hb9 (keep hb8 x01))
  replace rg00 := ((rg00.below hb8).below hb9)
  replace rg01 := ((rg01.below hb8).below hb9)
  replace rg10 := ((rg10.below hb8).below hb9)
  replace bg00 := (keep hb9 (keep hb8 bg00))
  replace bg01 := (keep hb9 (keep hb8 bg01))
  have hz8 := hb8.size
  try simp only [World.size_alloc, World.size_drew] at hz8
  replace hSy000 : ∀ b, Sy000 b → u7.heap.size + 0 ≤ b ∧ b < u8.heap.size := fun b hb => by have := hSy000 b hb; (try simp only [World.size_alloc, World.size_drew] at this); omega
  replace hSy001 : ∀ b, Sy001 b → u7.heap.size + 0 ≤ b ∧ b < u8.heap.size := fun b hb => by have := hSy001 b hb; (try simp only [World.size_alloc, World.size_drew] at this); omega
  have hz9 := hb9.size
  try simp only [World.size_alloc, World.size_drew] at hz9
  have la00 := lt_of_cell' a00
  have lbw00 := lt_of_cell' bw00
  have lx00 := lt_of_cell' x00
  have lbg00 := lt_of_cell' bg00
  go_wp2_with fail
  refine (markMail_c _ _ _ _ _ _ _ _ ox00 ox01 dx00 hn00 (by omega) (by omega) (fun b hb => by have := hSx00 b hb; omega) (fun b hb => by have := hSx01 b hb; omega)).mono ?_
  rintro e u10 ⟨rfl, nox00, nox01, ho10⟩
  have hz10 := ho10.size
  try simp only [World.size_alloc, World.size_drew] at hz10
  clear la00 lbw00 lx00 lbg00
  have hl10 : ∀ b, (fun b => Sx00 b ∨ Sx01 b) b → w.heap.size ≤ b := fun b hb => by rcases hb with hb | hb <;> first | (have := hSx00 b hb; omega) | (have := hSx01 b hb; omega)
  replace hr00 := hr00.outS ho10 hl10
  replace hr01 := hr01.outS ho10 hl10
  replace a00 := ho10.cell a00 (fun hb => by rcases hb with hb | hb <;> first | (have := hSx00 _ hb; first | omega | (dsimp only at this; omega) | (simp at this; omega)) | (have := hSx01 _ hb; first | omega | (dsimp only at this; omega) | (simp at this; omega)))
  replace a01 := ho10.cell a01 (fun hb => by rcases hb with hb | hb <;> first | (have := hSx00 _ hb; first | omega | (dsimp only at this; omega) | (simp at this; omega)) | (have := hSx01 _ hb; first | omega | (dsimp only at this; omega) | (simp at this; omega)))
  replace rw00 := rw00.outS ho10 (fun b hb hx => by rcases hx with hx | hx <;> first | (have h1 := hTw00 b hb; have h2 := hSx00 b hx; omega) | (have h1 := hTw00 b hb; have h2 := hSx01 b hx; omega))
  replace rw01 := rw01.outS ho10 (fun b hb hx => by rcases hx with hx | hx <;> first | (have h1 := hTw01 b hb; have h2 := hSx00 b hx; omega) | (have h1 := hTw01 b hb; have h2 := hSx01 b hx; omega))
  replace rw10 := rw10.outS ho10 (fun b hb hx => by rcases hx with hx | hx <;> first | (have h1 := hTw10 b hb; have h2 := hSx00 b hx; omega) | (have h1 := hTw10 b hb; have h2 := hSx01 b hx; omega))
  replace bw00 := ho10.cell bw00 (fun hb => by rcases hb with hb | hb <;> first | (have := hSx00 _ hb; first | omega | (dsimp only at this; omega) | (simp at this; omega)) | (have := hSx01 _ hb; first | omega | (dsimp only at this; omega) | (simp at this; omega)))
  replace bw01 := ho10.cell bw01 (fun hb => by rcases hb with hb | hb <;> first | (have := hSx00 _ hb; first | omega | (dsimp only at this; omega) | (simp at this; omega)) | (have := hSx01 _ hb; first | omega | (dsimp only at this; omega) | (simp at this; omega)))
  replace x00 := ho10.cell x00 (fun hb => by rcases hb with hb | hb <;> first | (have := hSx00 _ hb; first | omega | (dsimp only at this; omega) | (simp at this; omega)) | (have := hSx01 _ hb; first | omega | (dsimp only at this; omega) | (simp at this; omega)))
  replace x01 := ho10.cell x01 (fun hb => by rcases hb with hb | hb <;> first | (have := hSx00 _ hb; first | omega | (dsimp only at this; omega) | (simp at this; omega)) | (have := hSx01 _ hb; first | omega | (dsimp only at this; omega) | (simp at this; omega)))
  replace rg00 := rg00.outS ho10 (fun b hb hx => by rcases hx with hx | hx <;> first | (have h1 := hTg00 b hb; have h2 := hSx00 b hx; omega) | (have h1 := hTg00 b hb; have h2 := hSx01 b hx; omega))
  replace rg01 := rg01.outS ho10 (fun b hb hx => by rcases hx with hx | hx <;> first | (have h1 := hTg01 b hb; have h2 := hSx00 b hx; omega) | (have h1 := hTg01 b hb; have h2 := hSx01 b hx; omega))
  replace rg10 := rg10.outS ho10 (fun b hb hx => by rcases hx with hx | hx <;> first | (have h1 := hTg10 b hb; have h2 := hSx00 b hx; omega) | (have h1 := hTg10 b hb; have h2 := hSx01 b hx; omega))
  replace bg00 := ho10.cell bg00 (fun hb => by rcases hb with hb | hb <;> first | (have := hSx00 _ hb; first | omega | (dsimp only at this; omega) | (simp at this; omega)) | (have := hSx01 _ hb; first | omega | (dsimp only at this; omega) | (simp at this; omega)))
  replace bg01 := ho10.cell bg01 (fun hb => by rcases hb with hb | hb <;> first | (have := hSx00 _ hb; first | omega | (dsimp only at this; omega) | (simp at this; omega)) | (have := hSx01 _ hb; first | omega | (dsimp only at this; omega) | (simp at this; omega)))
  clear ox00
  clear ox01
  have la00 := lt_of_cell' a00
  have lbw00 := lt_of_cell' bw00
  have lx00 := lt_of_cell' x00
  have lbg00 := lt_of_cell' bg00
  go_wp2_with fail
  refine (eqMail_same _ _ _ _ _ _ _ _ _ _ _ rg00.rd rw00.rd rg01.rd rw01.rd hyA).mono ?_
  rintro e u11 ⟨rfl, hb11⟩
  clear la00 lbw00 lx00 lbg00
  replace hr00 := hr00.below hb11
  replace hr01 := hr01.below hb11
  replace a00 := keep hb11 a00
  replace a01 := keep hb11 a01
  replace rw00 := rw00.below hb11
  replace rw01 := rw01.below hb11
  replace rw10 := rw10.below hb11
  replace bw00 := keep hb11 bw00
  replace bw01 := keep hb11 bw01
  replace x00 := keep hb11 x00
  replace x01 := keep hb11 x01
  replace rg00 := rg00.below hb11
  replace rg01 := rg01.below hb11
  replace rg10 := rg10.below hb11
  replace bg00 := keep hb11 bg00
  replace bg01 := keep hb11 bg01
  have hz11 := hb11.size
  try simp only [World.size_alloc, World.size_drew] at hz11
  have la00 := lt_of_cell' a00
  have lbw00 := lt_of_cell' bw00
  have lx00 := lt_of_cell' x00
  have lbg00 := lt_of_cell' bg00
  go_wp2_with fail
  refine (eqIntS_same _ _ _ _ _ _ rg10.rd rw10.rd hyB).mono ?_
  rintro e u12 ⟨rfl, hb12⟩
  clear la00 lbw00 lx00 lbg00
  replace hr00 := hr00.below hb12
  replace hr01 := hr01.below hb12
  replace a00 := keep hb12 a00
  replace a01 := keep hb12 a01
  replace rw00 := rw00.below hb12
  replace rw01 := rw01.below hb12
  replace rw10 := rw10.below hb12
  replace bw00 := keep hb12 bw00
  replace bw01 := keep hb12 bw01
  replace x00 := keep hb12 x00
  replace x01 := keep hb12 x01
  replace rg00 := rg00.below hb12
  replace rg01 := rg01.below hb12
  replace rg10 := rg10.below hb12
  replace bg00 := keep hb12 bg00
  replace bg01 := keep hb12 bg01
  have hz12 := hb12.size
  try simp only [World.size_alloc, World.size_drew] at hz12
  have la00 := lt_of_cell' a00
  have lbw00 := lt_of_cell' bw00
  have lx00 := lt_of_cell' x00
  have lbg00 := lt_of_cell' bg00
  go_wp2_with fail
  refine (markMail_any _ _ _ _ _ _ _ _ rg00 rg01 Dg01 hyA (by omega) (by omega) (fun b hb => by have := hTg00 b hb; omega) (fun b hb => by have := hTg01 b hb; omega)).mono ?_
  rintro e u13 ⟨rfl, nrg00, nrg01, ho13⟩
  have hz13 := ho13.size
  try simp only [World.size_alloc, World.size_drew] at hz13
  clear la00 lbw00 lx00 lbg00
  have hl13 : ∀ b, (fun b => Tg00 b ∨ Tg01 b) b → w.heap.size ≤ b := fun b hb => by rcases hb with hb | hb <;> first | (have := hTg00 b hb; omega) | (have := hTg01 b hb; omega)
  replace hr00 := hr00.outS ho13 hl13
  replace hr01 := hr01.outS ho13 hl13
  replace a00 := ho13.cell a00 (fun hb => by rcases hb with hb | hb <;> first | (have := hTg00 _ hb; first | omega | (dsimp only at this; omega) | (simp at this; omega)) | (have := hTg01 _ hb; first | omega | (dsimp only at this; omega) | (simp at this; omega)))
  replace a01 := ho13.cell a01 (fun hb => by rcases hb with hb | hb <;> first | (have := hTg00 _ hb; first | omega | (dsimp only at this; omega) | (simp at this; omega)) | (have := hTg01 _ hb; first | omega | (dsimp only at this; omega) | (simp at this; omega)))
  replace rw00 := rw00.outS ho13 (fun b hb hx => by rcases hx with hx | hx <;> first | (have h1 := hTw00 b hb; have h2 := hTg00 b hx; omega) | (have h1 := hTw00 b hb; have h2 := hTg01 b hx; omega))
  replace rw01 := rw01.outS ho13 (fun b hb hx => by rcases hx with hx | hx <;> first | (have h1 := hTw01 b hb; have h2 := hTg00 b hx; omega) | (have h1 := hTw01 b hb; have h2 := hTg01 b hx; omega))
  replace rw10 := rw10.outS ho13 (fun b hb hx => by rcases hx with hx | hx <;> first | (have h1 := hTw10 b hb; have h2 := hTg00 b hx; omega) | (have h1 := hTw10 b hb; have h2 := hTg01 b hx; omega))
  replace bw00 := ho13.cell bw00 (fun hb => by rcases hb with hb | hb <;> first | (have := hTg00 _ hb; first | omega | (dsimp only at this; omega) | (simp at this; omega)) | (have := hTg01 _ hb; first | omega | (dsimp only at this; omega) | (simp at this; omega)))
  replace bw01 := ho13.cell bw01 (fun hb => by rcases hb with hb | hb <;> first | (have := hTg00 _ hb; first | omega | (dsimp only at this; omega) | (simp at this; omega)) | (have := hTg01 _ hb; first | omega | (dsimp only at this; omega) | (simp at this; omega)))
  replace x00 := ho13.cell x00 (fun hb => by rcases hb with hb | hb <;> first | (have := hTg00 _ hb; first | omega | (dsimp only at this; omega) | (simp at this; omega)) | (have := hTg01 _ hb; first | omega | (dsimp only at this; omega) | (simp at this; omega)))
  replace x01 := ho13.cell x01 (fun hb => by rcases hb with hb | hb <;> first | (have := hTg00 _ hb; first | omega | (dsimp only at this; omega) | (simp at this; omega)) | (have := hTg01 _ hb; first | omega | (dsimp only at this; omega) | (simp at this; omega)))
  replace rg10 := rg10.outS ho13 (fun b hb hx => by rcases hx with hx | hx <;> first | exact Dg02 b hx hb | exact Dg12 b hx hb)
  replace bg00 := ho13.cell bg00 (fun hb => by rcases hb with hb | hb <;> first | (have := hTg00 _ hb; first | omega | (dsimp only at this; omega) | (simp at this; omega)) | (have := hTg01 _ hb; first | omega | (dsimp only at this; omega) | (simp at this; omega)))
  replace bg01 := ho13.cell bg01 (fun hb => by rcases hb with hb | hb <;> first | (have := hTg00 _ hb; first | omega | (dsimp only at this; omega) | (simp at this; omega)) | (have := hTg01 _ hb; first | omega | (dsimp only at this; omega) | (simp at this; omega)))
  clear rg00
  clear rg01
  have la00 := lt_of_cell' a00
  have lbw00 := lt_of_cell' bw00
  have lx00 := lt_of_cell' x00
  have lbg00 := lt_of_cell' bg00
  go_wp2_with fail
  refine (markIntS_w _ _ _ _ _ rg10 hyB (by omega) (by omega)).mono ?_
  rintro e u14 ⟨rfl, nrg10, ho14⟩
  have hz14 := ho14.size
  try simp only [World.size_alloc, World.size_drew] at hz14
  clear la00 lbw00 lx00 lbg00
  have hl14 : ∀ b, Tg10 b → w.heap.size ≤ b := fun b hb => by have := hTg10 b hb; omega
  replace hr00 := hr00.outS ho14 hl14
  replace hr01 := hr01.outS ho14 hl14
  replace a00 := ho14.cell a00 (fun hb => by have := hTg10 _ hb; first | omega | (dsimp only at this; omega) | (simp at this; omega))
  replace a01 := ho14.cell a01 (fun hb => by have := hTg10 _ hb; first | omega | (dsimp only at this; omega) | (simp at this; omega))
  replace rw00 := rw00.outS ho14 (fun b hb hx => by first | (have h1 := hTw00 b hb; have h2 := hTg10 b hx; omega))
  replace rw01 := rw01.outS ho14 (fun b hb hx => by first | (have h1 := hTw01 b hb; have h2 := hTg10 b hx; omega))
  replace rw10 := rw10.outS ho14 (fun b hb hx => by first | (have h1 := hTw10 b hb; have h2 := hTg10 b hx; omega))
  replace bw00 := ho14.cell bw00 (fun hb => by have := hTg10 _ hb; first | omega | (dsimp only at this; omega) | (simp at this; omega))
  replace bw01 := ho14.cell bw01 (fun hb => by have := hTg10 _ hb; first | omega | (dsimp only at this; omega) | (simp at this; omega))
  replace x00 := ho14.cell x00 (fun hb => by have := hTg10 _ hb; first | omega | (dsimp only at this; omega) | (simp at this; omega))
  replace x01 := ho14.cell x01 (fun hb => by have := hTg10 _ hb; first | omega | (dsimp only at this; omega) | (simp at this; omega))
  replace bg00 := ho14.cell bg00 (fun hb => by have := hTg10 _ hb; first | omega | (dsimp only at this; omega) | (simp at this; omega))
  replace bg01 := ho14.cell bg01 (fun hb => by have := hTg10 _ hb; first | omega | (dsimp only at this; omega) | (simp at this; omega))
  replace nrg00 := nrg00.outS ho14 (fun b hb hx => by first | exact Dg02 b hb hx)
  replace nrg01 := nrg01.outS ho14 (fun b hb hx => by first | exact Dg12 b hb hx)
  clear rg10
  have la00 := lt_of_cell' a00
  have lbw00 := lt_of_cell' bw00
  have lx00 := lt_of_cell' x00
  have lbg00 := lt_of_cell' bg00
  go_wp2_with fail
  refine (heldMail_b _ _ _ _ _ _ _ _ nrg00.rd nrg01.rd hyA (by omega) (by omega)).mono ?_
  rintro e u15 ⟨rfl, hb15⟩
  clear la00 lbw00 lx00 lbg00
  replace hr00 := hr00.below hb15
  replace hr01 := hr01.below hb15
  replace a00 := keep hb15 a00
  replace a01 := keep hb15 a01
  replace rw00 := rw00.below hb15
  replace rw01 := rw01.below hb15
  replace rw10 := rw10.below hb15
  replace bw00 := keep hb15 bw00
  replace bw01 := keep hb15 bw01
  replace x00 := keep hb15 x00
  replace x01 := keep hb15 x01
  replace bg00 := keep hb15 bg00
  replace bg01 := keep hb15 bg01
  replace nrg00 := nrg00.below hb15
  replace nrg01 := nrg01.below hb15
  replace nrg10 := nrg10.below hb15
  have hz15 := hb15.size
  try simp only [World.size_alloc, World.size_drew] at hz15
  have la00 := lt_of_cell' a00
  have lbw00 := lt_of_cell' bw00
  have lx00 := lt_of_cell' x00
  have lbg00 := lt_of_cell' bg00
  go_wp2_with fail
  refine (heldIntS_b _ _ _ _ _ nrg10.rd hyB (by omega) (by omega)).mono ?_
  rintro e u16 ⟨rfl, hb16⟩
  clear la00 lbw00 lx00 lbg00
  replace hr00 := hr00.below hb16
  replace hr01 := hr01.below hb16
  replace a00 := keep hb16 a00
  replace a01 := keep hb16 a01
  replace rw00 := rw00.below hb16
  replace rw01 := rw01.below hb16
  replace rw10 := rw10.below hb16
  replace bw00 := keep hb16 bw00
  replace bw01 := keep hb16 bw01
  replace x00 := keep hb16 x00
  replace x01 := keep hb16 x01
  replace bg00 := keep hb16 bg00
  replace bg01 := keep hb16 bg01
  replace nrg00 := nrg00.below hb16
  replace nrg01 := nrg01.below hb16
  replace nrg10 := nrg10.below hb16
  have hz16 := hb16.size
  try simp only [World.size_alloc, World.size_drew] at hz16
  have la00 := lt_of_cell' a00
  have lbw00 := lt_of_cell' bw00
  have lx00 := lt_of_cell' x00
  have lbg00 := lt_of_cell' bg00
  go_wp2_with fail
  refine (toMail_w _ _ _ _ _ _ _ hr00 hr01 hn00).mono ?_
  rintro e u17 ⟨A0h, c0h, B0h, d0h, Sh00, Sh01, rfl, kh00, kh01, oh00, oh01, hSh00, hSh01, dh00, hb17⟩
  clear la00 lbw00 lx00 lbg00
  replace hr00 := hr00.below hb17
  replace hr01 := hr01.below hb17
  replace a00 := keep hb17 a00
  replace a01 := keep hb17 a01
  replace rw00 := rw00.below hb17
  replace rw01 := rw01.below hb17
  replace rw10 := rw10.below hb17
  replace bw00 := keep hb17 bw00
  replace bw01 := keep hb17 bw01
  replace x00 := keep hb17 x00
  replace x01 := keep hb17 x01
  replace bg00 := keep hb17 bg00
  replace bg01 := keep hb17 bg01
  replace nrg00 := nrg00.below hb17
  replace nrg01 := nrg01.below hb17
  replace nrg10 := nrg10.below hb17
  have hz17 := hb17.size
  try simp only [World.size_alloc, World.size_drew] at hz17
  replace hSh00 : ∀ b, Sh00 b → u16.heap.size + 0 ≤ b ∧ b < u17.heap.size := fun b hb => by have := hSh00 b hb; (try simp only [World.size_alloc, World.size_drew] at this); omega
  replace hSh01 : ∀ b, Sh01 b → u16.heap.size + 0 ≤ b ∧ b < u17.heap.size := fun b hb => by have := hSh01 b hb; (try simp only [World.size_alloc, World.size_drew] at this); omega
  have la00 := lt_of_cell' a00
  have lbw00 := lt_of_cell' bw00
  have lx00 := lt_of_cell' x00
  have lbg00 := lt_of_cell' bg00
  go_wp2_with fail
  refine (HI.out _ _ _ _ _ oh00.rd oh01.rd hn00).mono ?_
  rintro e u18 ⟨Ah0, ch0, Bh0, dh0, Ah1, ch1, Th00, Th01, Th10, rfl, rh00, rh01, rh10, hTh00, hTh01, hTh10, Dh01, Dh02, Dh12, hb18⟩
  clear la00 lbw00 lx00 lbg00
  replace hr00 := hr00.below hb18
  replace hr01 := hr01.below hb18
  replace a00 := keep hb18 a00
  replace a01 := keep hb18 a01
  replace rw00 := rw00.below hb18
  replace rw01 := rw01.below hb18
  replace rw10 := rw10.below hb18
  replace bw00 := keep hb18 bw00
  replace bw01 := keep hb18 bw01
  replace x00 := keep hb18 x00
  replace x01 := keep hb18 x01
  replace bg00 := keep hb18 bg00
  replace bg01 := keep hb18 bg01
  replace nrg00 := nrg00.below hb18
  replace nrg01 := nrg01.below hb18
  replace nrg10 := nrg10.below hb18
  replace oh00 := oh00.below hb18
  replace oh01 := oh01.below hb18
  have hz18 := hb18.size
  try simp only [World.size_alloc, World.size_drew] at hz18
  replace hTh00 : ∀ b, Th00 b → u17.heap.size + 0 ≤ b ∧ b < u18.heap.size := fun b hb => by have := hTh00 b hb; (try simp only [World.size_alloc, World.size_drew] at this); omega
  replace hTh01 : ∀ b, Th01 b → u17.heap.size + 0 ≤ b ∧ b < u18.heap.size := fun b hb => by have := hTh01 b hb; (try simp only [World.size_alloc, World.size_drew] at this); omega
  replace hTh10 : ∀ b, Th10 b → u17.heap.size + 0 ≤ b ∧ b < u18.heap.size := fun b hb => by have := hTh10 b hb; (try simp only [World.size_alloc, World.size_drew] at this); omega
  have la00 := lt_of_cell' a00
  have lbw00 := lt_of_cell' bw00
  have lx00 := lt_of_cell' x00
  have lbg00 := lt_of_cell' bg00
  go_wp2_with fail
  refine (eqMail_same _ _ _ _ _ _ _ _ _ _ _ (rh00.alloc _).rd (rw00.alloc _).rd (rh01.alloc _).rd (rw01.alloc _).rd hyA).mono ?_
  rintro e u19 ⟨rfl, hb19⟩
  clear la00 lbw00 lx00 lbg00
  replace hr00 := (hr00.alloc _).below hb19
  replace hr01 := (hr01.alloc _).below hb19
  replace a00 := keep hb19 (cell_al a00 _)
  replace a01 := keep hb19 (cell_al a01 _)
  replace rw00 := (rw00.alloc _).below hb19
  replace rw01 := (rw01.alloc _).below hb19
  replace rw10 := (rw10.alloc _).below hb19
  replace bw00 := keep hb19 (cell_al bw00 _)
  replace bw01 := keep hb19 (cell_al bw01 _)
  replace x00 := keep hb19 (cell_al x00 _)
  replace x01 := keep hb19 (cell_al x01 _)
  replace bg00 := keep hb19 (cell_al bg00 _)
  replace bg01 := keep hb19 (cell_al bg01 _)
  replace nrg00 := (nrg00.alloc _).below hb19
  replace nrg01 := (nrg01.alloc _).below hb19
  replace nrg10 := (nrg10.alloc _).below hb19
  replace rh00 := (rh00.alloc _).below hb19
  replace rh01 := (rh01.alloc _).below hb19
  replace rh10 := (rh10.alloc _).below hb19
  have bh00 : u19.cell? ⟨u18.heap.size, 0, none⟩ = some (.slice Ah0 ys.length ch0) := keep hb19 (by simp [go_sem])
  have bh01 : u19.cell? ⟨u18.heap.size, 1, none⟩ = some (.slice Bh0 zs.length dh0) := keep hb19 (by simp [go_sem])
  have hz19 := hb19.size
  try simp only [World.size_alloc, World.size_drew] at hz19
  have la00 := lt_of_cell' a00
  have lbw00 := lt_of_cell' bw00
  have lx00 := lt_of_cell' x00
  have lbg00 := lt_of_cell' bg00
  have lbh00 := lt_of_cell' bh00
  go_wp2_with fail
  refine (eqIntS_same _ _ _ _ _ _ rh10.rd rw10.rd hyB).mono ?_
  rintro e u20 ⟨rfl, hb20⟩
  clear la00 lbw00 lx00 lbg00 lbh00
  replace hr00 := hr00.below hb20
  replace hr01 := hr01.below hb20
  replace a00 := keep hb20 a00
  replace a01 := keep hb20 a01
  replace rw00 := rw00.below hb20
  replace rw01 := rw01.below hb20
  replace rw10 := rw10.below hb20
  replace bw00 := keep hb20 bw00
  replace bw01 := keep hb20 bw01
  replace x00 := keep hb20 x00
  replace x01 := keep hb20 x01
  replace bg00 := keep hb20 bg00
  replace bg01 := keep hb20 bg01
  replace nrg00 := nrg00.below hb20
  replace nrg01 := nrg01.below hb20
  replace nrg10 := nrg10.below hb20
  replace rh00 := rh00.below hb20
  replace rh01 := rh01.below hb20
  replace rh10 := rh10.below hb20
  replace bh00 := keep hb20 bh00
  replace bh01 := keep hb20 bh01
  have hz20 := hb20.size
  try simp only [World.size_alloc, World.size_drew] at hz20
  have la00 := lt_of_cell' a00
  have lbw00 := lt_of_cell' bw00
  have lx00 := lt_of_cell' x00
  have lbg00 := lt_of_cell' bg00
  have lbh00 := lt_of_cell' bh00
  go_wp2_with fail
  refine (heldMail_b _ _ _ _ _ _ _ _ nrg00.rd nrg01.rd hyA (by omega) (by omega)).mono ?_
  rintro e u21 ⟨rfl, hb21⟩
  clear la00 lbw00 lx00 lbg00 lbh00
  replace hr00 := hr00.below hb21
  replace hr01 := hr01.below hb21
  replace a00 := keep hb21 a00
  replace a01 := keep hb21 a01
  replace rw00 := rw00.below hb21
  replace rw01 := rw01.below hb21
  replace rw10 := rw10.below hb21
  replace bw00 := keep hb21 bw00
  replace bw01 := keep hb21 bw01
  replace x00 := keep hb21 x00
  replace x01 := keep hb21 x01
  replace bg00 := keep hb21 bg00
  replace bg01 := keep hb21 bg01
  replace nrg00 := nrg00.below hb21
  replace nrg01 := nrg01.below hb21
  replace nrg10 := nrg10.below hb21
  replace rh00 := rh00.below hb21
  replace rh01 := rh01.below hb21
  replace rh10 := rh10.below hb21
  replace bh00 := keep hb21 bh00
  replace bh01 := keep hb21 bh01
  have hz21 := hb21.size
  try simp only [World.size_alloc, World.size_drew] at hz21
  have la00 := lt_of_cell' a00
  have lbw00 := lt_of_cell' bw00
  have lx00 := lt_of_cell' x00
  have lbg00 := lt_of_cell' bg00
  have lbh00 := lt_of_cell' bh00
  go_wp2_with fail
  refine (heldIntS_b _ _ _ _ _ nrg10.rd hyB (by omega) (by omega)).mono ?_
  rintro e u22 ⟨rfl, hb22⟩
  clear la00 lbw00 lx00 lbg00 lbh00
  replace hr00 := hr00.below hb22
  replace hr01 := hr01.below hb22
  replace a00 := keep hb22 a00
  replace a01 := keep hb22 a01
  replace rw00 := rw00.below hb22
  replace rw01 := rw01.below hb22
  replace rw10 := rw10.below hb22
  replace bw00 := keep hb22 bw00
  replace bw01 := keep hb22 bw01
  replace x00 := keep hb22 x00
  replace x01 := keep hb22 x01
  replace bg00 := keep hb22 bg00
  replace bg01 := keep hb22 bg01
  replace nrg00 := nrg00.below hb22
  replace nrg01 := nrg01.below hb22
  replace nrg10 := nrg10.below hb22
  replace rh00 := rh00.below hb22
  replace rh01 := rh01.below hb22
  replace rh10 := rh10.below hb22
  replace bh00 := keep hb22 bh00
  replace bh01 := keep hb22 bh01
  have hz22 := hb22.size
  try simp only [World.size_alloc, World.size_drew] at hz22
  have la00 := lt_of_cell' a00
  have lbw00 := lt_of_cell' bw00
  have lx00 := lt_of_cell' x00
  have lbg00 := lt_of_cell' bg00
  have lbh00 := lt_of_cell' bh00
  all_goals
    go_wp2
    go_ret
    exact ⟨rfl, by (repeat' (first | (with_reducible exact Below.refl _ _) | (with_reducible refine bel_alloc ?_ ?_ _) | (with_reducible refine Below.setCell ?_ ?_ _) | (with_reducible refine below_drewN ?_ _) | (with_reducible refine Below.drew ?_) | (with_reducible refine bel_step hb1 ?_ ?_) | (with_reducible refine bel_step hb2 ?_ ?_) | (with_reducible refine bel_step hb3 ?_ ?_) | (with_reducible refine bel_step hb4 ?_ ?_) | (with_reducible refine bel_step hb5 ?_ ?_) | (with_reducible refine bel_step hb6 ?_ ?_) | (with_reducible refine bel_step hb7 ?_ ?_) | (with_reducible refine bel_step hb8 ?_ ?_) | (with_reducible refine bel_step hb9 ?_ ?_) | (with_reducible refine bel_outS ho10 hl10 ?_ ?_) | (with_reducible refine bel_step hb11 ?_ ?_) | (with_reducible refine bel_step hb12 ?_ ?_) | (with_reducible refine bel_outS ho13 hl13 ?_ ?_) | (with_reducible refine bel_outS ho14 hl14 ?_ ?_) | (with_reducible refine bel_step hb15 ?_ ?_) | (with_reducible refine bel_step hb16 ?_ ?_) | (with_reducible refine bel_step hb17 ?_ ?_) | (with_reducible refine bel_step hb18 ?_ ?_) | (with_reducible refine bel_step hb19 ?_ ?_) | (with_reducible refine bel_step hb20 ?_ ?_) | (with_reducible refine bel_step hb21 ?_ ?_) | (with_reducible refine bel_step hb22 ?_ ?_) | (with_reducible exact Nat.le_refl _) | (with_reducible assumption) | omega | (simp only [World.size_alloc, World.size_setCell, World.size_drew]; omega) | (simp; omega) | (simp; done)))⟩
end Go.Proofs.Ytggigndkamkclaa
