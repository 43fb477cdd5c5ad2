/- The walk of the exact law on Deliver. -/
import Derived.Test.YtggigndkamkclaaMailQ2
import Derived.Test.YtggigndkamkclaaMailQiy
import Derived.Test.YtggigndkamkclaaMailQsy
import Derived.Test.YtggigndkamkclaaMailW
import Derived.Deep.RegionHeld3
import Derived.Deep.DrawnRows
import Derived.Deep.DeepCutAuto
namespace Go.Proofs.Ytggigndkamkclaa
open Go.ChangeShapes Go.WideShapes Go.ChangeAt Go.RowKit
set_option linter.unusedVariables false
attribute [local go_sem ↓] Go.wp_at_zero Go.wp_at_succ

set_option maxHeartbeats 16000000 in
set_option maxRecDepth 100000 in
theorem law_deliver (A0 : Option Addr) (c0 : Nat) (B0 : Option Addr) (d0 : Nat) (x0 : List (List Po)) (y0 : List (List Int)) (p1 : Int) (w : World) (hr00 : Rd2 pv w w.heap.size A0 x0) (hr01 : Rd2 iv w w.heap.size B0 y0) (hm00 : x0.length ≤ maxLen ∧ ∀ l ∈ x0, l.length ≤ maxLen) (hm01 : y0.length ≤ maxLen ∧ ∀ l ∈ y0, l.length ≤ maxLen) (hp1 : -9223372036854775808 ≤ p1 ∧ p1 ≤ 9223372036854775807) : Calls Try.prog 9 #[.agg #[.slice A0 x0.length c0, .slice B0 y0.length d0], .int .i64 p1] w fun e w' => e = .returned (.bool true) ∧ Below w.heap.size w w' := by
  obtain ⟨ys, zs, ok, HS, HI, hy⟩ : ∃ (ys : List (List Po)) (zs : List (List Int)) (ok : Bool), (∀ (A : Option Addr) (c : Nat) (B : Option Addr) (d : Nat) (W : World) {B1 B2 : Nat}, Rd2c pv W B1 A x0 → Rd2 iv W B2 B y0 → (Rows x0 ∧ Rows y0) → Calls Try.prog 33 #[.agg #[.slice A x0.length c, .slice B y0.length d], .int .i64 p1] W (MadeMB ys zs ok W)) ∧
      (∀ (A : Option Addr) (c : Nat) (B : Option Addr) (d : Nat) (W : World) {B1 B2 : Nat}, Rd2 pv W B1 A x0 → Rd2 iv W B2 B y0 → (Rows x0 ∧ Rows y0) → Calls Try.prog 15 #[.agg #[.slice A x0.length c, .slice B y0.length d], .int .i64 p1] W (MadeMB ys zs ok W)) ∧ (Rows x0 ∧ Rows y0 → (Rows ys ∧ Rows zs)) := by
    cases hv : hasTh x0 y0 p1 with
    | false => exact ⟨x0, y0, false, fun A c B d W _ _ hr hs hn => deliver_s_no1 A c B d x0 y0 p1 W hr.rd hs hn hv, fun A c B d W _ _ hr hs hn => deliver_i_no1 A c B d x0 y0 p1 W hr hs hn hv, fun hn => hn⟩
    | true =>
      obtain ⟨κ, rfl, hk, hk2, h4, h5, h6⟩ := hasTh_nat hv
      by_cases h0 : (x0[κ]).length = 0
      · exact ⟨x0, y0, false, fun A c B d W _ _ hr hs hn => deliver_s_no2 A c B d x0 y0 κ W hr.rd hs hn hv hk h0, fun A c B d W _ _ hr hs hn => deliver_i_no2 A c B d x0 y0 κ W hr hs hn hv hk h0, fun hn => hn⟩
      · obtain ⟨τ, a, hq0, ht⟩ := deliver_to hv hk (by omega)
        have h30 : (y0[τ]).length ≤ 30 := by have := tot_row ht; omega
        exact ⟨_, _, true, fun A c B d W _ _ hr hs hn => deliver_s_yes A c B d x0 y0 κ τ ((x0[κ]).length - 1) _ a _ W hr hs hn hv hk rfl (by omega) hq0 ht rfl h30, fun A c B d W _ _ hr hs hn => deliver_i_yes A c B d x0 y0 κ τ ((x0[κ]).length - 1) _ a _ W hr hs hn hv hk rfl (by omega) hq0 ht rfl h30, fun hn => ⟨rows_set hn.1 (by have := hn.1.2 _ (List.getElem_mem hk); simp; omega), rows_set hn.2 (by simp; omega)⟩⟩
  replace HS := Lib.hid HS
  replace HI := Lib.hid HI
  replace hy := Lib.hid hy
  go_enter Try.func9, Try.ntmps9
  go_wp2_with fail
  refine (szMail_any _ _ _ _ _ _ _ _ (hr00.alloc _) (hr01.alloc _) (by omega) (by omega) hm00 hm01).mono ?_
  rintro e m1 ⟨rz0, rfl, qz0, sz0, hb1⟩
  replace hr00 := (hr00.alloc _).below hb1
  replace hr01 := (hr01.alloc _).below hb1
  have a00 : m1.cell? ⟨w.heap.size, 0, none⟩ = some (.slice A0 x0.length c0) := keep hb1 (by simp [go_sem])
  have a01 : m1.cell? ⟨w.heap.size, 1, none⟩ = some (.slice B0 y0.length d0) := keep hb1 (by simp [go_sem])
  have hz1 := hb1.size
  try simp only [World.size_alloc, World.size_drew] at hz1
  have la00 := lt_of_cell' a00
  by_cases hneg0 : rz0 < 0
  · go_wp2
    go_ret
    exact ⟨rfl, by (repeat' (first | (with_reducible exact Below.refl _ _) | (with_reducible refine bel_alloc ?_ ?_ _) | (with_reducible refine Below.setCell ?_ ?_ _) | (with_reducible refine below_drewN ?_ _) | (with_reducible refine Below.drew ?_) | (with_reducible refine bel_step hb1 ?_ ?_) | (with_reducible exact Nat.le_refl _) | (with_reducible assumption) | omega | (simp only [World.size_alloc, World.size_setCell, World.size_drew]; omega) | (simp; omega) | (simp; done)))⟩
  have hn00 : Rows x0 ∧ Rows y0 := by have := sz0 (by omega); first | exact this | omega | exact ⟨by omega, this.2⟩
  clear sz0 qz0
  have hyA := hy.out hn00
  have htA := tot_bd hyA.1
  have htB := tot_bd hyA.2
  go_wp2_with fail
  refine (toMail_w _ _ _ _ _ _ _ hr00 hr01 hn00).mono ?_
  rintro e m2 ⟨A0w, c0w, B0w, d0w, Sw00, Sw01, rfl, kw00, kw01, ow00, ow01, hSw00, hSw01, dw00, hb2⟩
  clear la00
  replace hr00 := hr00.below hb2
  replace hr01 := hr01.below hb2
  replace a00 := keep hb2 a00
  replace a01 := keep hb2 a01
  have hz2 := hb2.size
  try simp only [World.size_alloc, World.size_drew] at hz2
  replace hSw00 : ∀ b, Sw00 b → m1.heap.size + 0 ≤ b ∧ b < m2.heap.size := fun b hb => by have := hSw00 b hb; (try simp only [World.size_alloc, World.size_drew] at this); omega
  replace hSw01 : ∀ b, Sw01 b → m1.heap.size + 0 ≤ b ∧ b < m2.heap.size := fun b hb => by have := hSw01 b hb; (try simp only [World.size_alloc, World.size_drew] at this); omega
  have la00 := lt_of_cell' a00
  go_wp2_with fail
  refine (HS.out _ _ _ _ _ ow00.rdc ow01.rd hn00).mono ?_
  rintro e m3 ⟨Aw0, cw0, Bw0, dw0, Tw00, Tw01, rfl, rw00, rw01, hTw00, hTw01, Dw01, hb3⟩
  clear la00
  replace hr00 := hr00.below hb3
  replace hr01 := hr01.below hb3
  replace a00 := keep hb3 a00
  replace a01 := keep hb3 a01
  replace ow00 := ow00.below hb3
  replace ow01 := ow01.below hb3
  have hz3 := hb3.size
  try simp only [World.size_alloc, World.size_drew] at hz3
  replace hTw00 : ∀ b, Tw00 b → m2.heap.size + 0 ≤ b ∧ b < m3.heap.size := fun b hb => by have := hTw00 b hb; (try simp only [World.size_alloc, World.size_drew] at this); omega
  replace hTw01 : ∀ b, Tw01 b → m2.heap.size + 0 ≤ b ∧ b < m3.heap.size := fun b hb => by have := hTw01 b hb; (try simp only [World.size_alloc, World.size_drew] at this); omega
  have la00 := lt_of_cell' a00
  go_wp2_with fail
  refine (toMail_w _ _ _ _ _ _ _ (hr00.alloc _) (hr01.alloc _) hn00).mono ?_
  rintro e m4 ⟨A0x, c0x, B0x, d0x, Sx00, Sx01, rfl, kx00, kx01, ox00, ox01, hSx00, hSx01, dx00, hb4⟩
  clear la00
  replace hr00 := (hr00.alloc _).below hb4
  replace hr01 := (hr01.alloc _).below hb4
  replace a00 := keep hb4 (cell_al a00 _)
  replace a01 := keep hb4 (cell_al a01 _)
  replace rw00 := (rw00.alloc _).below hb4
  replace rw01 := (rw01.alloc _).below hb4
  have bw00 : m4.cell? ⟨m3.heap.size, 0, none⟩ = some (.slice Aw0 ys.length cw0) := keep hb4 (by simp [go_sem])
  have bw01 : m4.cell? ⟨m3.heap.size, 1, none⟩ = some (.slice Bw0 zs.length dw0) := keep hb4 (by simp [go_sem])
  have hz4 := hb4.size
  try simp only [World.size_alloc, World.size_drew] at hz4
  replace hSx00 : ∀ b, Sx00 b → m3.heap.size + 1 ≤ b ∧ b < m4.heap.size := fun b hb => by have := hSx00 b hb; (try simp only [World.size_alloc, World.size_drew] at this); omega
  replace hSx01 : ∀ b, Sx01 b → m3.heap.size + 1 ≤ b ∧ b < m4.heap.size := fun b hb => by have := hSx01 b hb; (try simp only [World.size_alloc, World.size_drew] at this); omega
  have la00 := lt_of_cell' a00
  have lbw00 := lt_of_cell' bw00
  go_wp2_with fail
  refine (HI.out _ _ _ _ _ (ox00.alloc _).rd (ox01.alloc _).rd hn00).mono ?_
  rintro e m5 ⟨Ag0, cg0, Bg0, dg0, Tg00, Tg01, rfl, rg00, rg01, hTg00, hTg01, Dg01, hb5⟩
  clear la00 lbw00
  replace hr00 := (hr00.alloc _).below hb5
  replace hr01 := (hr01.alloc _).below hb5
  replace a00 := keep hb5 (cell_al a00 _)
  replace a01 := keep hb5 (cell_al a01 _)
  replace rw00 := (rw00.alloc _).below hb5
  replace rw01 := (rw01.alloc _).below hb5
  replace bw00 := keep hb5 (cell_al bw00 _)
  replace bw01 := keep hb5 (cell_al bw01 _)
  replace ox00 := (ox00.alloc _).below hb5
  replace ox01 := (ox01.alloc _).below hb5
  have x00 : m5.cell? ⟨m4.heap.size, 0, none⟩ = some (.slice A0x x0.length c0x) := keep hb5 (by simp [go_sem])
  have x01 : m5.cell? ⟨m4.heap.size, 1, none⟩ = some (.slice B0x y0.length d0x) := keep hb5 (by simp [go_sem])
  have hz5 := hb5.size
  try simp only [World.size_alloc, World.size_drew] at hz5
  replace hTg00 : ∀ b, Tg00 b → m4.heap.size + 1 ≤ b ∧ b < m5.heap.size := fun b hb => by have := hTg00 b hb; (try simp only [World.size_alloc, World.size_drew] at this); omega
  replace hTg01 : ∀ b, Tg01 b → m4.heap.size + 1 ≤ b ∧ b < m5.heap.size := fun b hb => by have := hTg01 b hb; (try simp only [World.size_alloc, World.size_drew] at this); omega
  have la00 := lt_of_cell' a00
  have lbw00 := lt_of_cell' bw00
  have lx00 := lt_of_cell' x00
  go_wp2_with fail
  refine (eqMail_same _ _ _ _ _ _ _ _ _ _ _ (rg00.alloc _).rd (rw00.alloc _).rd (rg01.alloc _).rd (rw01.alloc _).rd hyA).mono ?_
  rintro e m6 ⟨rfl, hb6⟩
  clear la00 lbw00 lx00
  replace hr00 := (hr00.alloc _).below hb6
  replace hr01 := (hr01.alloc _).below hb6
  replace a00 := keep hb6 (cell_al a00 _)
  replace a01 := keep hb6 (cell_al a01 _)
  replace rw00 := (rw00.alloc _).below hb6
  replace rw01 := (rw01.alloc _).below hb6
  replace bw00 := keep hb6 (cell_al bw00 _)
  replace bw01 := keep hb6 (cell_al bw01 _)
  replace ox00 := (ox00.alloc _).below hb6
  replace ox01 := (ox01.alloc _).below hb6
  replace x00 := keep hb6 (cell_al x00 _)
  replace x01 := keep hb6 (cell_al x01 _)
  replace rg00 := (rg00.alloc _).below hb6
  replace rg01 := (rg01.alloc _).below hb6
  have bg00 : m6.cell? ⟨m5.heap.size, 0, none⟩ = some (.slice Ag0 ys.length cg0) := keep hb6 (by simp [go_sem])
  have bg01 : m6.cell? ⟨m5.heap.size, 1, none⟩ = some (.slice Bg0 zs.length dg0) := keep hb6 (by simp [go_sem])
  have hz6 := hb6.size
  try simp only [World.size_alloc, World.size_drew] at hz6
  have la00 := lt_of_cell' a00
  have lbw00 := lt_of_cell' bw00
  have lx00 := lt_of_cell' x00
  have lbg00 := lt_of_cell' bg00
  go_wp2_with fail
  clear la00 lbw00 lx00 lbg00
  replace hr00 := hr00.drew
  replace hr01 := hr01.drew
  replace a00 := (show World.cell? (World.drew _) _ = _ from a00)
  replace a01 := (show World.cell? (World.drew _) _ = _ from a01)
  replace rw00 := rw00.drew
  replace rw01 := rw01.drew
  replace bw00 := (show World.cell? (World.drew _) _ = _ from bw00)
  replace bw01 := (show World.cell? (World.drew _) _ = _ from bw01)
  replace ox00 := ox00.drew
  replace ox01 := ox01.drew
  replace x00 := (show World.cell? (World.drew _) _ = _ from x00)
  replace x01 := (show World.cell? (World.drew _) _ = _ from x01)
  replace rg00 := rg00.drew
  replace rg01 := rg01.drew
  replace bg00 := (show World.cell? (World.drew _) _ = _ from bg00)
  replace bg01 := (show World.cell? (World.drew _) _ = _ from bg01)
  go_region_held3 (fun w' => w'.cell? ⟨w.heap.size, 0, none⟩ = some (.slice A0 x0.length c0) ∧ w'.cell? ⟨w.heap.size, 1, none⟩ = some (.slice B0 y0.length d0) ∧ w'.cell? ⟨m4.heap.size, 0, none⟩ = some (.slice A0x x0.length c0x) ∧ w'.cell? ⟨m4.heap.size, 1, none⟩ = some (.slice B0x y0.length d0x)) (first | go_keep | exact ⟨(keep hb7 a00), (keep hb7 a01), (keep hb7 x00), (keep hb7 x01)⟩ | exact ⟨(keep hb8 (keep hb7 a00)), (keep hb8 (keep hb7 a01)), (keep hb8 (keep hb7 x00)), (keep hb8 (keep hb7 x01))⟩)
    (first | (go_at_call 23; refine (toMail_w _ _ _ _ _ _ _ hr00 hr01 hn00).mono ?_; rintro e m7 ⟨A0y0, c0y0, B0y0, d0y0, Sy000, Sy001, rfl, ky000, ky001, oy000, oy001, hSy000, hSy001, dy000, hb7⟩) | (go_at_call 18; refine (eqMail_same _ _ _ _ _ _ _ _ _ _ _ (ox00.below hb7).rd oy000.rd (ox01.below hb7).rd oy001.rd hn00).mono ?_; rintro e m8 ⟨rfl, hb8⟩))
  replace hr00 := ((hr00.below hb7).below hb8)
  replace hr01 := ((hr01.below hb7).below hb8)
  replace a00 := (keep hb8 (keep hb7 a00))
  replace a01 := (keep hb8 (keep hb7 a01))
  replace rw00 := ((rw00.below hb7).below hb8)
  replace rw01 := ((rw01.below hb7).below hb8)
  replace bw00 := (keep hb8 (keep hb7 bw00))
  replace bw01 := (keep hb8 (keep hb7 bw01))
  replace ox00 := ((ox00.below hb7).below hb8)
  replace ox01 := ((ox01.below hb7).below hb8)
  replace x00 := (keep hb8 (keep hb7 x00))
  replace x01 := (keep hb8 (keep hb7 x01))
  replace rg00 := ((rg00.below hb7).below hb8)
  replace rg01 := ((rg01.below hb7).below hb8)
  replace bg00 := (keep hb8 (keep hb7 bg00))
  replace bg01 := (keep hb8 (keep hb7 bg01))
  have hz7 := hb7.size
  try simp only [World.size_alloc, World.size_drew] at hz7
  replace hSy000 : ∀ b, Sy000 b → m6.heap.size + 0 ≤ b ∧ b < m7.heap.size := fun b hb => by have := hSy000 b hb; (try simp only [World.size_alloc, World.size_drew] at this); omega
  replace hSy001 : ∀ b, Sy001 b → m6.heap.size + 0 ≤ b ∧ b < m7.heap.size := fun b hb => by have := hSy001 b hb; (try simp only [World.size_alloc, World.size_drew] at this); omega
  have hz8 := hb8.size
  try simp only [World.size_alloc, World.size_drew] at hz8
  have la00 := lt_of_cell' a00
  have lbw00 := lt_of_cell' bw00
  have lx00 := lt_of_cell' x00
  have lbg00 := lt_of_cell' bg00
  go_wp2_with fail
  refine (markMail_c _ _ _ _ _ _ _ _ ox00 ox01 dx00 hn00 (by omega) (by omega) (fun b hb => by have := hSx00 b hb; omega) (fun b hb => by have := hSx01 b hb; omega)).mono ?_
  rintro e m9 ⟨rfl, nox00, nox01, ho9⟩
  have hz9 := ho9.size
  try simp only [World.size_alloc, World.size_drew] at hz9
  clear la00 lbw00 lx00 lbg00
  have hl9 : ∀ b, (fun b => Sx00 b ∨ Sx01 b) b → w.heap.size ≤ b := fun b hb => by rcases hb with hb | hb <;> first | (have := hSx00 b hb; omega) | (have := hSx01 b hb; omega)
  replace hr00 := hr00.outS ho9 hl9
  replace hr01 := hr01.outS ho9 hl9
  replace a00 := ho9.cell a00 (fun hb => by rcases hb with hb | hb <;> first | (have := hSx00 _ hb; first | omega | (dsimp only at this; omega) | (simp at this; omega)) | (have := hSx01 _ hb; first | omega | (dsimp only at this; omega) | (simp at this; omega)))
  replace a01 := ho9.cell a01 (fun hb => by rcases hb with hb | hb <;> first | (have := hSx00 _ hb; first | omega | (dsimp only at this; omega) | (simp at this; omega)) | (have := hSx01 _ hb; first | omega | (dsimp only at this; omega) | (simp at this; omega)))
  replace rw00 := rw00.outS ho9 (fun b hb hx => by rcases hx with hx | hx <;> first | (have h1 := hTw00 b hb; have h2 := hSx00 b hx; omega) | (have h1 := hTw00 b hb; have h2 := hSx01 b hx; omega))
  replace rw01 := rw01.outS ho9 (fun b hb hx => by rcases hx with hx | hx <;> first | (have h1 := hTw01 b hb; have h2 := hSx00 b hx; omega) | (have h1 := hTw01 b hb; have h2 := hSx01 b hx; omega))
  replace bw00 := ho9.cell bw00 (fun hb => by rcases hb with hb | hb <;> first | (have := hSx00 _ hb; first | omega | (dsimp only at this; omega) | (simp at this; omega)) | (have := hSx01 _ hb; first | omega | (dsimp only at this; omega) | (simp at this; omega)))
  replace bw01 := ho9.cell bw01 (fun hb => by rcases hb with hb | hb <;> first | (have := hSx00 _ hb; first | omega | (dsimp only at this; omega) | (simp at this; omega)) | (have := hSx01 _ hb; first | omega | (dsimp only at this; omega) | (simp at this; omega)))
  replace x00 := ho9.cell x00 (fun hb => by rcases hb with hb | hb <;> first | (have := hSx00 _ hb; first | omega | (dsimp only at this; omega) | (simp at this; omega)) | (have := hSx01 _ hb; first | omega | (dsimp only at this; omega) | (simp at this; omega)))
  replace x01 := ho9.cell x01 (fun hb => by rcases hb with hb | hb <;> first | (have := hSx00 _ hb; first | omega | (dsimp only at this; omega) | (simp at this; omega)) | (have := hSx01 _ hb; first | omega | (dsimp only at this; omega) | (simp at this; omega)))
  replace rg00 := rg00.outS ho9 (fun b hb hx => by rcases hx with hx | hx <;> first | (have h1 := hTg00 b hb; have h2 := hSx00 b hx; omega) | (have h1 := hTg00 b hb; have h2 := hSx01 b hx; omega))
  replace rg01 := rg01.outS ho9 (fun b hb hx => by rcases hx with hx | hx <;> first | (have h1 := hTg01 b hb; have h2 := hSx00 b hx; omega) | (have h1 := hTg01 b hb; have h2 := hSx01 b hx; omega))
  replace bg00 := ho9.cell bg00 (fun hb => by rcases hb with hb | hb <;> first | (have := hSx00 _ hb; first | omega | (dsimp only at this; omega) | (simp at this; omega)) | (have := hSx01 _ hb; first | omega | (dsimp only at this; omega) | (simp at this; omega)))
  replace bg01 := ho9.cell bg01 (fun hb => by rcases hb with hb | hb <;> first | (have := hSx00 _ hb; first | omega | (dsimp only at this; omega) | (simp at this; omega)) | (have := hSx01 _ hb; first | omega | (dsimp only at this; omega) | (simp at this; omega)))
  clear ox00
  clear ox01
  have la00 := lt_of_cell' a00
  have lbw00 := lt_of_cell' bw00
  have lx00 := lt_of_cell' x00
  have lbg00 := lt_of_cell' bg00
  go_wp2_with fail
  refine (eqMail_same _ _ _ _ _ _ _ _ _ _ _ rg00.rd rw00.rd rg01.rd rw01.rd hyA).mono ?_
  rintro e m10 ⟨rfl, hb10⟩
  clear la00 lbw00 lx00 lbg00
  replace hr00 := hr00.below hb10
  replace hr01 := hr01.below hb10
  replace a00 := keep hb10 a00
  replace a01 := keep hb10 a01
  replace rw00 := rw00.below hb10
  replace rw01 := rw01.below hb10
  replace bw00 := keep hb10 bw00
  replace bw01 := keep hb10 bw01
  replace x00 := keep hb10 x00
  replace x01 := keep hb10 x01
  replace rg00 := rg00.below hb10
  replace rg01 := rg01.below hb10
  replace bg00 := keep hb10 bg00
  replace bg01 := keep hb10 bg01
  have hz10 := hb10.size
  try simp only [World.size_alloc, World.size_drew] at hz10
  have la00 := lt_of_cell' a00
  have lbw00 := lt_of_cell' bw00
  have lx00 := lt_of_cell' x00
  have lbg00 := lt_of_cell' bg00
  go_wp2_with fail
  refine (markMail_any _ _ _ _ _ _ _ _ rg00 rg01 Dg01 hyA (by omega) (by omega) (fun b hb => by have := hTg00 b hb; omega) (fun b hb => by have := hTg01 b hb; omega)).mono ?_
  rintro e m11 ⟨rfl, nrg00, nrg01, ho11⟩
  have hz11 := ho11.size
  try simp only [World.size_alloc, World.size_drew] at hz11
  clear la00 lbw00 lx00 lbg00
  have hl11 : ∀ b, (fun b => Tg00 b ∨ Tg01 b) b → w.heap.size ≤ b := fun b hb => by rcases hb with hb | hb <;> first | (have := hTg00 b hb; omega) | (have := hTg01 b hb; omega)
  replace hr00 := hr00.outS ho11 hl11
  replace hr01 := hr01.outS ho11 hl11
  replace a00 := ho11.cell a00 (fun hb => by rcases hb with hb | hb <;> first | (have := hTg00 _ hb; first | omega | (dsimp only at this; omega) | (simp at this; omega)) | (have := hTg01 _ hb; first | omega | (dsimp only at this; omega) | (simp at this; omega)))
  replace a01 := ho11.cell a01 (fun hb => by rcases hb with hb | hb <;> first | (have := hTg00 _ hb; first | omega | (dsimp only at this; omega) | (simp at this; omega)) | (have := hTg01 _ hb; first | omega | (dsimp only at this; omega) | (simp at this; omega)))
  replace rw00 := rw00.outS ho11 (fun b hb hx => by rcases hx with hx | hx <;> first | (have h1 := hTw00 b hb; have h2 := hTg00 b hx; omega) | (have h1 := hTw00 b hb; have h2 := hTg01 b hx; omega))
  replace rw01 := rw01.outS ho11 (fun b hb hx => by rcases hx with hx | hx <;> first | (have h1 := hTw01 b hb; have h2 := hTg00 b hx; omega) | (have h1 := hTw01 b hb; have h2 := hTg01 b hx; omega))
  replace bw00 := ho11.cell bw00 (fun hb => by rcases hb with hb | hb <;> first | (have := hTg00 _ hb; first | omega | (dsimp only at this; omega) | (simp at this; omega)) | (have := hTg01 _ hb; first | omega | (dsimp only at this; omega) | (simp at this; omega)))
  replace bw01 := ho11.cell bw01 (fun hb => by rcases hb with hb | hb <;> first | (have := hTg00 _ hb; first | omega | (dsimp only at this; omega) | (simp at this; omega)) | (have := hTg01 _ hb; first | omega | (dsimp only at this; omega) | (simp at this; omega)))
  replace x00 := ho11.cell x00 (fun hb => by rcases hb with hb | hb <;> first | (have := hTg00 _ hb; first | omega | (dsimp only at this; omega) | (simp at this; omega)) | (have := hTg01 _ hb; first | omega | (dsimp only at this; omega) | (simp at this; omega)))
  replace x01 := ho11.cell x01 (fun hb => by rcases hb with hb | hb <;> first | (have := hTg00 _ hb; first | omega | (dsimp only at this; omega) | (simp at this; omega)) | (have := hTg01 _ hb; first | omega | (dsimp only at this; omega) | (simp at this; omega)))
  replace bg00 := ho11.cell bg00 (fun hb => by rcases hb with hb | hb <;> first | (have := hTg00 _ hb; first | omega | (dsimp only at this; omega) | (simp at this; omega)) | (have := hTg01 _ hb; first | omega | (dsimp only at this; omega) | (simp at this; omega)))
  replace bg01 := ho11.cell bg01 (fun hb => by rcases hb with hb | hb <;> first | (have := hTg00 _ hb; first | omega | (dsimp only at this; omega) | (simp at this; omega)) | (have := hTg01 _ hb; first | omega | (dsimp only at this; omega) | (simp at this; omega)))
  clear rg00
  clear rg01
  have la00 := lt_of_cell' a00
  have lbw00 := lt_of_cell' bw00
  have lx00 := lt_of_cell' x00
  have lbg00 := lt_of_cell' bg00
  go_wp2_with fail
  refine (heldMail_b _ _ _ _ _ _ _ _ nrg00.rd nrg01.rd hyA (by omega) (by omega)).mono ?_
  rintro e m12 ⟨rfl, hb12⟩
  clear la00 lbw00 lx00 lbg00
  replace hr00 := hr00.below hb12
  replace hr01 := hr01.below hb12
  replace a00 := keep hb12 a00
  replace a01 := keep hb12 a01
  replace rw00 := rw00.below hb12
  replace rw01 := rw01.below hb12
  replace bw00 := keep hb12 bw00
  replace bw01 := keep hb12 bw01
  replace x00 := keep hb12 x00
  replace x01 := keep hb12 x01
  replace bg00 := keep hb12 bg00
  replace bg01 := keep hb12 bg01
  replace nrg00 := nrg00.below hb12
  replace nrg01 := nrg01.below hb12
  have hz12 := hb12.size
  try simp only [World.size_alloc, World.size_drew] at hz12
  have la00 := lt_of_cell' a00
  have lbw00 := lt_of_cell' bw00
  have lx00 := lt_of_cell' x00
  have lbg00 := lt_of_cell' bg00
  go_wp2_with fail
  refine (toMail_w _ _ _ _ _ _ _ hr00 hr01 hn00).mono ?_
  rintro e m13 ⟨A0h, c0h, B0h, d0h, Sh00, Sh01, rfl, kh00, kh01, oh00, oh01, hSh00, hSh01, dh00, hb13⟩
  clear la00 lbw00 lx00 lbg00
  replace hr00 := hr00.below hb13
  replace hr01 := hr01.below hb13
  replace a00 := keep hb13 a00
  replace a01 := keep hb13 a01
  replace rw00 := rw00.below hb13
  replace rw01 := rw01.below hb13
  replace bw00 := keep hb13 bw00
  replace bw01 := keep hb13 bw01
  replace x00 := keep hb13 x00
  replace x01 := keep hb13 x01
  replace bg00 := keep hb13 bg00
  replace bg01 := keep hb13 bg01
  replace nrg00 := nrg00.below hb13
  replace nrg01 := nrg01.below hb13
  have hz13 := hb13.size
  try simp only [World.size_alloc, World.size_drew] at hz13
  replace hSh00 : ∀ b, Sh00 b → m12.heap.size + 0 ≤ b ∧ b < m13.heap.size := fun b hb => by have := hSh00 b hb; (try simp only [World.size_alloc, World.size_drew] at this); omega
  replace hSh01 : ∀ b, Sh01 b → m12.heap.size + 0 ≤ b ∧ b < m13.heap.size := fun b hb => by have := hSh01 b hb; (try simp only [World.size_alloc, World.size_drew] at this); omega
  have la00 := lt_of_cell' a00
  have lbw00 := lt_of_cell' bw00
  have lx00 := lt_of_cell' x00
  have lbg00 := lt_of_cell' bg00
  go_wp2_with fail
  refine (HI.out _ _ _ _ _ oh00.rd oh01.rd hn00).mono ?_
  rintro e m14 ⟨Ah0, ch0, Bh0, dh0, Th00, Th01, rfl, rh00, rh01, hTh00, hTh01, Dh01, hb14⟩
  clear la00 lbw00 lx00 lbg00
  replace hr00 := hr00.below hb14
  replace hr01 := hr01.below hb14
  replace a00 := keep hb14 a00
  replace a01 := keep hb14 a01
  replace rw00 := rw00.below hb14
  replace rw01 := rw01.below hb14
  replace bw00 := keep hb14 bw00
  replace bw01 := keep hb14 bw01
  replace x00 := keep hb14 x00
  replace x01 := keep hb14 x01
  replace bg00 := keep hb14 bg00
  replace bg01 := keep hb14 bg01
  replace nrg00 := nrg00.below hb14
  replace nrg01 := nrg01.below hb14
  replace oh00 := oh00.below hb14
  replace oh01 := oh01.below hb14
  have hz14 := hb14.size
  try simp only [World.size_alloc, World.size_drew] at hz14
  replace hTh00 : ∀ b, Th00 b → m13.heap.size + 0 ≤ b ∧ b < m14.heap.size := fun b hb => by have := hTh00 b hb; (try simp only [World.size_alloc, World.size_drew] at this); omega
  replace hTh01 : ∀ b, Th01 b → m13.heap.size + 0 ≤ b ∧ b < m14.heap.size := fun b hb => by have := hTh01 b hb; (try simp only [World.size_alloc, World.size_drew] at this); omega
  have la00 := lt_of_cell' a00
  have lbw00 := lt_of_cell' bw00
  have lx00 := lt_of_cell' x00
  have lbg00 := lt_of_cell' bg00
  go_wp2_with fail
  refine (eqMail_same _ _ _ _ _ _ _ _ _ _ _ (rh00.alloc _).rd (rw00.alloc _).rd (rh01.alloc _).rd (rw01.alloc _).rd hyA).mono ?_
  rintro e m15 ⟨rfl, hb15⟩
  clear la00 lbw00 lx00 lbg00
  replace hr00 := (hr00.alloc _).below hb15
  replace hr01 := (hr01.alloc _).below hb15
  replace a00 := keep hb15 (cell_al a00 _)
  replace a01 := keep hb15 (cell_al a01 _)
  replace rw00 := (rw00.alloc _).below hb15
  replace rw01 := (rw01.alloc _).below hb15
  replace bw00 := keep hb15 (cell_al bw00 _)
  replace bw01 := keep hb15 (cell_al bw01 _)
  replace x00 := keep hb15 (cell_al x00 _)
  replace x01 := keep hb15 (cell_al x01 _)
  replace bg00 := keep hb15 (cell_al bg00 _)
  replace bg01 := keep hb15 (cell_al bg01 _)
  replace nrg00 := (nrg00.alloc _).below hb15
  replace nrg01 := (nrg01.alloc _).below hb15
  replace rh00 := (rh00.alloc _).below hb15
  replace rh01 := (rh01.alloc _).below hb15
  have bh00 : m15.cell? ⟨m14.heap.size, 0, none⟩ = some (.slice Ah0 ys.length ch0) := keep hb15 (by simp [go_sem])
  have bh01 : m15.cell? ⟨m14.heap.size, 1, none⟩ = some (.slice Bh0 zs.length dh0) := keep hb15 (by simp [go_sem])
  have hz15 := hb15.size
  try simp only [World.size_alloc, World.size_drew] at hz15
  have la00 := lt_of_cell' a00
  have lbw00 := lt_of_cell' bw00
  have lx00 := lt_of_cell' x00
  have lbg00 := lt_of_cell' bg00
  have lbh00 := lt_of_cell' bh00
  go_wp2_with fail
  refine (heldMail_b _ _ _ _ _ _ _ _ nrg00.rd nrg01.rd hyA (by omega) (by omega)).mono ?_
  rintro e m16 ⟨rfl, hb16⟩
  clear la00 lbw00 lx00 lbg00 lbh00
  replace hr00 := hr00.below hb16
  replace hr01 := hr01.below hb16
  replace a00 := keep hb16 a00
  replace a01 := keep hb16 a01
  replace rw00 := rw00.below hb16
  replace rw01 := rw01.below hb16
  replace bw00 := keep hb16 bw00
  replace bw01 := keep hb16 bw01
  replace x00 := keep hb16 x00
  replace x01 := keep hb16 x01
  replace bg00 := keep hb16 bg00
  replace bg01 := keep hb16 bg01
  replace nrg00 := nrg00.below hb16
  replace nrg01 := nrg01.below hb16
  replace rh00 := rh00.below hb16
  replace rh01 := rh01.below hb16
  replace bh00 := keep hb16 bh00
  replace bh01 := keep hb16 bh01
  have hz16 := hb16.size
  try simp only [World.size_alloc, World.size_drew] at hz16
  have la00 := lt_of_cell' a00
  have lbw00 := lt_of_cell' bw00
  have lx00 := lt_of_cell' x00
  have lbg00 := lt_of_cell' bg00
  have lbh00 := lt_of_cell' bh00
  all_goals
    go_wp2
    go_ret
    exact ⟨rfl, by (repeat' (first | (with_reducible exact Below.refl _ _) | (with_reducible refine bel_alloc ?_ ?_ _) | (with_reducible refine Below.setCell ?_ ?_ _) | (with_reducible refine below_drewN ?_ _) | (with_reducible refine Below.drew ?_) | (with_reducible refine bel_step hb1 ?_ ?_) | (with_reducible refine bel_step hb2 ?_ ?_) | (with_reducible refine bel_step hb3 ?_ ?_) | (with_reducible refine bel_step hb4 ?_ ?_) | (with_reducible refine bel_step hb5 ?_ ?_) | (with_reducible refine bel_step hb6 ?_ ?_) | (with_reducible refine bel_step hb7 ?_ ?_) | (with_reducible refine bel_step hb8 ?_ ?_) | (with_reducible refine bel_outS ho9 hl9 ?_ ?_) | (with_reducible refine bel_step hb10 ?_ ?_) | (with_reducible refine bel_outS ho11 hl11 ?_ ?_) | (with_reducible refine bel_step hb12 ?_ ?_) | (with_reducible refine bel_step hb13 ?_ ?_) | (with_reducible refine bel_step hb14 ?_ ?_) | (with_reducible refine bel_step hb15 ?_ ?_) | (with_reducible refine bel_step hb16 ?_ ?_) | (with_reducible exact Nat.le_refl _) | (with_reducible assumption) | omega | (simp only [World.size_alloc, World.size_setCell, World.size_drew]; omega) | (simp; omega) | (simp; done)))⟩
end Go.Proofs.Ytggigndkamkclaa
