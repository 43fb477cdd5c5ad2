/- SetGuards of the program, on a machine of two frames with one page. -/
import Derived.Test.YtljholnnhogdkaaGPl
import Derived.Deep.RegionLaw
import Derived.Deep.DeepCutAuto
namespace Go.Proofs.Ytljholnnhogdkaa
open Go.ChangeShapes Go.WideShapes Go.ChangeAt Go.RowKit
set_option linter.unusedVariables false
set_option linter.unusedSimpArgs false
attribute [local go_sem ↓] Go.wp_at_zero Go.wp_at_succ

def MS2 (row : List Int) (w : World) (e : Ending) (w' : World) : Prop :=
  ∃ A c B d AE f S T U, e = .returned (.tuple #[.agg #[.slice A 2 c, .slice B 2 d, .slice AE 2 f], .int .i64 0]) ∧ Wr2 iv w' S A (m2 row) ∧ Wr w' T B (bl us0) ∧ Wr w' U AE (pv es0) ∧ New S w w' ∧ New T w w' ∧ New U w w' ∧ Below w.heap.size w w'
theorem store2_i {row : List Int} (hR : RowOk row) {a v : Int} (h0 : 0 ≤ a) (h1 : a < 16) (hv : btw v 0 999 = true) (A : Option Addr) (c : Nat) (B : Option Addr) (d : Nat) (AE : Option Addr) (f : Nat) (w : World) {B1 B2 B3 : Nat} (hr : Rd2 iv w B1 A (m2 row)) (hs : Rd w B2 B (bl us0)) (ht : Rd w B3 AE (pv es0)) :
    Calls Try.prog 48 #[.agg #[.slice A 2 c, .slice B 2 d, .slice AE 2 f], .int .i64 a, .int .i64 v] w (MS2 (row.set a.toNat v) w) :=
  (show Calls Try.prog 48 #[.agg #[.slice A 2 c, .slice B 2 d, .slice AE 2 f], .int .i64 a, .int .i64 v] w _ from store_i A c B d AE f (m2 row) us0 es0 a v 0 a.toNat w hr hs ht (rows2 hR) (en2 hR h0 h1) h0 (by omega) (by omega) (by show 0 < 2; omega) (by show a.toNat < row.length; rw [hR.1]; omega) hv).mono fun _ _ ⟨A, c, B, d, AE, f, S, T, U, he, h1, h2, h3, h4, h5, h6, h7⟩ => ⟨A, c, B, d, AE, f, S, T, U, he, h1, h2, h3, h4, h5, h6, h7⟩
theorem store2_s {row : List Int} (hR : RowOk row) {a v : Int} (h0 : 0 ≤ a) (h1 : a < 16) (hv : btw v 0 999 = true) (A : Option Addr) (c : Nat) (B : Option Addr) (d : Nat) (AE : Option Addr) (f : Nat) (w : World) {B1 B2 B3 : Nat} (hr : Rd2 iv w B1 A (m2 row)) (hs : Rd w B2 B (bl us0)) (ht : Rd w B3 AE (pv es0)) :
    Calls Try.prog 27 #[.agg #[.slice A 2 c, .slice B 2 d, .slice AE 2 f], .int .i64 a, .int .i64 v] w (MS2 (row.set a.toNat v) w) :=
  (show Calls Try.prog 27 #[.agg #[.slice A 2 c, .slice B 2 d, .slice AE 2 f], .int .i64 a, .int .i64 v] w _ from store_s A c B d AE f (m2 row) us0 es0 a v 0 a.toNat w hr hs ht (rows2 hR) (en2 hR h0 h1) h0 (by omega) (by omega) (by show 0 < 2; omega) (by show a.toNat < row.length; rw [hR.1]; omega) hv).mono fun _ _ ⟨A, c, B, d, AE, f, S, T, U, he, h1, h2, h3, h4, h5, h6, h7⟩ => ⟨A, c, B, d, AE, f, S, T, U, he, h1, h2, h3, h4, h5, h6, h7⟩
def MC2 (row : List Int) (w : World) (e : Ending) (w' : World) : Prop :=
  ∃ A c B d AE f S T U, e = .returned (.agg #[.slice A 2 c, .slice B 2 d, .slice AE 2 f]) ∧ Wr2 iv w' S A (m2 row) ∧ Wr w' T B (bl us0) ∧ Wr w' U AE (pv es0) ∧ New S w w' ∧ New T w w' ∧ New U w w' ∧ Below w.heap.size w w'
theorem copy2_i {row : List Int} (hR : RowOk row) (A : Option Addr) (c : Nat) (B : Option Addr) (d : Nat) (AE : Option Addr) (f : Nat) (w : World) {B1 B2 B3 : Nat} (hr : Rd2 iv w B1 A (m2 row)) (hs : Rd w B2 B (bl us0)) (ht : Rd w B3 AE (pv es0)) :
    Calls Try.prog 47 #[.agg #[.slice A 2 c, .slice B 2 d, .slice AE 2 f]] w (MC2 row w) :=
  (show Calls Try.prog 47 #[.agg #[.slice A 2 c, .slice B 2 d, .slice AE 2 f]] w _ from copyMachine_i A c B d AE f (m2 row) us0 es0 w hr hs ht (rows2 hR)).mono fun _ _ ⟨A, c, B, d, AE, f, S, T, U, he, h1, h2, h3, h4, h5, h6, _, _, _, h7⟩ => ⟨A, c, B, d, AE, f, S, T, U, he, h1, h2, h3, h4, h5, h6, h7⟩
def GS (g lo : Nat) (l : List Int) (w : World) : Prop :=
  ∃ (row : List Int) (A : Option Addr) (c : Nat) (B : Option Addr) (d : Nat) (AE : Option Addr) (f : Nat) (S T U : Nat → Prop), RowOk row ∧ Grd row l ∧ Cl w ⟨g, 0, none⟩ (.slice A 2 c) ∧ Cl w ⟨g, 1, none⟩ (.slice B 2 d) ∧ Cl w ⟨g, 2, none⟩ (.slice AE 2 f) ∧ Wr2 iv w S A (m2 row) ∧ Wr w T B (bl us0) ∧ Wr w U AE (pv es0) ∧ (∀ b, S b → lo < b ∧ b ≠ g) ∧ (∀ b, T b → lo < b ∧ b ≠ g) ∧ (∀ b, U b → lo < b ∧ b ≠ g)
theorem GS.set {g lo : Nat} {l : List Int} {w : World} {row : List Int} {A : Option Addr} {c : Nat} {B : Option Addr} {d : Nat} {AE : Option Addr} {f : Nat} {S T U : Nat → Prop} {u0 u1 u2 : Value} (hR : RowOk row) (hg : Grd row l) (g0 : Cl w ⟨g, 0, none⟩ u0) (g1 : Cl w ⟨g, 1, none⟩ u1) (g2 : Cl w ⟨g, 2, none⟩ u2) (hW : Wr2 iv w S A (m2 row)) (hV : Wr w T B (bl us0)) (hE : Wr w U AE (pv es0)) (hS : ∀ b, S b → lo < b ∧ b ≠ g) (hT : ∀ b, T b → lo < b ∧ b ≠ g) (hU : ∀ b, U b → lo < b ∧ b ≠ g) :
    GS g lo l (((w.setCell ⟨g, 0, none⟩ (.slice A 2 c)).setCell ⟨g, 1, none⟩ (.slice B 2 d)).setCell ⟨g, 2, none⟩ (.slice AE 2 f)) :=
  ⟨row, A, c, B, d, AE, f, S, T, U, hR, hg, ((g0.same _).other _ (by simp)).other _ (by simp), ((g1.other _ (by simp)).same _).other _ (by simp), ((g2.other _ (by simp)).other _ (by simp)).same _,
    ((hW.setOut (b := g) (o := 0) _ (fun h => (hS _ h).2 rfl)).setOut (b := g) (o := 1) _ (fun h => (hS _ h).2 rfl)).setOut (b := g) (o := 2) _ (fun h => (hS _ h).2 rfl),
    ((hV.setOut (b := g) (o := 0) _ (fun h => (hT _ h).2 rfl)).setOut (b := g) (o := 1) _ (fun h => (hT _ h).2 rfl)).setOut (b := g) (o := 2) _ (fun h => (hT _ h).2 rfl),
    ((hE.setOut (b := g) (o := 0) _ (fun h => (hU _ h).2 rfl)).setOut (b := g) (o := 1) _ (fun h => (hU _ h).2 rfl)).setOut (b := g) (o := 2) _ (fun h => (hU _ h).2 rfl), hS, hT, hU⟩
def MG2 (l : List Int) (w : World) (e : Ending) (w' : World) : Prop :=
  ∃ (row : List Int) (A : Option Addr) (c : Nat) (B : Option Addr) (d : Nat) (AE : Option Addr) (f : Nat), RowOk row ∧ Grd row l ∧ e = .returned (.tuple #[.agg #[.slice A 2 c, .slice B 2 d, .slice AE 2 f], .bool true]) ∧ Rd2 iv w' w'.heap.size A (m2 row) ∧ Rd w' w'.heap.size B (bl us0) ∧ Rd w' w'.heap.size AE (pv es0) ∧ Below w.heap.size w w'
set_option maxRecDepth 100000 in
set_option maxHeartbeats 8000000 in
theorem setGuards_i {row : List Int} (hR : RowOk row) (a s : Int) (hl : ∀ x ∈ gList a s, 0 ≤ x ∧ x < 16) (A : Option Addr) (c : Nat) (B : Option Addr) (d : Nat) (AE : Option Addr) (f : Nat) (w : World) {B1 B2 B3 : Nat} (hr : Rd2 iv w B1 A (m2 row)) (hs : Rd w B2 B (bl us0)) (ht : Rd w B3 AE (pv es0)) :
    Calls Try.prog 25 #[.agg #[.slice A 2 c, .slice B 2 d, .slice AE 2 f], .int .i64 a, .int .i64 s] w (MG2 (gList a s) w) := by
  have HL := Lib.hid hl
  have hl8 := gList_len a s
  have HG := Lib.hid (fun W => guard_i a s W)
  generalize gList a s = l at *
  replace hr := hr.lt
  replace hs := hs.lt
  replace ht := ht.lt
  clear hl
  go_enter Try.func25, Try.ntmps25
  go_wp2_with fail
  refine (copy2_i hR _ _ _ _ _ _ _ ((hr.alloc _).alloc _) ((hs.alloc _).alloc _) ((ht.alloc _).alloc _)).mono ?_
  rintro e u1 ⟨A1, c1, D1, d1, E1, f1, S, T, U, rfl, hW, hV, hE, hS, hT, hU, hb1⟩
  have r0 : Cl u1 ⟨w.heap.size + 1, 0, none⟩ (.slice none 0 0) := Cl.below (by constructor <;> simp [go_sem]) hb1
  have r1 : Cl u1 ⟨w.heap.size + 1, 1, none⟩ (.slice none 0 0) := Cl.below (by constructor <;> simp [go_sem]) hb1
  have r2 : Cl u1 ⟨w.heap.size + 1, 2, none⟩ (.slice none 0 0) := Cl.below (by constructor <;> simp [go_sem]) hb1
  have hz1 := hb1.size
  simp only [World.size_alloc] at hz1
  obtain ⟨g, hg⟩ : ∃ g, g = u1.heap.size := ⟨_, rfl⟩
  have HGE := Lib.hid hg
  have g0 : Cl (u1.alloc (.cells #[.slice A1 2 c1, .slice D1 2 d1, .slice E1 2 f1] 47)) ⟨g, 0, none⟩ (.slice A1 2 c1) := Cl.new hg rfl
  have g1 : Cl (u1.alloc (.cells #[.slice A1 2 c1, .slice D1 2 d1, .slice E1 2 f1] 47)) ⟨g, 1, none⟩ (.slice D1 2 d1) := Cl.new hg rfl
  have g2 : Cl (u1.alloc (.cells #[.slice A1 2 c1, .slice D1 2 d1, .slice E1 2 f1] 47)) ⟨g, 2, none⟩ (.slice E1 2 f1) := Cl.new hg rfl
  have hS' : ∀ b, S b → w.heap.size + 1 < b ∧ b ≠ g := fun b h => by have := hS b h; simp only [World.size_alloc] at this; omega
  have hT' : ∀ b, T b → w.heap.size + 1 < b ∧ b ≠ g := fun b h => by have := hT b h; simp only [World.size_alloc] at this; omega
  have hU' : ∀ b, U b → w.heap.size + 1 < b ∧ b ≠ g := fun b h => by have := hU b h; simp only [World.size_alloc] at this; omega
  have hg1 : w.heap.size + 1 < g := by omega
  clear hS hT hU hg
  go_wp2_with fail
  refine (HG.out _).mono ?_
  rintro e u2 ⟨Al, cl, Sl, rfl, hWl, hNl, hb2⟩
  have hst : GS g (w.heap.size + 1) [] u2 := ⟨row, A1, c1, D1, d1, E1, f1, S, T, U, hR, fun _ h => by simp at h, g0.below hb2, g1.below hb2, g2.below hb2, (hW.alloc _).below hb2, (hV.alloc _).below hb2, (hE.alloc _).below hb2, hS', hT', hU'⟩
  replace r0 := (r0.alloc _).below hb2
  replace r1 := (r1.alloc _).below hb2
  replace r2 := (r2.alloc _).below hb2
  have hSl : ∀ b, Sl b → g < b := fun b h => by have := hNl b h; simp only [World.size_alloc] at this; have := HGE.out; omega
  have hz2 := hb2.size
  simp only [World.size_alloc] at hz2
  have hgz : g < u2.heap.size := by have := HGE.out; omega
  have hbw : Below w.heap.size w u2 := by (repeat' (first | (with_reducible exact Below.refl _ _) | (with_reducible refine bel_alloc ?_ ?_ _) | (with_reducible refine Below.setCell ?_ ?_ _) | (with_reducible refine below_drewN ?_ _) | (with_reducible refine Below.drew ?_) | (with_reducible refine bel_step hb1 ?_ ?_) | (with_reducible refine bel_step hb2 ?_ ?_) | (with_reducible exact Nat.le_refl _) | (with_reducible assumption) | omega | (simp only [World.size_alloc, World.size_setCell, World.size_drew]; omega) | (simp; omega) | (simp; done)))
  have hls : l.length ≤ 1048576 := hl8
  simp only [← HGE.out]
  clear g0 g1 g2 hW hV hE hS' hT' hU' hb1 hb2 hr hs ht hz1 hz2 hNl hR
  go_wp2_with fail
  go_loopw [19] (fun v wr => ∃ k : Nat, k ≤ l.length ∧ v = .int .i64 k ∧ GS g (w.heap.size + 1) (l.take k) wr ∧ Wr wr Sl Al (iv l) ∧ Cl wr ⟨w.heap.size + 1, 0, none⟩ (.slice none 0 0) ∧ Cl wr ⟨w.heap.size + 1, 1, none⟩ (.slice none 0 0) ∧ Cl wr ⟨w.heap.size + 1, 2, none⟩ (.slice none 0 0) ∧ g < wr.heap.size ∧ Below w.heap.size w wr) (fun v _ => l.length - (intOf v).toNat)
  case atStart => exact ⟨0, Nat.zero_le _, rfl, hst, hWl, r0, r1, r2, hgz, hbw⟩
  case round =>
  clear hst hWl r0 r1 r2 hgz hbw
  obtain ⟨k, hk, rfl, ⟨row, A3, c3, B3, d3, E3, f3, S, T, U, hR, hgr, g0, g1, g2, hW, hV, hE, hS, hT, hU⟩, hWl, r0, r1, r2, hgz, hbr⟩ := hrel
  have HGR := Lib.hid hgr
  have HR := Lib.hid hR
  clear hgr hR
  obtain ⟨g0c, g0f⟩ := g0
  obtain ⟨g1c, g1f⟩ := g1
  obtain ⟨g2c, g2f⟩ := g2
  by_cases hlt : k < l.length
  · obtain ⟨b, off, hAe, -, hx⟩ := hWl.rd.int hlt
    have hxm := HL.out _ (List.getElem_mem hlt)
    have hx16 : btw 777 0 999 = true := by rfl
    have HTK := Lib.hid (show l.take (k + 1) = l.take k ++ [l[k]] from by rw [List.take_succ_eq_append_getElem hlt])
    have HLT := Lib.hid (show ∀ x ∈ l.take k, 0 ≤ x ∧ x < 16 from fun x hx => HL.out x (List.mem_of_mem_take hx))
    subst hAe
    have lx := lt_of_cell' hx
    generalize l[k] = x at *
    have i0 : (0 : Int) ≤ (k : Int) := by omega
    have i1 : (k : Int) < (l.length : Int) := by omega
    go_wp2_with fail
    refine (store2_i HR.out hxm.1 hxm.2 hx16 _ _ _ _ _ _ _ hW.rd hV.rd hE.rd).mono ?_
    rintro e u4 ⟨A4, c4, B4, d4, E4, f4, S4, T4, U4, rfl, hW4, hV4, hE4, hS4, hT4, hU4, hb4⟩
    have g04 := Cl.below ⟨g0c, g0f⟩ hb4
    have g14 := Cl.below ⟨g1c, g1f⟩ hb4
    have g24 := Cl.below ⟨g2c, g2f⟩ hb4
    replace r0 := r0.below hb4
    replace r1 := r1.below hb4
    replace r2 := r2.below hb4
    replace hWl := hWl.below hb4
    have hz4 := hb4.size
    have hG4 := Grd.set HR.out HLT.out hxm.1 hxm.2 HGR.out
    rw [← HTK.out] at hG4
    have hR4 := HR.out.set (t := x.toNat) hx16
    have hbr4 : Below w.heap.size w (u4.alloc (.cells #[.slice A4 2 c4, .slice B4 2 d4, .slice E4 2 f4] 47)) := by (repeat' (first | (with_reducible exact Below.refl _ _) | (with_reducible refine bel_alloc ?_ ?_ _) | (with_reducible refine Below.setCell ?_ ?_ _) | (with_reducible refine below_drewN ?_ _) | (with_reducible refine Below.drew ?_) | (with_reducible refine bel_step hbr ?_ ?_) | (with_reducible refine bel_step hb4 ?_ ?_) | (with_reducible exact Nat.le_refl _) | (with_reducible assumption) | omega | (simp only [World.size_alloc, World.size_setCell, World.size_drew]; omega) | (simp; omega) | (simp; done)))
    have hS4' : ∀ b, S4 b → w.heap.size + 1 < b ∧ b ≠ g := fun b h => by have := hS4 b h; omega
    have hT4' : ∀ b, T4 b → w.heap.size + 1 < b ∧ b ≠ g := fun b h => by have := hT4 b h; omega
    have hU4' : ∀ b, U4 b → w.heap.size + 1 < b ∧ b ≠ g := fun b h => by have := hU4 b h; omega
    have p0 : (u4.alloc (.cells #[.slice A4 2 c4, .slice B4 2 d4, .slice E4 2 f4] 47)).cell? ⟨u4.heap.size, 0, none⟩ = some (.slice A4 2 c4) := by simp [go_sem]
    have p1 : (u4.alloc (.cells #[.slice A4 2 c4, .slice B4 2 d4, .slice E4 2 f4] 47)).cell? ⟨u4.heap.size, 1, none⟩ = some (.slice B4 2 d4) := by simp [go_sem]
    have p2 : (u4.alloc (.cells #[.slice A4 2 c4, .slice B4 2 d4, .slice E4 2 f4] 47)).cell? ⟨u4.heap.size, 2, none⟩ = some (.slice E4 2 f4) := by simp [go_sem]
    have HS4 := Lib.hid (GS.set (c := c4) (d := d4) (f := f4) hR4 hG4 (g04.alloc _) (g14.alloc _) (g24.alloc _) (hW4.alloc (.cells #[.slice A4 2 c4, .slice B4 2 d4, .slice E4 2 f4] 47)) (hV4.alloc _) (hE4.alloc _) hS4' hT4' hU4')
    have g04a := g04.alloc (.cells #[.slice A4 2 c4, .slice B4 2 d4, .slice E4 2 f4] 47)
    have g14a := g14.alloc (.cells #[.slice A4 2 c4, .slice B4 2 d4, .slice E4 2 f4] 47)
    have g24a := g24.alloc (.cells #[.slice A4 2 c4, .slice B4 2 d4, .slice E4 2 f4] 47)
    obtain ⟨g04c, g04f⟩ := g04a
    obtain ⟨g14c, g14f⟩ := g14a
    obtain ⟨g24c, g24f⟩ := g24a
    replace r0 := r0.alloc (.cells #[.slice A4 2 c4, .slice B4 2 d4, .slice E4 2 f4] 47)
    replace r1 := r1.alloc (.cells #[.slice A4 2 c4, .slice B4 2 d4, .slice E4 2 f4] 47)
    replace r2 := r2.alloc (.cells #[.slice A4 2 c4, .slice B4 2 d4, .slice E4 2 f4] 47)
    replace hWl := hWl.alloc (.cells #[.slice A4 2 c4, .slice B4 2 d4, .slice E4 2 f4] 47)
    have hgu : g < u4.heap.size := by omega
    clear hW4 hV4 hE4 hS4 hT4 hU4 g04 g14 g24 hG4 hR4 hS4' hT4' hU4' hx lx hb4 g0c g1c g2c
    have hz5 : (u4.alloc (.cells #[.slice A4 2 c4, .slice B4 2 d4, .slice E4 2 f4] 47)).heap.size = u4.heap.size + 1 := by simp
    go_upto_region 6 with fail
    generalize u4.alloc (.cells #[.slice A4 2 c4, .slice B4 2 d4, .slice E4 2 f4] 47) = u5 at *
    have lp0 := lt_of_cell' p0
    have lg5 : g < u5.heap.size := by omega
    go_wp2_with fail
    go_roundw
    case rel =>
      refine ⟨k + 1, by omega, by go_num, HS4.out, ((hWl.setOut (b := g) (o := 0) _ (fun h => by have := hSl _ h; omega)).setOut (b := g) (o := 1) _ (fun h => by have := hSl _ h; omega)).setOut (b := g) (o := 2) _ (fun h => by have := hSl _ h; omega), ((r0.other _ (by simp <;> omega)).other _ (by simp <;> omega)).other _ (by simp <;> omega), ((r1.other _ (by simp <;> omega)).other _ (by simp <;> omega)).other _ (by simp <;> omega), ((r2.other _ (by simp <;> omega)).other _ (by simp <;> omega)).other _ (by simp <;> omega), by simp; omega, ?_⟩
      exact ((hbr4.setCell (p := ⟨g, 0, none⟩) (by show w.heap.size ≤ g; omega) _).setCell (p := ⟨g, 1, none⟩) (by show w.heap.size ≤ g; omega) _).setCell (p := ⟨g, 2, none⟩) (by show w.heap.size ≤ g; omega) _
    case measure => simp [intOf]; omega
  · obtain ⟨r0c, r0f⟩ := r0
    obtain ⟨r1c, r1f⟩ := r1
    obtain ⟨r2c, r2f⟩ := r2
    have HG2 := Lib.hid (show Grd row l by have h := HGR.out; rw [List.take_of_length_le (by omega)] at h; exact h)
    have lg := lt_of_cell' g0c
    go_wp2_with fail
    refine bodyPost_ret (v := .tuple #[.agg #[.slice A3 2 c3, .slice B3 2 d3, .slice E3 2 f3], .bool true]) (by simp [results, Try.results25, go_sem, r0c, r1c, r2c]) rfl ⟨row, A3, c3, B3, d3, E3, f3, HR.out, HG2.out, rfl, ?_, ?_, ?_, ?_⟩
    · exact (((hW.setOut (b := w.heap.size + 1) (o := 0) _ (fun h => by have := hS _ h; omega)).setOut (b := w.heap.size + 1) (o := 1) _ (fun h => by have := hS _ h; omega)).setOut (b := w.heap.size + 1) (o := 2) _ (fun h => by have := hS _ h; omega)).rd
    · exact (((hV.setOut (b := w.heap.size + 1) (o := 0) _ (fun h => by have := hT _ h; omega)).setOut (b := w.heap.size + 1) (o := 1) _ (fun h => by have := hT _ h; omega)).setOut (b := w.heap.size + 1) (o := 2) _ (fun h => by have := hT _ h; omega)).rd
    · exact (((hE.setOut (b := w.heap.size + 1) (o := 0) _ (fun h => by have := hU _ h; omega)).setOut (b := w.heap.size + 1) (o := 1) _ (fun h => by have := hU _ h; omega)).setOut (b := w.heap.size + 1) (o := 2) _ (fun h => by have := hU _ h; omega)).rd
    · exact ((hbr.setCell (p := ⟨w.heap.size + 1, 0, none⟩) (by show w.heap.size ≤ w.heap.size + 1; omega) _).setCell (p := ⟨w.heap.size + 1, 1, none⟩) (by show w.heap.size ≤ w.heap.size + 1; omega) _).setCell (p := ⟨w.heap.size + 1, 2, none⟩) (by show w.heap.size ≤ w.heap.size + 1; omega) _
end Go.Proofs.Ytljholnnhogdkaa
