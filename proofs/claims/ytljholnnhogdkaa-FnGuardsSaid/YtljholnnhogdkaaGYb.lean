/- The walk of FnGuards. -/
import Derived.Test.YtljholnnhogdkaaGYa
import Derived.Test.YtljholnnhogdkaaGKz
import Derived.Test.YtljholnnhogdkaaPlaces
import Derived.Lib.QuietBelow
namespace Go.Proofs.Ytljholnnhogdkaa
open Go.ChangeShapes Go.WideShapes Go.ChangeAt Go.RowKit
set_option linter.unusedVariables false
set_option linter.unusedSimpArgs false
attribute [local go_sem ↓] Go.wp_at_zero Go.wp_at_succ

set_option maxRecDepth 100000 in
set_option maxHeartbeats 4000000 in
theorem law_guards (A : Option Addr) (c : Nat) (bs : List Int) (w : World) (hr : Rd w w.heap.size A (bv bs)) (hbb : ∀ b ∈ bs, 0 ≤ b ∧ b ≤ 255) :
    Calls Try.prog 6 #[.slice A bs.length c] w fun e w' => e = .returned (.bool true) ∧ Below w.heap.size w w' := by
  by_cases hbig : (1048576 : Int) < bs.length
  · go_enter Try.func6, Try.ntmps6
    go_wp2_with (go_at_call 13; refine (big_any _ _ _ _).mono ?_; rintro e w ⟨rfl, rfl⟩)
    go_ret
    exact ⟨rfl, by (repeat' (first | (with_reducible exact Below.refl _ _) | (with_reducible refine bel_alloc ?_ ?_ _) | (with_reducible refine Below.setCell ?_ ?_ _) | (with_reducible refine below_drewN ?_ _) | (with_reducible refine Below.drew ?_) | (with_reducible exact Nat.le_refl _) | (with_reducible assumption) | omega | (simp only [World.size_alloc, World.size_setCell, World.size_drew]; omega) | (simp; omega) | (simp; done)))⟩
  · have hb : Bytes bs := ⟨by omega, hbb⟩
    go_enter Try.func6, Try.ntmps6
    go_wp2_with (go_at_call 13; refine (big_any _ _ _ _).mono ?_; rintro e w ⟨rfl, rfl⟩)
    refine (places_any _ A c bs _ hb hr (Nat.le_refl _)).mono ?_
    rintro e w1 ⟨A1, c1, xs, rfl, hp, ho, hb1⟩
    obtain ⟨g, rfl, hg1, hg2, P, hP, hcell⟩ := places_at ho hp
    have q0 := hcell 0 (by omega)
    have q1 := hcell 1 (by omega)
    have q2 := hcell 2 (by omega)
    have q3 := hcell 3 (by omega)
    have hp0 := hP 0 (by omega)
    have hp1 := hP 1 (by omega)
    have hp2 := hP 2 (by omega)
    have hp3 := hP 3 (by omega)
    generalize P 0 = p0 at *
    generalize P 1 = p1 at *
    generalize P 2 = p2 at *
    generalize P 3 = p3 at *
    clear hcell hP hbb hb hr hbig hp ho
    obtain ⟨r, hre⟩ : ∃ r : Nat, (r : Int) = p0 % 4 := ⟨(p0 % 4).toNat, by omega⟩
    obtain ⟨t, hte⟩ : ∃ t, t = p1 % 2 := ⟨_, rfl⟩
    have hr4 : r < 4 := by omega
    have ht2 : t = 0 ∨ t = 1 := by omega
    have hm0 : p0.tmod 4 = (r : Int) := by rw [hre]; exact Int.tmod_eq_emod_of_nonneg hp0.1
    have hm1 : p1.tmod 2 = t := by rw [hte]; exact Int.tmod_eq_emod_of_nonneg hp1.1
    clear hre hte
    obtain ⟨s, hs⟩ : ∃ s : Int, s = [3, 5, 6, 7][r] := ⟨_, rfl⟩
    have hs4 : s = 3 ∨ s = 5 ∨ s = 6 ∨ s = 7 := by
      rcases (by omega : r = 0 ∨ r = 1 ∨ r = 2 ∨ r = 3) with rfl | rfl | rfl | rfl
      · exact .inl hs
      · exact .inr (.inl hs)
      · exact .inr (.inr (.inl hs))
      · exact .inr (.inr (.inr hs))
    have HV := Lib.hid (show ∀ h : r < [Value.int .i64 3, Value.int .i64 5, Value.int .i64 6, Value.int .i64 7].length, [Value.int .i64 3, Value.int .i64 5, Value.int .i64 6, Value.int .i64 7][r]'h = .int .i64 s from fun h => by
      rcases (by omega : r = 0 ∨ r = 1 ∨ r = 2 ∨ r = 3) with rfl | rfl | rfl | rfl <;> rw [hs] <;> rfl)
    have hs7 : 3 ≤ s ∧ s ≤ 7 := by omega
    obtain ⟨N, hN1, hN3, hN, hgl, hs8, ha0, h16⟩ := sz_all hs4 ht2
    have k0 : (w1.alloc (.cells #[.int .i64 3, .int .i64 5, .int .i64 6, .int .i64 7] 3)).cell? ⟨g, 0, none⟩ = some (.int .i64 p0) := cell_al q0 _
    have k1 : (w1.alloc (.cells #[.int .i64 3, .int .i64 5, .int .i64 6, .int .i64 7] 3)).cell? ⟨g, 1, none⟩ = some (.int .i64 p1) := cell_al q1 _
    have k2 : (w1.alloc (.cells #[.int .i64 3, .int .i64 5, .int .i64 6, .int .i64 7] 3)).cell? ⟨g, 2, none⟩ = some (.int .i64 p2) := cell_al q2 _
    have k3 : (w1.alloc (.cells #[.int .i64 3, .int .i64 5, .int .i64 6, .int .i64 7] 3)).cell? ⟨g, 3, none⟩ = some (.int .i64 p3) := cell_al q3 _
    have hb2 : Below w.heap.size w (w1.alloc (.cells #[.int .i64 3, .int .i64 5, .int .i64 6, .int .i64 7] 3)) := by (repeat' (first | (with_reducible exact Below.refl _ _) | (with_reducible refine bel_alloc ?_ ?_ _) | (with_reducible refine Below.setCell ?_ ?_ _) | (with_reducible refine below_drewN ?_ _) | (with_reducible refine Below.drew ?_) | (with_reducible refine bel_step hb1 ?_ ?_) | (with_reducible exact Nat.le_refl _) | (with_reducible assumption) | omega | (simp only [World.size_alloc, World.size_setCell, World.size_drew]; omega) | (simp; omega) | (simp; done)))
    clear q0 q1 q2 q3 hs hs4 ht2 hb1
    have HGL := Lib.hid hgl
    have HS8 := Lib.hid hs8
    have H16 := Lib.hid h16
    have hk : kC s = (kOf s : Nat) := by simp [kC, hs8]
    have H1 := fun W => classOf_s s W
    simp only [hk] at H1
    replace H1 := Lib.hid H1
    have H2 := Lib.hid (fun W => classSize_s (kOf s : Nat) W)
    have H4 := Lib.hid (fun W => waste_s s hs8 W)
    rw [← hN] at H4
    have hcsb := cs_bd (kOf s : Nat)
    clear hgl hs8 hk
    obtain ⟨kk, hkk⟩ : ∃ kk, kk = kOf s := ⟨_, rfl⟩
    rw [← hkk] at H1 H2 HGL H16 hN ha0 hcsb
    obtain ⟨m, hme⟩ : ∃ m, m = cs (kk : Int) := ⟨_, rfl⟩
    rw [← hme] at H2 HGL H16 hN ha0 hcsb
    obtain ⟨a, hae⟩ : ∃ a, a = m * t := ⟨_, rfl⟩
    rw [← hae] at HGL H16 ha0
    have ha16 : a ≤ 16 := by have := H16.out; omega
    have HW := Lib.hid (show wrap64 (m * t) = a by rw [wrap64, ← IntKind.wrap_i64, ← hae]; exact IntWalk.i64_in _ (by omega))
    clear hkk hme hae hN h16
    go_upto_region 5 with fail
    simp only [HV.out]
    generalize w1.alloc (.cells #[.int .i64 3, .int .i64 5, .int .i64 6, .int .i64 7] 3) = w2 at *
    have c1 := cell_regrown k1
    have cE := fun d os => Calls.regrown_of ((H1.out (Go.Sort.grow (redrawn w2 d) os)).mono fun _ _ ⟨h1, h2⟩ => ⟨h1, by rw [h2]; exact Below.refl _ _⟩)
    have cF := fun d os => Calls.regrown_of ((H2.out (Go.Sort.grow (redrawn w2 d) os)).mono fun _ _ ⟨h1, h2⟩ => ⟨h1, by rw [h2]; exact Below.refl _ _⟩)
    refine wp_region_quiet_below (by kernel_rfl) (by kernel_rfl) ?_
    repeat (first | go_big_quiet_step (first | (with_reducible exact cE _ _) | (with_reducible exact cF _ _)) | quiet_step (first | (with_reducible exact cE _ _) | (with_reducible exact cF _ _)))
    refine wpQuiet_nil ?_
    intro _ hw_q
    obtain ⟨⟨dq, osq⟩, hw_q'⟩ := hw_q
    subst hw_q'
    have hbq := below_regrown w2 dq osq
    generalize Go.Sort.grow (redrawn w2 dq) osq = wq at *
    replace k2 := keep hbq k2
    replace k3 := keep hbq k3
    have hb3 : Below w.heap.size w wq := by (repeat' (first | (with_reducible exact Below.refl _ _) | (with_reducible refine bel_alloc ?_ ?_ _) | (with_reducible refine Below.setCell ?_ ?_ _) | (with_reducible refine below_drewN ?_ _) | (with_reducible refine Below.drew ?_) | (with_reducible refine bel_step hbq ?_ ?_) | (with_reducible refine bel_step hb2 ?_ ?_) | (with_reducible exact Nat.le_refl _) | (with_reducible assumption) | omega | (simp only [World.size_alloc, World.size_setCell, World.size_drew]; omega) | (simp; omega) | (simp; done)))
    clear hbq hb2 k0 k1 c1 cE cF
    go_upto_region 6 with fail
    simp only [HW.out]
    generalize wq = w3 at *
    replace k2 : (w3.alloc (.cells #[] 3)).cell? ⟨g, 2, none⟩ = some (.int .i64 p2) := cell_al k2 _
    replace k3 : (w3.alloc (.cells #[] 3)).cell? ⟨g, 3, none⟩ = some (.int .i64 p3) := cell_al k3 _
    clear HV H1 H2 HW hp0 hp1
    go_wp2_with fail
    refine (kernelNew_s _ _ _).mono ?_
    rintro e w4 ⟨A4, c4, B4, d4, E4, f4, R4, r4, S, T, U, rfl, hA, hB, hE, hS, hT, hU, hb4⟩
    replace k2 := keep hb4 k2
    replace k3 := keep hb4 k3
    have lk2 := lt_of_cell' k2
    go_wp2_with fail
    obtain ⟨gK, hgK⟩ : ∃ gK, gK = w4.heap.size := ⟨_, rfl⟩
    have g0 : Cl (w4.alloc (.cells #[.slice A4 2 c4, .slice B4 2 d4, .slice E4 2 f4, .int .i64 0, .slice R4 0 r4] 52)) ⟨gK, 0, none⟩ (.slice A4 2 c4) := Cl.new hgK rfl
    have g1 : Cl (w4.alloc (.cells #[.slice A4 2 c4, .slice B4 2 d4, .slice E4 2 f4, .int .i64 0, .slice R4 0 r4] 52)) ⟨gK, 1, none⟩ (.slice B4 2 d4) := Cl.new hgK rfl
    have g2 : Cl (w4.alloc (.cells #[.slice A4 2 c4, .slice B4 2 d4, .slice E4 2 f4, .int .i64 0, .slice R4 0 r4] 52)) ⟨gK, 2, none⟩ (.slice E4 2 f4) := Cl.new hgK rfl
    have g3 : Cl (w4.alloc (.cells #[.slice A4 2 c4, .slice B4 2 d4, .slice E4 2 f4, .int .i64 0, .slice R4 0 r4] 52)) ⟨gK, 3, none⟩ (.int .i64 0) := Cl.new hgK rfl
    have g4 : Cl (w4.alloc (.cells #[.slice A4 2 c4, .slice B4 2 d4, .slice E4 2 f4, .int .i64 0, .slice R4 0 r4] 52)) ⟨gK, 4, none⟩ (.slice R4 0 r4) := Cl.new hgK rfl
    have hb5 : Below w.heap.size w (w4.alloc (.cells #[.slice A4 2 c4, .slice B4 2 d4, .slice E4 2 f4, .int .i64 0, .slice R4 0 r4] 52)) := by (repeat' (first | (with_reducible exact Below.refl _ _) | (with_reducible refine bel_alloc ?_ ?_ _) | (with_reducible refine Below.setCell ?_ ?_ _) | (with_reducible refine below_drewN ?_ _) | (with_reducible refine Below.drew ?_) | (with_reducible refine bel_step hb4 ?_ ?_) | (with_reducible refine bel_step hb3 ?_ ?_) | (with_reducible exact Nat.le_refl _) | (with_reducible assumption) | omega | (simp only [World.size_alloc, World.size_setCell, World.size_drew]; omega) | (simp; omega) | (simp; done)))
    have hgw : w.heap.size ≤ gK := by have := hb4.size; have := hb3.size; simp only [World.size_alloc] at *; omega
    have hgg : g ≠ gK := by omega
    replace k2 := cell_al k2 (.cells #[.slice A4 2 c4, .slice B4 2 d4, .slice E4 2 f4, .int .i64 0, .slice R4 0 r4] 52)
    replace k3 := cell_al k3 (.cells #[.slice A4 2 c4, .slice B4 2 d4, .slice E4 2 f4, .int .i64 0, .slice R4 0 r4] 52)
    have hA5 := hA.rd.alloc (.cells #[.slice A4 2 c4, .slice B4 2 d4, .slice E4 2 f4, .int .i64 0, .slice R4 0 r4] 52)
    have hB5 := hB.rd.alloc (.cells #[.slice A4 2 c4, .slice B4 2 d4, .slice E4 2 f4, .int .i64 0, .slice R4 0 r4] 52)
    have hE5 := hE.rd.alloc (.cells #[.slice A4 2 c4, .slice B4 2 d4, .slice E4 2 f4, .int .i64 0, .slice R4 0 r4] 52)
    have lgK : gK < (w4.alloc (.cells #[.slice A4 2 c4, .slice B4 2 d4, .slice E4 2 f4, .int .i64 0, .slice R4 0 r4] 52)).heap.size := by rw [hgK]; simp
    rw [← hgK]
    clear hA hB hE hS hT hU lk2 hb4 hb3 hgK
    generalize (w4.alloc (.cells #[.slice A4 2 c4, .slice B4 2 d4, .slice E4 2 f4, .int .i64 0, .slice R4 0 r4] 52)) = w5 at *
    refine (kMapNew_z _ _ _ _ _ _ _ _ _ hA5 hB5 hE5).mono ?_
    rintro e w6 ⟨A6, c6, B6, d6, E6, f6, R6, r6, S6, T6, U6, rfl, hA, hB, hE, hS, hT, hU, hb6⟩
    have hS' : ∀ b, S6 b → b ≠ gK := fun b h => by have := hS b h; omega
    have hT' : ∀ b, T6 b → b ≠ gK := fun b h => by have := hT b h; omega
    have hU' : ∀ b, U6 b → b ≠ gK := fun b h => by have := hU b h; omega
    have hs5 := set5 (.slice A6 2 c6) (.slice B6 2 d6) (.slice E6 2 f6) (.int .i64 1) (.slice R6 0 r6) (g0.below hb6) (g1.below hb6) (g2.below hb6)
    have g0c := (g0.below hb6).1
    have g1c := (g1.below hb6).1
    have g2c := (g2.below hb6).1
    have g3c := (g3.below hb6).1
    have g4c := (g4.below hb6).1
    have g0f := (g0.below hb6).2
    have g1f := (g1.below hb6).2
    have g2f := (g2.below hb6).2
    have g3f := (g3.below hb6).2
    have g4f := (g4.below hb6).2
    have lg6 := lt_of_cell' g0c
    have hbw6 : Below w.heap.size w w6 := by (repeat' (first | (with_reducible exact Below.refl _ _) | (with_reducible refine bel_alloc ?_ ?_ _) | (with_reducible refine Below.setCell ?_ ?_ _) | (with_reducible refine below_drewN ?_ _) | (with_reducible refine Below.drew ?_) | (with_reducible refine bel_step hb6 ?_ ?_) | (with_reducible refine bel_step hb5 ?_ ?_) | (with_reducible exact Nat.le_refl _) | (with_reducible assumption) | omega | (simp only [World.size_alloc, World.size_setCell, World.size_drew]; omega) | (simp; omega) | (simp; done)))
    replace k2 := keep hb6 k2
    replace k3 := keep hb6 k3
    clear g0 g1 g2 g3 g4 hA5 hB5 hE5 hb5 lgK hS hT hU hb6
    go_upto_region 8 with fail
    obtain ⟨ho, K0, K1, K2⟩ := hs5
    replace hA := (hA.outS ho hS').rd
    replace hB := (hB.outS ho hT').rd
    replace hE := (hE.outS ho hU').rd
    replace k2 := ho.cell k2 hgg
    replace k3 := ho.cell k3 hgg
    have hb7 := bel_outS ho (fun b h => by rw [h]; exact hgw) hbw6 (Nat.le_refl _)
    clear ho hbw6 hS' hT' hU' g0c g1c g2c g3c g4c g0f g1f g2f g3f g4f lg6
    generalize (((((w6.setCell ⟨gK, 0, none⟩ (.slice A6 2 c6)).setCell ⟨gK, 1, none⟩ (.slice B6 2 d6)).setCell ⟨gK, 2, none⟩ (.slice E6 2 f6)).setCell ⟨gK, 3, none⟩ (.int .i64 1)).setCell ⟨gK, 4, none⟩ (.slice R6 0 r6)) = w7 at *
    have H3 := fun W => guard_i a s W
    simp only [HGL.out] at H3
    replace H3 := Lib.hid H3
    go_wp2_with fail
    refine (H3.out _).mono ?_
    rintro e w8 ⟨Al, cl, Sl, rfl, hWl, hNl, hb8⟩
    rw [gl_len]
    replace hWl := hWl.rd
    replace k2 := keep hb8 k2
    replace k3 := keep hb8 k3
    replace K0 := keep hb8 K0
    replace K1 := keep hb8 K1
    replace K2 := keep hb8 K2
    have hl := gl_in ha0 (by omega : 0 ≤ s) H16.out
    rw [← HGL.out] at hl
    have HSG := Lib.hid (setGuards_i RowOk.z a s hl A6 c6 B6 d6 E6 f6 w8 (hA.below hb8) (hB.below hb8) (hE.below hb8))
    have lK := lt_of_cell' K0
    have hb8' : Below w.heap.size w w8 := by (repeat' (first | (with_reducible exact Below.refl _ _) | (with_reducible refine bel_alloc ?_ ?_ _) | (with_reducible refine Below.setCell ?_ ?_ _) | (with_reducible refine below_drewN ?_ _) | (with_reducible refine Below.drew ?_) | (with_reducible refine bel_step hb8 ?_ ?_) | (with_reducible refine bel_step hb7 ?_ ?_) | (with_reducible exact Nat.le_refl _) | (with_reducible assumption) | omega | (simp only [World.size_alloc, World.size_setCell, World.size_drew]; omega) | (simp; omega) | (simp; done)))
    clear hA hB hE hl hb7 hNl H3
    go_wp2_with fail
    refine HSG.out.mono ?_
    rintro e w9 ⟨row, A9, c9, B9, d9, E9, f9, hR, hg, rfl, hA, hB, hE, hb9⟩
    have HR := Lib.hid hR
    have HG := Lib.hid hg
    replace k2 := keep hb9 k2
    replace k3 := keep hb9 k3
    have hWl9 := hWl.below hb9
    have hbw9 : Below w.heap.size w w9 := by (repeat' (first | (with_reducible exact Below.refl _ _) | (with_reducible refine bel_alloc ?_ ?_ _) | (with_reducible refine Below.setCell ?_ ?_ _) | (with_reducible refine below_drewN ?_ _) | (with_reducible refine Below.drew ?_) | (with_reducible refine bel_step hb9 ?_ ?_) | (with_reducible refine bel_step hb8' ?_ ?_) | (with_reducible exact Nat.le_refl _) | (with_reducible assumption) | omega | (simp only [World.size_alloc, World.size_setCell, World.size_drew]; omega) | (simp; omega) | (simp; done)))
    clear HSG hR hg K0 K1 K2 lK hb8' hWl
    go_upto_region 10 with fail
    obtain ⟨gM, hgM⟩ : ∃ gM, gM = w9.heap.size := ⟨_, rfl⟩
    have M0 : (w9.alloc (.cells #[.slice A9 2 c9, .slice B9 2 d9, .slice E9 2 f9] 47)).cell? ⟨gM, 0, none⟩ = some (.slice A9 2 c9) := (Cl.new hgM rfl).1
    have M1 : (w9.alloc (.cells #[.slice A9 2 c9, .slice B9 2 d9, .slice E9 2 f9] 47)).cell? ⟨gM, 1, none⟩ = some (.slice B9 2 d9) := (Cl.new hgM rfl).1
    have M2 : (w9.alloc (.cells #[.slice A9 2 c9, .slice B9 2 d9, .slice E9 2 f9] 47)).cell? ⟨gM, 2, none⟩ = some (.slice E9 2 f9) := (Cl.new hgM rfl).1
    have hb10 : Below w.heap.size w (w9.alloc (.cells #[.slice A9 2 c9, .slice B9 2 d9, .slice E9 2 f9] 47)) := by (repeat' (first | (with_reducible exact Below.refl _ _) | (with_reducible refine bel_alloc ?_ ?_ _) | (with_reducible refine Below.setCell ?_ ?_ _) | (with_reducible refine below_drewN ?_ _) | (with_reducible refine Below.drew ?_) | (with_reducible refine bel_step hbw9 ?_ ?_) | (with_reducible exact Nat.le_refl _) | (with_reducible assumption) | omega | (simp only [World.size_alloc, World.size_setCell, World.size_drew]; omega) | (simp; omega) | (simp; done)))
    replace hA := hA.alloc (.cells #[.slice A9 2 c9, .slice B9 2 d9, .slice E9 2 f9] 47)
    replace hB := hB.alloc (.cells #[.slice A9 2 c9, .slice B9 2 d9, .slice E9 2 f9] 47)
    replace hE := hE.alloc (.cells #[.slice A9 2 c9, .slice B9 2 d9, .slice E9 2 f9] 47)
    replace k2 := cell_al k2 (.cells #[.slice A9 2 c9, .slice B9 2 d9, .slice E9 2 f9] 47)
    replace k3 := cell_al k3 (.cells #[.slice A9 2 c9, .slice B9 2 d9, .slice E9 2 f9] 47)
    have hWl := hWl9.alloc (.cells #[.slice A9 2 c9, .slice B9 2 d9, .slice E9 2 f9] 47)
    have hs0 : 0 ≤ s := by omega
    have HGO := Lib.hid (go2_i HR.out (plain_ok HR.out HGL.out ha0 hs0 H16.out HG.out) true (by rfl) A9 c9 B9 d9 E9 f9 (w9.alloc (.cells #[.slice A9 2 c9, .slice B9 2 d9, .slice E9 2 f9] 47)) hA hB hE)
    have HFB := Lib.hid (fun (W : World) (B1 B2 B3 : Nat) (hr : Rd2 iv W B1 A9 (m2 row)) (hs : Rd W B2 B9 (bl us0)) (ht : Rd W B3 E9 (pv es0)) => fb2_i HR.out (plain_ok HR.out HGL.out ha0 hs0 H16.out HG.out) A9 c9 B9 d9 E9 f9 W hr hs ht)
    have HBK := Lib.hid (fun (k : Nat) (hk : k < N) (v : Int) (h0 : 0 ≤ v) (h7 : v < 700) => plain_broken HR.out HGL.out ha0 hs0 H16.out HG.out hk h0 h7)
    rw [← hgM]
    clear hb9 hbw9 hWl9 hgM HG
    have lM := lt_of_cell' M0
    generalize (w9.alloc (.cells #[.slice A9 2 c9, .slice B9 2 d9, .slice E9 2 f9] 47)) = w10 at *
    go_wp2_with (go_at_call 26; refine (H4.out _).mono ?_; rintro e w10 ⟨rfl, rfl⟩)
    refine HGO.out.mono ?_
    rintro e w11 ⟨rfl, hb11⟩
    replace M0 := keep hb11 M0
    replace M1 := keep hb11 M1
    replace M2 := keep hb11 M2
    replace hA := hA.lt.below hb11
    replace hB := hB.lt.below hb11
    replace hE := hE.lt.below hb11
    replace k2 := keep hb11 k2
    replace k3 := keep hb11 k3
    replace hWl := hWl.lt.below hb11
    have hbw11 : Below w.heap.size w w11 := by (repeat' (first | (with_reducible exact Below.refl _ _) | (with_reducible refine bel_alloc ?_ ?_ _) | (with_reducible refine Below.setCell ?_ ?_ _) | (with_reducible refine below_drewN ?_ _) | (with_reducible refine Below.drew ?_) | (with_reducible refine bel_step hb11 ?_ ?_) | (with_reducible refine bel_step hb10 ?_ ?_) | (with_reducible exact Nat.le_refl _) | (with_reducible assumption) | omega | (simp only [World.size_alloc, World.size_setCell, World.size_drew]; omega) | (simp; omega) | (simp; done)))
    have hz11 : w10.heap.size ≤ w11.heap.size := hb11.size
    obtain ⟨k, hke⟩ : ∃ k : Nat, (k : Int) = p2 % N := ⟨(p2 % N).toNat, by have := Int.emod_nonneg p2 (show (N : Int) ≠ 0 by omega); omega⟩
    have hkN : k < N := by have := Int.emod_lt_of_pos p2 (show (0 : Int) < N by omega); omega
    have hm2 : p2.tmod N = (k : Int) := by rw [hke]; exact Int.tmod_eq_emod_of_nonneg hp2.1
    have hN0 : (N : Int) ≠ 0 := by omega
    obtain ⟨bl', ol, rfl, -, hx⟩ := hWl.int (k := k) (by rw [gl_len]; exact hkN)
    rw [gl_at] at hx
    obtain ⟨v, hve⟩ : ∃ v, v = p3 % 700 := ⟨_, rfl⟩
    have hm3 : p3.tmod 700 = v := by rw [hve]; exact Int.tmod_eq_emod_of_nonneg hp3.1
    have hv7 : 0 ≤ v ∧ v < 700 := by omega
    have HX := Lib.hid (HBK.out k hkN v hv7.1 hv7.2)
    have hx16 : 0 ≤ a + (s + (k : Int)) ∧ a + (s + (k : Int)) < 16 := by have := H16.out; omega
    generalize a + (s + (k : Int)) = x at *
    have lM11 := lt_of_cell' M0
    have lx := lt_of_cell' hx
    have lk3 := lt_of_cell' k3
    have i0 : (0 : Int) ≤ (k : Int) := by omega
    have i1 : (k : Int) < (N : Int) := by omega
    clear hke hve hWl lM hb11 hb10 HGO HBK hp2 hp3
    go_upto_region 13 with fail
    have hv9 : btw v 0 999 = true := btw_t hv7.1 (by omega)
    have hM11 : gM ≠ w11.heap.size := by omega
    have hg11 : g ≠ w11.heap.size := by omega
    go_region_held3 (fun w' => w'.cell? ⟨gM, 0, none⟩ = some (.slice A9 2 c9) ∧ w'.cell? ⟨gM, 1, none⟩ = some (.slice B9 2 d9) ∧ w'.cell? ⟨gM, 2, none⟩ = some (.slice E9 2 f9) ∧ w'.cell? ⟨g, 3, none⟩ = some (.int .i64 p3))
      (first | exact ⟨M0, M1, M2, k3⟩ | exact ⟨cell_al M0 _, cell_al M1 _, cell_al M2 _, cell_al k3 _⟩ | exact ⟨cell_ald M0 _, cell_ald M1 _, cell_ald M2 _, cell_ald k3 _⟩ | exact ⟨M012, M112, M212, k312⟩ | exact ⟨cell_al M012 _, cell_al M112 _, cell_al M212 _, cell_al k312 _⟩ | exact ⟨set3_keep M012 hM11, set3_keep M112 hM11, set3_keep M212 hM11, set3_keep k312 hg11⟩ | fail)
      (first | (go_simp; go_at_call 27; refine (store2_s HR.out hx16.1 hx16.2 hv9 _ _ _ _ _ _ _ hA.drew hB.drew hE.drew).mono ?_; rintro e w12 ⟨A12, c12, B12, d12, E12, f12, S, T, U, rfl, hA12, hB12, hE12, hS, hT, hU, hb12⟩; have M012 := keep hb12 M0; have M112 := keep hb12 M1; have M212 := keep hb12 M2; have k312 := keep hb12 k3; have hz12 := hb12.size) | (go_simp; go_at_call 27; refine (store2_s HR.out hx16.1 hx16.2 hv9 _ _ _ _ _ _ _ (hA.alloc (.cells #[.slice none 0 0, .slice none 0 0, .slice none 0 0] 47)).drew (hB.alloc (.cells #[.slice none 0 0, .slice none 0 0, .slice none 0 0] 47)).drew (hE.alloc (.cells #[.slice none 0 0, .slice none 0 0, .slice none 0 0] 47)).drew).mono ?_; rintro e w12 ⟨A12, c12, B12, d12, E12, f12, S, T, U, rfl, hA12, hB12, hE12, hS, hT, hU, hb12⟩; have M012 := keep hb12 (cell_al M0 (.cells #[.slice none 0 0, .slice none 0 0, .slice none 0 0] 47)); have M112 := keep hb12 (cell_al M1 (.cells #[.slice none 0 0, .slice none 0 0, .slice none 0 0] 47)); have M212 := keep hb12 (cell_al M2 (.cells #[.slice none 0 0, .slice none 0 0, .slice none 0 0] 47)); have k312 := keep hb12 (cell_al k3 (.cells #[.slice none 0 0, .slice none 0 0, .slice none 0 0] 47)); have hz12 := hb12.size; simp only [World.size_alloc, World.size_drew] at hz12; have Z0 : Cl w12 ⟨w11.heap.size, 0, none⟩ (.slice none 0 0) := Cl.below (by constructor <;> simp [go_sem]) hb12; have Z0c := Z0.1; have Z0f := Z0.2; have Z1 : Cl w12 ⟨w11.heap.size, 1, none⟩ (.slice none 0 0) := Cl.below (by constructor <;> simp [go_sem]) hb12; have Z1c := Z1.1; have Z1f := Z1.2; have Z2 : Cl w12 ⟨w11.heap.size, 2, none⟩ (.slice none 0 0) := Cl.below (by constructor <;> simp [go_sem]) hb12; have Z2c := Z2.1; have Z2f := Z2.2) | fail)
    · have hRX := HR.out.set (t := x.toNat) hv9
      obtain ⟨gX, hgX⟩ : ∃ gX, gX = w12.heap.size := ⟨_, rfl⟩
      have X0 : (w12.alloc (.cells #[.slice A12 2 c12, .slice B12 2 d12, .slice E12 2 f12] 47)).cell? ⟨gX, 0, none⟩ = some (.slice A12 2 c12) := (Cl.new hgX rfl).1
      have X1 : (w12.alloc (.cells #[.slice A12 2 c12, .slice B12 2 d12, .slice E12 2 f12] 47)).cell? ⟨gX, 1, none⟩ = some (.slice B12 2 d12) := (Cl.new hgX rfl).1
      have X2 : (w12.alloc (.cells #[.slice A12 2 c12, .slice B12 2 d12, .slice E12 2 f12] 47)).cell? ⟨gX, 2, none⟩ = some (.slice E12 2 f12) := (Cl.new hgX rfl).1
      have N0 := cell_al M012 (.cells #[.slice A12 2 c12, .slice B12 2 d12, .slice E12 2 f12] 47)
      have N1 := cell_al M112 (.cells #[.slice A12 2 c12, .slice B12 2 d12, .slice E12 2 f12] 47)
      have N2 := cell_al M212 (.cells #[.slice A12 2 c12, .slice B12 2 d12, .slice E12 2 f12] 47)
      have hAx := hA12.rd.alloc (.cells #[.slice A12 2 c12, .slice B12 2 d12, .slice E12 2 f12] 47)
      have hBx := hB12.rd.alloc (.cells #[.slice A12 2 c12, .slice B12 2 d12, .slice E12 2 f12] 47)
      have hEx := hE12.rd.alloc (.cells #[.slice A12 2 c12, .slice B12 2 d12, .slice E12 2 f12] 47)
      have hAm := (hA.drew.below hb12).alloc (.cells #[.slice A12 2 c12, .slice B12 2 d12, .slice E12 2 f12] 47)
      have hBm := (hB.drew.below hb12).alloc (.cells #[.slice A12 2 c12, .slice B12 2 d12, .slice E12 2 f12] 47)
      have hEm := (hE.drew.below hb12).alloc (.cells #[.slice A12 2 c12, .slice B12 2 d12, .slice E12 2 f12] 47)
      have hb13 : Below w.heap.size w (w12.alloc (.cells #[.slice A12 2 c12, .slice B12 2 d12, .slice E12 2 f12] 47)) := by (repeat' (first | (with_reducible exact Below.refl _ _) | (with_reducible refine bel_alloc ?_ ?_ _) | (with_reducible refine Below.setCell ?_ ?_ _) | (with_reducible refine below_drewN ?_ _) | (with_reducible refine Below.drew ?_) | (with_reducible refine bel_step hb12 ?_ ?_) | (with_reducible refine bel_step hbw11 ?_ ?_) | (with_reducible exact Nat.le_refl _) | (with_reducible assumption) | omega | (simp only [World.size_alloc, World.size_setCell, World.size_drew]; omega) | (simp; omega) | (simp; done)))
      rw [← hgX]
      clear hgX
      clear hA hB hE hA12 hB12 hE12 hS hT hU hb12 M0 M1 M2 M012 M112 M212 k3 k312 hz12 hM11 hg11 lM11 lx lk3
      rename_i hHeld
      clear hHeld
      generalize (w12.alloc (.cells #[.slice A12 2 c12, .slice B12 2 d12, .slice E12 2 f12] 47)) = w13 at *
      have lX := lt_of_cell' X0
      have lN := lt_of_cell' N0
      go_wp2_with fail
      refine (go2_i hRX HX.out false (by simp; omega) _ _ _ _ _ _ _ hAx hBx hEx).mono ?_
      rintro e w14 ⟨rfl, hb14⟩
      replace X0 := keep hb14 X0
      replace N0 := keep hb14 N0
      replace X1 := keep hb14 X1
      replace N1 := keep hb14 N1
      replace X2 := keep hb14 X2
      replace N2 := keep hb14 N2
      replace hAx := hAx.below hb14
      replace hAm := hAm.below hb14
      replace hBx := hBx.below hb14
      replace hBm := hBm.below hb14
      replace hEx := hEx.below hb14
      replace hEm := hEm.below hb14
      have hb14' : Below w.heap.size w w14 := by (repeat' (first | (with_reducible exact Below.refl _ _) | (with_reducible refine bel_alloc ?_ ?_ _) | (with_reducible refine Below.setCell ?_ ?_ _) | (with_reducible refine below_drewN ?_ _) | (with_reducible refine Below.drew ?_) | (with_reducible refine bel_step hb14 ?_ ?_) | (with_reducible refine bel_step hb13 ?_ ?_) | (with_reducible exact Nat.le_refl _) | (with_reducible assumption) | omega | (simp only [World.size_alloc, World.size_setCell, World.size_drew]; omega) | (simp; omega) | (simp; done)))
      clear hb14 hb13 lX lN
      have lX := lt_of_cell' X0
      have lN := lt_of_cell' N0
      go_wp2_with fail
      refine (fb2_i hRX HX.out _ _ _ _ _ _ _ hAx hBx hEx).mono ?_
      rintro e w15 ⟨rfl, hb15⟩
      replace N0 := keep hb15 N0
      replace N1 := keep hb15 N1
      replace N2 := keep hb15 N2
      replace hAm := hAm.below hb15
      replace hBm := hBm.below hb15
      replace hEm := hEm.below hb15
      clear lX lN X0 X1 X2 hAx hBx hEx
      have lN := lt_of_cell' N0
      go_wp2_with fail
      refine (HFB.out _ _ _ _ hAm hBm hEm).mono ?_
      rintro e w16 ⟨rfl, hb16⟩
      have hb16' : Below w.heap.size w w16 := by (repeat' (first | (with_reducible exact Below.refl _ _) | (with_reducible refine bel_alloc ?_ ?_ _) | (with_reducible refine Below.setCell ?_ ?_ _) | (with_reducible refine below_drewN ?_ _) | (with_reducible refine Below.drew ?_) | (with_reducible refine bel_step hb16 ?_ ?_) | (with_reducible refine bel_step hb15 ?_ ?_) | (with_reducible refine bel_step hb14' ?_ ?_) | (with_reducible exact Nat.le_refl _) | (with_reducible assumption) | omega | (simp only [World.size_alloc, World.size_setCell, World.size_drew]; omega) | (simp; omega) | (simp; done)))
      go_wp2_with fail
      go_ret
      exact ⟨rfl, by (repeat' (first | (with_reducible exact Below.refl _ _) | (with_reducible refine bel_alloc ?_ ?_ _) | (with_reducible refine Below.setCell ?_ ?_ _) | (with_reducible refine below_drewN ?_ _) | (with_reducible refine Below.drew ?_) | (with_reducible refine bel_step hb16' ?_ ?_) | (with_reducible exact Nat.le_refl _) | (with_reducible assumption) | omega | (simp only [World.size_alloc, World.size_setCell, World.size_drew]; omega) | (simp; omega) | (simp; done)))⟩
    · have hRX := HR.out.set (t := x.toNat) hv9
      obtain ⟨X0, X1, X2⟩ := set3_at (.slice A12 2 c12) (.slice B12 2 d12) (.slice E12 2 f12) Z0 Z1 Z2
      have o3 := set3_out (w := w12) (g := w11.heap.size) (.slice A12 2 c12) (.slice B12 2 d12) (.slice E12 2 f12)
      have N0 := o3.cell M012 hM11
      have N1 := o3.cell M112 hM11
      have N2 := o3.cell M212 hM11
      have hAx := (hA12.outS o3 (fun b h => by have := hS b h; simp only [World.size_alloc, World.size_drew] at this; omega)).rd
      have hBx := (hB12.outS o3 (fun b h => by have := hT b h; simp only [World.size_alloc, World.size_drew] at this; omega)).rd
      have hEx := (hE12.outS o3 (fun b h => by have := hU b h; simp only [World.size_alloc, World.size_drew] at this; omega)).rd
      have hAm := ((hA.alloc (.cells #[.slice none 0 0, .slice none 0 0, .slice none 0 0] 47)).drew.below hb12).outS o3 (fun b h => by rw [h]; exact hz11)
      have hBm := ((hB.alloc (.cells #[.slice none 0 0, .slice none 0 0, .slice none 0 0] 47)).drew.below hb12).outS o3 (fun b h => by rw [h]; exact hz11)
      have hEm := ((hE.alloc (.cells #[.slice none 0 0, .slice none 0 0, .slice none 0 0] 47)).drew.below hb12).outS o3 (fun b h => by rw [h]; exact hz11)
      have hb13 : Below w.heap.size w (((w12.setCell ⟨w11.heap.size, 0, none⟩ (.slice A12 2 c12)).setCell ⟨w11.heap.size, 1, none⟩ (.slice B12 2 d12)).setCell ⟨w11.heap.size, 2, none⟩ (.slice E12 2 f12)) := bel_outS o3 (fun b h => by rw [h]; exact hbw11.size) (by (repeat' (first | (with_reducible exact Below.refl _ _) | (with_reducible refine bel_alloc ?_ ?_ _) | (with_reducible refine Below.setCell ?_ ?_ _) | (with_reducible refine below_drewN ?_ _) | (with_reducible refine Below.drew ?_) | (with_reducible refine bel_step hb12 ?_ ?_) | (with_reducible refine bel_step hbw11 ?_ ?_) | (with_reducible exact Nat.le_refl _) | (with_reducible assumption) | omega | (simp only [World.size_alloc, World.size_setCell, World.size_drew]; omega) | (simp; omega) | (simp; done)))) (Nat.le_refl _)
      clear o3 Z0 Z1 Z2 Z0c Z1c Z2c Z0f Z1f Z2f
      generalize w11.heap.size = gX at *
      clear hA hB hE hA12 hB12 hE12 hS hT hU hb12 M0 M1 M2 M012 M112 M212 k3 k312 hz12 hM11 hg11 lM11 lx lk3
      rename_i hHeld
      clear hHeld
      generalize (((w12.setCell ⟨gX, 0, none⟩ (.slice A12 2 c12)).setCell ⟨gX, 1, none⟩ (.slice B12 2 d12)).setCell ⟨gX, 2, none⟩ (.slice E12 2 f12)) = w13 at *
      have lX := lt_of_cell' X0
      have lN := lt_of_cell' N0
      go_wp2_with fail
      refine (go2_i hRX HX.out false (by simp; omega) _ _ _ _ _ _ _ hAx hBx hEx).mono ?_
      rintro e w14 ⟨rfl, hb14⟩
      replace X0 := keep hb14 X0
      replace N0 := keep hb14 N0
      replace X1 := keep hb14 X1
      replace N1 := keep hb14 N1
      replace X2 := keep hb14 X2
      replace N2 := keep hb14 N2
      replace hAx := hAx.below hb14
      replace hAm := hAm.below hb14
      replace hBx := hBx.below hb14
      replace hBm := hBm.below hb14
      replace hEx := hEx.below hb14
      replace hEm := hEm.below hb14
      have hb14' : Below w.heap.size w w14 := by (repeat' (first | (with_reducible exact Below.refl _ _) | (with_reducible refine bel_alloc ?_ ?_ _) | (with_reducible refine Below.setCell ?_ ?_ _) | (with_reducible refine below_drewN ?_ _) | (with_reducible refine Below.drew ?_) | (with_reducible refine bel_step hb14 ?_ ?_) | (with_reducible refine bel_step hb13 ?_ ?_) | (with_reducible exact Nat.le_refl _) | (with_reducible assumption) | omega | (simp only [World.size_alloc, World.size_setCell, World.size_drew]; omega) | (simp; omega) | (simp; done)))
      clear hb14 hb13 lX lN
      have lX := lt_of_cell' X0
      have lN := lt_of_cell' N0
      go_wp2_with fail
      refine (fb2_i hRX HX.out _ _ _ _ _ _ _ hAx hBx hEx).mono ?_
      rintro e w15 ⟨rfl, hb15⟩
      replace N0 := keep hb15 N0
      replace N1 := keep hb15 N1
      replace N2 := keep hb15 N2
      replace hAm := hAm.below hb15
      replace hBm := hBm.below hb15
      replace hEm := hEm.below hb15
      clear lX lN X0 X1 X2 hAx hBx hEx
      have lN := lt_of_cell' N0
      go_wp2_with fail
      refine (HFB.out _ _ _ _ hAm hBm hEm).mono ?_
      rintro e w16 ⟨rfl, hb16⟩
      have hb16' : Below w.heap.size w w16 := by (repeat' (first | (with_reducible exact Below.refl _ _) | (with_reducible refine bel_alloc ?_ ?_ _) | (with_reducible refine Below.setCell ?_ ?_ _) | (with_reducible refine below_drewN ?_ _) | (with_reducible refine Below.drew ?_) | (with_reducible refine bel_step hb16 ?_ ?_) | (with_reducible refine bel_step hb15 ?_ ?_) | (with_reducible refine bel_step hb14' ?_ ?_) | (with_reducible exact Nat.le_refl _) | (with_reducible assumption) | omega | (simp only [World.size_alloc, World.size_setCell, World.size_drew]; omega) | (simp; omega) | (simp; done)))
      go_wp2_with fail
      go_ret
      exact ⟨rfl, by (repeat' (first | (with_reducible exact Below.refl _ _) | (with_reducible refine bel_alloc ?_ ?_ _) | (with_reducible refine Below.setCell ?_ ?_ _) | (with_reducible refine below_drewN ?_ _) | (with_reducible refine Below.drew ?_) | (with_reducible refine bel_step hb16' ?_ ?_) | (with_reducible exact Nat.le_refl _) | (with_reducible assumption) | omega | (simp only [World.size_alloc, World.size_setCell, World.size_drew]; omega) | (simp; omega) | (simp; done)))⟩
end Go.Proofs.Ytljholnnhogdkaa
