/- The walk of FnTrimmed. -/
import Derived.Test.YtoidaeehdekaoaaPlaces
import Derived.Test.YtoidaeehdekaoaaLargeE
import Derived.Lib.QuietBelow
namespace Go.Proofs.Ytoidaeehdekaoaa
open Go.ChangeShapes Go.WideShapes Go.ChangeAt Go.RowKit
set_option linter.unusedVariables false

theorem trim_some (P N S Z : Int) (h1 : lOk P N S = true) (h2 : btw Z 9 S = true) : ∃ A L : Int, pagesFor Z + L = N ∧ 0 ≤ L ∧ 0 ≤ A ∧ A ≤ 64 ∧ (L = 0 ∨ A = P + pagesFor Z) ∧
    ∀ W, Calls Try.prog 26 #[.agg #[.int .i64 P, .int .i64 N, .int .i64 S], .int .i64 Z] W fun e w' => e = .returned (.tuple #[.agg #[.int .i64 P, .int .i64 (pagesFor Z), .int .i64 Z], .agg #[.int .i64 A, .int .i64 L], .bool true]) ∧ Below W.heap.size W w' := by
  have hz := of_btw h2
  have hy := lOk_yes h1
  have hm := pagesFor_mono hz.1 hz.2 hy.2.1
  have hN : pagesFor S = N := by rw [pagesFor_in hy.1 hy.2.1]; omega
  by_cases h3 : pagesFor Z = N
  · refine ⟨0, 0, by omega, by omega, by omega, by omega, .inl rfl, fun W => ?_⟩
    rw [h3]
    exact largeTrim_i_eq _ _ _ _ W h1 h2 h3
  · exact ⟨P + pagesFor Z, N - pagesFor Z, by omega, by omega, by omega, by omega, .inr rfl, fun W => largeTrim_i_lt _ _ _ _ _ W h1 h2 rfl (by omega)⟩

set_option maxHeartbeats 8000000 in
theorem law_trimmed (A : Option Addr) (c : Nat) (bs : List Int) (w : World) (hr : Rd w w.heap.size A (bv bs)) (hbb : ∀ b ∈ bs, 0 ≤ b ∧ b ≤ 255) :
    Calls Try.prog 10 #[.slice A bs.length c] w fun e w' => e = .returned (.bool true) ∧ Below w.heap.size w w' := by
  by_cases hbig : (1048576 : Int) < bs.length
  · go_enter Try.func10, Try.ntmps10
    go_wp2_with (go_at_call 19; refine (big_any _ _ _ _).mono ?_; rintro e w ⟨rfl, rfl⟩)
    go_ret
    exact ⟨rfl, by (repeat' (first | (with_reducible exact Below.refl _ _) | (with_reducible refine bel_alloc ?_ ?_ _) | (with_reducible refine Below.setCell ?_ ?_ _) | (with_reducible refine below_drewN ?_ _) | (with_reducible refine Below.drew ?_) | (with_reducible exact Nat.le_refl _) | (with_reducible assumption) | omega | (simp only [World.size_alloc, World.size_setCell, World.size_drew]; omega) | (simp; omega) | (simp; done)))⟩
  · have hb : Bytes bs := ⟨by omega, hbb⟩
    go_enter Try.func10, Try.ntmps10
    go_wp2_with (go_at_call 19; refine (big_any _ _ _ _).mono ?_; rintro e w ⟨rfl, rfl⟩)
    refine (places_any _ A c bs _ hb hr (Nat.le_refl _)).mono ?_
    rintro e w1 ⟨A1, c1, xs, rfl, hp, ho, hb1⟩
    obtain ⟨g, rfl, hg1, hg2, P, hP, hcell⟩ := places_at ho hp
    have q0 := hcell 0 (by omega)
    have q1 := hcell 1 (by omega)
    have q2 := hcell 2 (by omega)
    have hp0 := hP 0 (by omega)
    have hp1 := hP 1 (by omega)
    have hp2 := hP 2 (by omega)
    generalize P 0 = p0 at *
    generalize P 1 = p1 at *
    generalize P 2 = p2 at *
    clear hcell hP ho
    have hSb : 9 ≤ 9 + p0 % 80 ∧ 9 + p0 % 80 ≤ 88 := by omega
    have hPb : 0 ≤ p1 % 10 ∧ p1 % 10 ≤ 9 := by omega
    go_wp2_with fail
    generalize 9 + p0 % 80 = S at *
    generalize p1 % 10 = Pg at *
    have hN := pagesFor_in (S := S) (by omega) (by omega)
    have hk : lOk Pg (pagesFor S) S = true := by simp [lOk, hN]; omega
    refine (largeNew_i_yes Pg S _ hk).mono ?_
    rintro e w2 ⟨rfl, hb2⟩
    have hNb : 1 ≤ pagesFor S ∧ pagesFor S ≤ 6 := by omega
    generalize hNe : pagesFor S = N at *
    clear hN hNe
    have q2 := keep hb2 q2
    have hgl := lt_of_cell' q2
    have hne : (S - 8 == 0) = false := by simp; omega
    have hZ : 9 ≤ 9 + p2 % (S - 8) ∧ 9 + p2 % (S - 8) ≤ S := by
      have h1 := Int.emod_nonneg p2 (show S - 8 ≠ 0 by omega)
      have h2 := Int.emod_lt_of_pos p2 (show 0 < S - 8 by omega)
      omega
    clear q0 q1
    go_wp2_with fail
    generalize 9 + p2 % (S - 8) = Z at *
    have hbz : btw Z 9 S = true := btw_t hZ.1 hZ.2
    obtain ⟨Ar, L, hL, hL0, hA0, hA1, hAL, HT⟩ := trim_some Pg N S Z hk hbz
    refine (HT _).mono ?_
    rintro e w3 ⟨rfl, hb3⟩
    clear HT
    have hkz : lOk Pg (pagesFor Z) Z = true := by
      have h1 := pagesFor_in (S := Z) (by omega) (by omega)
      have hz2 := of_btw hbz
      have hk2 := lOk_yes hk
      simp [lOk]
      omega
    have hnz := pagesFor_bd Z
    have hPZ := Lib.hid (fun W => pages_i Z W)
    generalize pagesFor Z = nz at *
    have b0 : w3.cell? ⟨w2.heap.size, 0, none⟩ = some (.int .i64 Pg) := keep hb3 (by simp [go_sem])
    have b1 : w3.cell? ⟨w2.heap.size, 1, none⟩ = some (.int .i64 N) := keep hb3 (by simp [go_sem])
    have b2 : w3.cell? ⟨w2.heap.size, 2, none⟩ = some (.int .i64 S) := keep hb3 (by simp [go_sem])
    have hbl := lt_of_cell' b0
    go_wp2_with fail
    have BB := bel_alloc (bel_alloc (bel_step hb3 (bel_alloc (bel_step hb2 hb1 (Nat.le_refl _)) (Nat.le_refl _) (.cells #[.int .i64 Pg, .int .i64 N, .int .i64 S] 28)) (Nat.le_refl _)) (Nat.le_refl _) (.cells #[.int .i64 Pg, .int .i64 nz, .int .i64 Z] 28)) (Nat.le_refl _) (.cells #[.int .i64 Ar, .int .i64 L] 43)
    have X0 : ((w3.alloc (.cells #[.int .i64 Pg, .int .i64 nz, .int .i64 Z] 28)).alloc (.cells #[.int .i64 Ar, .int .i64 L] 43)).cell? ⟨w3.heap.size, 0, none⟩ = some (.int .i64 Pg) := by simp [go_sem]
    have X1 : ((w3.alloc (.cells #[.int .i64 Pg, .int .i64 nz, .int .i64 Z] 28)).alloc (.cells #[.int .i64 Ar, .int .i64 L] 43)).cell? ⟨w3.heap.size, 1, none⟩ = some (.int .i64 nz) := by simp [go_sem]
    have X2 : ((w3.alloc (.cells #[.int .i64 Pg, .int .i64 nz, .int .i64 Z] 28)).alloc (.cells #[.int .i64 Ar, .int .i64 L] 43)).cell? ⟨w3.heap.size, 2, none⟩ = some (.int .i64 Z) := by simp [go_sem]
    have Y0 : ((w3.alloc (.cells #[.int .i64 Pg, .int .i64 nz, .int .i64 Z] 28)).alloc (.cells #[.int .i64 Ar, .int .i64 L] 43)).cell? ⟨w3.heap.size + 1, 0, none⟩ = some (.int .i64 Ar) := by simp [go_sem]
    have Y1 : ((w3.alloc (.cells #[.int .i64 Pg, .int .i64 nz, .int .i64 Z] 28)).alloc (.cells #[.int .i64 Ar, .int .i64 L] 43)).cell? ⟨w3.heap.size + 1, 1, none⟩ = some (.int .i64 L) := by simp [go_sem]
    replace b0 := cell_al (cell_al b0 (.cells #[.int .i64 Pg, .int .i64 nz, .int .i64 Z] 28)) (.cells #[.int .i64 Ar, .int .i64 L] 43)
    replace b1 := cell_al (cell_al b1 (.cells #[.int .i64 Pg, .int .i64 nz, .int .i64 Z] 28)) (.cells #[.int .i64 Ar, .int .i64 L] 43)
    clear b2 hb1 hb2 hb3 q2 hgl hbl
    generalize (w3.alloc (.cells #[.int .i64 Pg, .int .i64 nz, .int .i64 Z] 28)).alloc (.cells #[.int .i64 Ar, .int .i64 L] 43) = W at *
    have k0 := cell_regrown b0
    have k1 := cell_regrown b1
    have k2 := cell_regrown X0
    have k3 := cell_regrown X1
    have k4 := cell_regrown X2
    have k5 := cell_regrown Y0
    have k6 := cell_regrown Y1
    have cO : ∀ d os, Calls Try.prog 16 #[.agg #[.int .i64 Pg, .int .i64 nz, .int .i64 Z]] (Go.Sort.grow (redrawn W d) os) fun e w'' => e = .returned (.bool true) ∧ ∃ p : Regrown, w'' = Go.Sort.grow (redrawn W p.d) p.os := fun d os => Calls.regrown_of (by
      have h := largeOk_i Pg nz Z (Go.Sort.grow (redrawn W d) os)
      rw [hkz] at h
      exact h)
    have cP : ∀ d os, Calls Try.prog 27 #[.int .i64 Z] (Go.Sort.grow (redrawn W d) os) fun e w'' => e = .returned (.int .i64 nz) ∧ ∃ p : Regrown, w'' = Go.Sort.grow (redrawn W p.d) p.os := fun d os => Calls.regrown_of ((hPZ.out _).mono fun _ _ ⟨h1, h2⟩ => ⟨h1, by rw [h2]; exact Below.refl _ _⟩)
    have n1 : IntKind.i64.wrap (nz + L) = nz + L := IntWalk.i64_in _ (by omega)
    have n2 : (nz + L == N) = true := by simp; omega
    have n3 : IntKind.i64.wrap (Pg + nz) = Pg + nz := IntWalk.i64_in _ (by omega)
    by_cases hL1 : L = 0
    · subst hL1
      have n2' : (nz == N) = true := by simpa using n2
      have n1' : IntKind.i64.wrap nz = nz := IntWalk.i64_in _ (by omega)
      clear hL hAL n1 n2
      refine wp_region_quiet_below (by kernel_rfl) (by kernel_rfl) ?_
      repeat (first | go_big_quiet_step (first | (with_reducible exact cO _ _) | (with_reducible exact cP _ _)) | quiet_step (first | (with_reducible exact cO _ _) | (with_reducible exact cP _ _)))
      refine wpQuiet_nil ?_
      intro _ hw_q
      obtain ⟨⟨dq, osq⟩, hw_q'⟩ := hw_q
      subst hw_q'
      have hbq := below_regrown W dq osq
      generalize Go.Sort.grow (redrawn W dq) osq = wq at *
      go_wp2
      go_ret
      exact ⟨rfl, bel_step hbq BB (Nat.le_refl _)⟩
    · have n4 : (L == 0) = false := by simp [hL1]
      have n6 : decide (L = 0) = false := by simp [hL1]
      have n5 : (Ar == Pg + nz) = true := by simp; omega
      clear hL hL1 hAL
      refine wp_region_quiet_below (by kernel_rfl) (by kernel_rfl) ?_
      repeat (first | go_big_quiet_step (first | (with_reducible exact cO _ _) | (with_reducible exact cP _ _)) | quiet_step (first | (with_reducible exact cO _ _) | (with_reducible exact cP _ _)))
      refine wpQuiet_nil ?_
      intro _ hw_q
      obtain ⟨⟨dq, osq⟩, hw_q'⟩ := hw_q
      subst hw_q'
      have hbq := below_regrown W dq osq
      generalize Go.Sort.grow (redrawn W dq) osq = wq at *
      go_wp2
      go_ret
      exact ⟨rfl, bel_step hbq BB (Nat.le_refl _)⟩
end Go.Proofs.Ytoidaeehdekaoaa
