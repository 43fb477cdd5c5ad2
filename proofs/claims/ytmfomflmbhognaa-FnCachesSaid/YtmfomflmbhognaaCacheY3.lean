/- The walk of FnCaches. -/
import Derived.Test.YtmfomflmbhognaaPlaces
import Derived.Test.YtmfomflmbhognaaCacheDr
import Derived.Test.YtmfomflmbhognaaCacheKiy
import Derived.Test.YtmfomflmbhognaaCacheKin
import Derived.Test.YtmfomflmbhognaaCacheJi
import Derived.Test.YtmfomflmbhognaaCacheZ
import Derived.Deep.RegionLaw
import Derived.Deep.DrawnRows
import Derived.Lib.QuietBelow
namespace Go.Proofs.Ytmfomflmbhognaa
open Go.ChangeShapes Go.WideShapes Go.ChangeAt Go.RowKit
set_option linter.unusedVariables false
set_option linter.unusedSimpArgs false

set_option maxHeartbeats 2000000 in
theorem sameCache_same (A B : Option Addr) (c d n m : Nat) (xss : List (List Int)) (w : World) {B1 B2 : Nat} (hx : Rd2 iv w B1 A xss) (hy : Rd2 iv w B2 B xss) (hl : xss.length = n) (hn : Rows xss) :
    Calls Try.prog 38 #[.agg #[.slice A n c], .agg #[.slice B n d]] w fun e w' => e = .returned (.bool true) ∧ Below w.heap.size w w' := by
  have hn1 : n ≤ 1048576 := by rw [← hl]; exact hn.1
  have HM := Lib.hid hn.2
  have HL := Lib.hid hl
  clear hn hl
  go_enter Try.func38, Try.ntmps38
  go_wp2_with fail
  refine (sameLists_same _ _ _ _ _ _ _ ((hx.alloc _).alloc _) ((hy.alloc _).alloc _) HL.out hn1 HM.out).mono ?_
  rintro e w1 ⟨rfl, hb⟩
  go_wp2
  go_ret
  exact ⟨rfl, by (repeat' (first | (with_reducible exact Below.refl _ _) | (with_reducible refine bel_alloc ?_ ?_ _) | (with_reducible refine Below.setCell ?_ ?_ _) | (with_reducible refine below_drewN ?_ _) | (with_reducible refine Below.drew ?_) | (with_reducible refine bel_step hb ?_ ?_) | (with_reducible exact Nat.le_refl _) | (with_reducible assumption) | omega | (simp only [World.size_alloc, World.size_setCell, World.size_drew]; omega) | (simp; omega) | (simp; done)))⟩
set_option maxRecDepth 100000 in
set_option maxHeartbeats 16000000 in
theorem law_caches (A : Option Addr) (c : Nat) (bs : List Int) (w : World) (hr : Rd w w.heap.size A (bv bs)) (hbb : ∀ b ∈ bs, 0 ≤ b ∧ b ≤ 255) :
    Calls Try.prog 11 #[.slice A bs.length c] w fun e w' => e = .returned (.bool true) ∧ Below w.heap.size w w' := by
  by_cases hbig : (1048576 : Int) < bs.length
  · go_enter Try.func11, Try.ntmps11
    go_wp2_with (go_at_call 12; refine (big_any _ _ _ _).mono ?_; rintro e w1 ⟨rfl, rfl⟩)
    go_ret
    exact ⟨rfl, by (repeat' (first | (with_reducible exact Below.refl _ _) | (with_reducible refine bel_alloc ?_ ?_ _) | (with_reducible refine Below.setCell ?_ ?_ _) | (with_reducible refine below_drewN ?_ _) | (with_reducible refine Below.drew ?_) | (with_reducible exact Nat.le_refl _) | (with_reducible assumption) | omega | (simp only [World.size_alloc, World.size_setCell, World.size_drew]; omega) | (simp; omega) | (simp; done)))⟩
  · have hb : Bytes bs := ⟨by omega, hbb⟩
    go_enter Try.func11, Try.ntmps11
    go_wp2_with (go_at_call 12; refine (big_any _ _ _ _).mono ?_; rintro e w ⟨rfl, rfl⟩)
    refine (drawCache_any A c bs _ hb hr).mono ?_
    rintro e w1 ⟨A1, c1, xs, rfl, hok, hrc, hb1⟩
    have hz1 := hb1.size
    have hr1 := (hr.below hb1).alloc (.cells #[.slice A1 xs.length c1] 28)
    go_wp2_with fail
    refine (places_any _ A c bs _ hb hr1 (by simp; omega)).mono ?_
    rintro e w2 ⟨A2, c2, ps, rfl, hp, ho, hb2⟩
    obtain ⟨g, rfl, hg1, hg2, P, hP, hcell⟩ := places_at ho hp
    have q0 := hcell 0 (by omega)
    have q1 := hcell 1 (by omega)
    have hp0 := hP 0 (by omega)
    have hp1 := hP 1 (by omega)
    obtain ⟨p0, hp0e⟩ : ∃ p0, p0 = P 0 := ⟨_, rfl⟩
    obtain ⟨p1, hp1e⟩ : ∃ p1, p1 = P 1 := ⟨_, rfl⟩
    rw [← hp0e] at q0 hp0
    rw [← hp1e] at q1 hp1
    clear hp0e hp1e hcell hP ho hp
    have hz2 := hb2.size
    simp only [World.size_alloc] at hz2
    have k0 : w2.cell? ⟨w1.heap.size, 0, none⟩ = some (.slice A1 xs.length c1) := keep hb2 (by simp [go_sem])
    replace hrc := (hrc.alloc _).below hb2
    obtain ⟨κ, hκ, hm0⟩ : ∃ κ : Nat, κ < 4 ∧ p0.tmod 4 = κ := by
      rw [Int.tmod_eq_emod_of_nonneg hp0.1]
      exact ⟨(p0 % 4).toNat, by omega, by omega⟩
    obtain ⟨t, ht0, hm1⟩ : ∃ t, (0 ≤ t ∧ t ≤ 59) ∧ p1.tmod 60 = t := by
      rw [Int.tmod_eq_emod_of_nonneg hp1.1]
      exact ⟨p1 % 60, by omega, rfl⟩
    have hlq0 := lt_of_cell' q0
    have hbw2 : Below w.heap.size w w2 := by (repeat' (first | (with_reducible exact Below.refl _ _) | (with_reducible refine bel_alloc ?_ ?_ _) | (with_reducible refine Below.setCell ?_ ?_ _) | (with_reducible refine below_drewN ?_ _) | (with_reducible refine Below.drew ?_) | (with_reducible refine bel_step hb1 ?_ ?_) | (with_reducible refine bel_step hb2 ?_ ?_) | (with_reducible exact Nat.le_refl _) | (with_reducible assumption) | omega | (simp only [World.size_alloc, World.size_setCell, World.size_drew]; omega) | (simp; omega) | (simp; done)))
    -- the plain laws
    have hh := has_of hok hκ
    have hlt := hasL_lt hh
    have hRows := cOk_Rows hok
    have hadd := addr_ok hκ ht0.1 ht0.2
    have hcsb := cs_bd (κ : Int)
    have hp0' : 0 ≤ cs (κ : Int) * t := Int.mul_nonneg (by omega) (by omega)
    have hp1' : cs (κ : Int) * t ≤ 8 * 59 := Int.mul_le_mul (by omega) (by omega) (by omega) (by omega)
    have HCS := Lib.hid (fun W => classSize_s (κ : Int) W)
    obtain ⟨a, ha⟩ : ∃ a, a = cs (κ : Int) * t := ⟨_, rfl⟩
    rw [← ha] at hadd hp0' hp1'
    have HNO := Lib.hid (fun h => put_no hok hlt hadd h)
    have HCE := Lib.hid (fun h => put_cells (a := a) hok hlt h)
    have hbd := cCells_bd hok
    obtain ⟨mm, hmm⟩ : ∃ mm, mm = cs (κ : Int) := ⟨_, rfl⟩
    rw [← hmm] at ha HCS HCE hcsb
    have hw0 : IntKind.i64.wrap (mm * t) = a := by rw [← ha]; exact IntWalk.i64_in _ (by omega)
    have HA := Lib.hid ha
    have HK := Lib.hid hok
    have HH := Lib.hid hh
    obtain ⟨b, off, R, cr, hA1, -, hch, -⟩ := hrc.row hlt
    subst hA1
    have hκ4 : (κ : Int) < (xs.length : Int) := by omega
    clear hr1 hr ha hmm hadd hok hh
    have k0r := cell_regrown q1
    have cE := fun dd os => Calls.regrown_of ((HCS.out (Go.Sort.grow (redrawn w2 dd) os)).mono fun _ _ ⟨h1, h2⟩ => ⟨h1, by rw [h2]; exact Below.refl _ _⟩)
    go_wp2_with fail
    refine wp_region_quiet_below (by kernel_rfl) (by kernel_rfl) ?_
    repeat (first | go_big_quiet_step (first | (with_reducible exact cE _ _)) | quiet_step (first | (with_reducible exact cE _ _)))
    refine wpQuiet_nil ?_
    intro _ hw_q
    obtain ⟨⟨dq, osq⟩, hw_q'⟩ := hw_q
    subst hw_q'
    have hbq := below_regrown w2 dq osq
    generalize Go.Sort.grow (redrawn w2 dq) osq = wq at *
    replace k0 := keep hbq k0
    replace hch := keep hbq hch
    replace hrc := (hrc.lt.below hbq)
    have lk0 := lt_of_cell' k0
    have lch := lt_of_cell' hch
    have hbw3 : Below w.heap.size w wq := by (repeat' (first | (with_reducible exact Below.refl _ _) | (with_reducible refine bel_alloc ?_ ?_ _) | (with_reducible refine Below.setCell ?_ ?_ _) | (with_reducible refine below_drewN ?_ _) | (with_reducible refine Below.drew ?_) | (with_reducible refine bel_step hbw2 ?_ ?_) | (with_reducible refine bel_step hbq ?_ ?_) | (with_reducible exact Nat.le_refl _) | (with_reducible assumption) | omega | (simp only [World.size_alloc, World.size_setCell, World.size_drew]; omega) | (simp; omega) | (simp; done)))
    clear q0 q1 hm0 hm1 hlq0 k0r cE hw0 hbq hb2 hb1
    cases hok2 : cOkB (xs.set κ (xs[κ] ++ [a])) with
    | false =>
      have HO := Lib.hid (HNO.out hok2)
      have HPUT := Lib.hid (fun (A : Option Addr) (c : Nat) (W : World) (B : Nat) (h : Rd2 iv W B A xs) => cachePut_i_no2 A c xs κ (xs[κ]) a _ W h hRows HH.out hlt rfl rfl hok2)
      clear hok2 HCE
      go_wp2_with fail
      refine (HPUT.out _ _ _ _ hrc).mono ?_
      rintro e w4 ⟨A3, c3, S3, rfl, hW3, hN3, hb4⟩
      replace k0 := keep hb4 k0
      replace hch := keep hb4 hch
      replace hrc := hrc.lt.below hb4
      have hz4 := hb4.size
      clear lk0 lch
      have lk0 := lt_of_cell' k0
      have lch := lt_of_cell' hch
      go_wp2_with fail
      cases hhas : hasC xs a with
      | true =>
        have HHAS := Lib.hid (fun W B h => show Calls _ _ _ _ _ by have := cacheHas_i (some ⟨b, off, none⟩) c1 xs a W (B := B) h hRows; rw [hhas] at this; exact this)
        clear hhas
        refine (HHAS.out _ _ (hrc.alloc _)).mono ?_
        rintro e w5 ⟨rfl, hb5⟩
        have j0 : w5.cell? ⟨w4.heap.size, 0, none⟩ = some (.slice A3 xs.length c3) := keep hb5 (by simp [go_sem])
        replace k0 := keep hb5 (cell_al k0 _)
        replace hrc := (hrc.alloc _).lt.below hb5
        have hW5 := (hW3.alloc (.cells #[.slice A3 xs.length c3] 28)).below hb5
        clear lk0 lch
        have lk0 := lt_of_cell' k0
        have lj0 := lt_of_cell' j0
        go_wp2_with fail
        refine (sameCache_same _ _ _ _ _ xs.length xs _ hW5.rd hrc rfl hRows).mono ?_
        rintro e w6 ⟨rfl, hb6⟩
        go_wp2
        go_ret
        exact ⟨rfl, by (repeat' (first | (with_reducible exact Below.refl _ _) | (with_reducible refine bel_alloc ?_ ?_ _) | (with_reducible refine Below.setCell ?_ ?_ _) | (with_reducible refine below_drewN ?_ _) | (with_reducible refine Below.drew ?_) | (with_reducible refine bel_step hbw3 ?_ ?_) | (with_reducible refine bel_step hb4 ?_ ?_) | (with_reducible refine bel_step hb5 ?_ ?_) | (with_reducible refine bel_step hb6 ?_ ?_) | (with_reducible exact Nat.le_refl _) | (with_reducible assumption) | omega | (simp only [World.size_alloc, World.size_setCell, World.size_drew]; omega) | (simp; omega) | (simp; done)))⟩
      | false =>
        have h8 : xs[κ].length = 8 := by
          rcases HO.out with h | h
          · rw [hhas] at h; cases h
          · exact h
        have h8b : ((xs[κ].length : Int) == 8) = true := by simp; omega
        have HHAS := Lib.hid (fun W B h => show Calls _ _ _ _ _ by have := cacheHas_i (some ⟨b, off, none⟩) c1 xs a W (B := B) h hRows; rw [hhas] at this; exact this)
        clear hhas h8
        generalize xs[κ].length = ln at *
        refine (HHAS.out _ _ (hrc.alloc _)).mono ?_
        rintro e w5 ⟨rfl, hb5⟩
        have j0 : w5.cell? ⟨w4.heap.size, 0, none⟩ = some (.slice A3 xs.length c3) := keep hb5 (by simp [go_sem])
        replace k0 := keep hb5 (cell_al k0 _)
        replace hch := keep hb5 (cell_al hch _)
        replace hrc := (hrc.alloc _).lt.below hb5
        have hW5 := (hW3.alloc (.cells #[.slice A3 xs.length c3] 28)).below hb5
        clear lk0 lch
        have lk0 := lt_of_cell' k0
        have lch := lt_of_cell' hch
        have lj0 := lt_of_cell' j0
        go_wp2_with fail
        refine (sameCache_same _ _ _ _ _ xs.length xs _ hW5.rd hrc rfl hRows).mono ?_
        rintro e w6 ⟨rfl, hb6⟩
        go_wp2
        go_ret
        exact ⟨rfl, by (repeat' (first | (with_reducible exact Below.refl _ _) | (with_reducible refine bel_alloc ?_ ?_ _) | (with_reducible refine Below.setCell ?_ ?_ _) | (with_reducible refine below_drewN ?_ _) | (with_reducible refine Below.drew ?_) | (with_reducible refine bel_step hbw3 ?_ ?_) | (with_reducible refine bel_step hb4 ?_ ?_) | (with_reducible refine bel_step hb5 ?_ ?_) | (with_reducible refine bel_step hb6 ?_ ?_) | (with_reducible exact Nat.le_refl _) | (with_reducible assumption) | omega | (simp only [World.size_alloc, World.size_setCell, World.size_drew]; omega) | (simp; omega) | (simp; done)))⟩
    | true =>
      obtain ⟨ys, hys⟩ : ∃ ys, ys = xs.set κ (xs[κ] ++ [a]) := ⟨_, rfl⟩
      have HPUT := Lib.hid (fun (A : Option Addr) (c : Nat) (W : World) (B : Nat) (h : Rd2 iv W B A xs) => cachePut_i_yes A c xs κ (xs[κ]) a _ W h hRows HH.out hlt rfl rfl hok2)
      have hce := HCE.out hok2
      have hback := put_back (a := a) hlt
      have hhas := put_has (a := a) hlt
      have hyl : ys.length = xs.length := by rw [hys, List.length_set]
      have hky : κ < ys.length := by omega
      have hyk : ys[κ] = xs[κ] ++ [a] := by subst hys; rw [List.getElem_set_self]
      rw [← hys] at hok2 HPUT hce hback hhas
      have hyr := cOk_Rows hok2
      have hyh := has_of hok2 hκ
      have htw := put_twice hky hyk
      have HTW := Lib.hid (fun (A : Option Addr) (c : Nat) (W : World) (B : Nat) (h : Rd2 iv W B A ys) => cachePut_i_no2 A c ys κ (ys[κ]) a _ W h hyr hyh hky rfl rfl htw)
      have HTK := Lib.hid (fun (A : Option Addr) (c : Nat) (W : World) (B : Nat) (h : Rd2 iv W B A ys) => show Calls _ _ _ _ (MadeTake xs a true W) by
        have h1 := cacheTake_i_yes A c ys κ (xs[κ].length) (xs[κ] ++ [a]) a W h hyr hyh hky hyk.symm (by simp) (by simp)
        rw [hback] at h1
        exact h1)
      have HOKC := Lib.hid (fun (A : Option Addr) (c : Nat) (W : World) (B : Nat) (h : Rd2 iv W B A ys) => cacheOk_i A c ys W h hyr true hok2)
      have HHAS := Lib.hid (fun (A : Option Addr) (c : Nat) (W : World) (B : Nat) (h : Rd2 iv W B A ys) => show Calls _ _ _ _ (fun e w' => e = .returned (.bool true) ∧ Below W.heap.size W w') by have h1 := cacheHas_i A c ys a W h hyr; rw [hhas] at h1; exact h1)
      have HC1 := Lib.hid (fun (A : Option Addr) (c : Nat) (W : World) (B : Nat) (h : Rd2 iv W B A ys) => cacheCells_i A c ys W h hyr)
      have HC2 := Lib.hid (fun (A : Option Addr) (c : Nat) (W : World) (B : Nat) (h : Rd2 iv W B A xs) => cacheCells_i A c xs W h hRows)
      have hbd2 := cCells_bd hok2
      generalize cCells ys = s1 at *
      generalize cCells xs = s2 at *
      have hw1 : IntKind.i64.wrap (s2 + mm) = s2 + mm := IntWalk.i64_in _ (by omega)
      have hsum : (s1 == s2 + mm) = true := by simp [hce]
      have haa : (a == a) = true := by simp
      have HXL := Lib.hid hyl
      clear hce hback hhas hyl hyk hok2 hyh htw hys HNO HCE
      go_wp2_with fail
      refine (HPUT.out _ _ _ _ hrc).mono ?_
      rintro e w4 ⟨A3, c3, S3, rfl, hW3, hN3, hb4⟩
      replace k0 := keep hb4 k0
      replace hrc := hrc.lt.below hb4
      have hz4 := hb4.size
      clear lk0 lch hch
      have lk0 := lt_of_cell' k0
      go_wp2_with fail
      refine (HTW.out _ _ _ _ (hW3.alloc _).rd).mono ?_
      rintro e w5 ⟨A5, c5, S5, rfl, -, -, hb5⟩
      have j0 : w5.cell? ⟨w4.heap.size, 0, none⟩ = some (.slice A3 ys.length c3) := keep hb5 (by simp [go_sem])
      replace k0 := keep hb5 (cell_al k0 _)
      replace hrc := (hrc.alloc _).lt.below hb5
      have hW5 := (hW3.alloc (.cells #[.slice A3 ys.length c3] 28)).below hb5
      clear lk0
      have lk0 := lt_of_cell' k0
      have lj0 := lt_of_cell' j0
      go_wp2_with fail
      refine (HTK.out _ _ _ _ (hW5.alloc _).rd).mono ?_
      rintro e w6 ⟨A6, c6, S6, rfl, hW6, hN6, hb6⟩
      replace k0 := keep hb6 (cell_al k0 _)
      replace j0 := keep hb6 (cell_al j0 _)
      replace hrc := ((hrc.alloc _).lt.below hb6).alloc (.cells #[.slice A6 xs.length c6] 28)
      replace hW5 := ((hW5.alloc (.cells #[.slice A5 ys.length c5] 28)).below hb6).alloc (.cells #[.slice A6 xs.length c6] 28)
      replace hW6 := hW6.alloc (.cells #[.slice A6 xs.length c6] 28)
      replace k0 := cell_al k0 (.cells #[.slice A6 xs.length c6] 28)
      replace j0 := cell_al j0 (.cells #[.slice A6 xs.length c6] 28)
      have l0 : (w6.alloc (.cells #[.slice A6 xs.length c6] 28)).cell? ⟨w6.heap.size, 0, none⟩ = some (.slice A6 xs.length c6) := by simp [go_sem]
      have hbw7 : Below w.heap.size w (w6.alloc (.cells #[.slice A6 xs.length c6] 28)) := by (repeat' (first | (with_reducible exact Below.refl _ _) | (with_reducible refine bel_alloc ?_ ?_ _) | (with_reducible refine Below.setCell ?_ ?_ _) | (with_reducible refine below_drewN ?_ _) | (with_reducible refine Below.drew ?_) | (with_reducible refine bel_step hbw3 ?_ ?_) | (with_reducible refine bel_step hb4 ?_ ?_) | (with_reducible refine bel_step hb5 ?_ ?_) | (with_reducible refine bel_step hb6 ?_ ?_) | (with_reducible exact Nat.le_refl _) | (with_reducible assumption) | omega | (simp only [World.size_alloc, World.size_setCell, World.size_drew]; omega) | (simp; omega) | (simp; done)))
      clear lk0 lj0 hb4 hb5 hb6 hW3 hN3 hN6
      go_wp2_with fail
      generalize w6.alloc (.cells #[.slice A6 xs.length c6] 28) = w7 at *
      have r0 := cell_regrown k0
      have r1 := cell_regrown j0
      have r2 := cell_regrown l0
      have e1 := fun dd os => Calls.regrown_of (sameCache_same A6 (some ⟨b, off, none⟩) c6 c1 xs.length xs.length xs (Go.Sort.grow (redrawn w7 dd) os) (hW6.rd.below (below_regrown w7 dd os)) (hrc.lt.below (below_regrown w7 dd os)) rfl hRows)
      have e2 := fun dd os => Calls.regrown_of (HOKC.out A3 c3 (Go.Sort.grow (redrawn w7 dd) os) _ (hW5.rd.below (below_regrown w7 dd os)))
      have e3 := fun dd os => Calls.regrown_of (HHAS.out A3 c3 (Go.Sort.grow (redrawn w7 dd) os) _ (hW5.rd.below (below_regrown w7 dd os)))
      have e4 := fun dd os => Calls.regrown_of (HC1.out A3 c3 (Go.Sort.grow (redrawn w7 dd) os) _ (hW5.rd.below (below_regrown w7 dd os)))
      have e5 := fun dd os => Calls.regrown_of (HC2.out (some ⟨b, off, none⟩) c1 (Go.Sort.grow (redrawn w7 dd) os) _ (hrc.lt.below (below_regrown w7 dd os)))
      have e6 := fun dd os => Calls.regrown_of ((HCS.out (Go.Sort.grow (redrawn w7 dd) os)).mono fun _ _ ⟨h1, h2⟩ => ⟨h1, by rw [h2]; exact Below.refl _ _⟩)
      refine wp_region_quiet_below (by kernel_rfl) (by kernel_rfl) ?_
      repeat (first | go_big_quiet_step (first | (with_reducible exact e1 _ _) | (with_reducible exact e2 _ _) | (with_reducible exact e3 _ _) | (with_reducible exact e4 _ _) | (with_reducible exact e5 _ _) | (with_reducible exact e6 _ _)) | quiet_step (first | (with_reducible exact e1 _ _) | (with_reducible exact e2 _ _) | (with_reducible exact e3 _ _) | (with_reducible exact e4 _ _) | (with_reducible exact e5 _ _) | (with_reducible exact e6 _ _)))
      refine wpQuiet_nil ?_
      intro _ hw_q
      obtain ⟨⟨dq, osq⟩, hw_q'⟩ := hw_q
      subst hw_q'
      have hbq := below_regrown w7 dq osq
      generalize Go.Sort.grow (redrawn w7 dq) osq = wq at *
      go_wp2
      go_ret
      exact ⟨rfl, bel_step hbq hbw7 (Nat.le_refl _)⟩
end Go.Proofs.Ytmfomflmbhognaa
