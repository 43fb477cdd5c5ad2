/- A drawn cache is valid. -/
import Derived.Test.YtmfomflmbhognaaCacheN
import Derived.Test.YtmfomflmbhognaaCacheE
import Derived.Test.YtmfomflmbhognaaCacheKsy
import Derived.Test.YtmfomflmbhognaaCacheKsn
import Derived.Test.YtmfomflmbhognaaDrawO
import Derived.Deep.RegionLaw
namespace Go.Proofs.Ytmfomflmbhognaa
open Go.ChangeShapes Go.WideShapes Go.ChangeAt Go.RowKit
set_option linter.unusedVariables false
set_option linter.unusedSimpArgs false

theorem cOk_Rows {xss : List (List Int)} (h : cOkB xss = true) : Rows xss := by
  obtain ⟨h4, h8⟩ := cOk_rows h
  refine ⟨by omega, fun l hl => ?_⟩
  obtain ⟨i, hi, rfl⟩ := List.getElem_of_mem hl
  have := h8 i hi
  omega
theorem has_of {xss : List (List Int)} (h : cOkB xss = true) {κ : Nat} (hκ : κ < 4) : hasL xss κ = true := by
  simp only [hasL, h, Bool.and_true]
  exact btw_t (by omega) (by omega)
theorem Wr2.cur {α : Type} {enc : List α → List Value} {g : Nat} {w w1 : World} {S : Nat → Prop} {A : Option Addr} {xss : List (List α)} (h : Wr2 enc w S A xss) (ho : Out g (g + 1) w w1) (hS : ∀ b, S b → g < b) : Wr2 enc w1 S A xss :=
  h.outS ho.setOf (fun b hb e => by have := hS b hb; have e2 : b = g := e; omega)
def PutRes (w : World) (e : Ending) (w' : World) : Prop :=
  ∃ (A : Option Addr) (c : Nat) (S : Nat → Prop) (ys : List (List Int)) (ok : Bool), e = .returned (.tuple #[.agg #[.slice A ys.length c], .bool ok]) ∧ cOkB ys = true ∧ Wr2 iv w' S A ys ∧ New S w w' ∧ Below w.heap.size w w'
theorem cachePut_draw (A : Option Addr) (c : Nat) (xs : List (List Int)) (κ : Nat) (a : Int) (w : World) {B : Nat} (hr : Rd2 iv w B A xs) (hk : cOkB xs = true) (hκ : κ < 4) :
    Calls Try.prog 36 #[.agg #[.slice A xs.length c], .int .i64 κ, .int .i64 a] w (PutRes w) := by
  have hl := has_of hk hκ
  have hlt := hasL_lt hl
  cases hok : cOkB (xs.set κ (xs[κ] ++ [a])) with
  | false =>
    refine (cachePut_s_no2 A c xs κ (xs[κ]) a _ w hr (cOk_Rows hk) hl hlt rfl rfl hok).mono ?_
    rintro e w' ⟨A1, c1, S, rfl, hW, hN, hb⟩
    exact ⟨A1, c1, S, xs, _, rfl, hk, hW, hN, hb⟩
  | true =>
    refine (cachePut_s_yes A c xs κ (xs[κ]) a _ w hr (cOk_Rows hk) hl hlt rfl rfl hok).mono ?_
    rintro e w' ⟨A1, c1, S, rfl, hW, hN, hb⟩
    exact ⟨A1, c1, S, _, _, rfl, hok, hW, hN, hb⟩
def CCaseOut (g : Nat) (w : World) (e : Ending) (w' : World) : Prop :=
  ∃ (A1 : Option Addr) (c1 : Nat) (xs : List (List Int)) (S : Nat → Prop), e = .returned (.agg #[.slice A1 xs.length c1]) ∧ cOkB xs = true ∧ Wr2 iv w' S A1 xs ∧ (∀ b, S b → w.heap.size < b) ∧ Out g (g + 1) w w'
set_option maxRecDepth 100000 in
set_option maxHeartbeats 8000000 in
theorem l17Case_any (g B : Nat) (A : Option Addr) (c : Nat) (bs : List Int) (w : World) (hb : Bytes bs) (hB : B ≤ g) (hc : Cur w g B A c bs) :
    Calls Try.prog 54 #[.pointer (some ⟨g, 0, none⟩)] w (CCaseOut g w) := by
  have hgl := hc.lt
  go_enter Try.func54, Try.ntmps54
  go_wp2_with fail
  refine (cacheNew_s _).mono ?_
  rintro e w2 ⟨A2, c2, S2, rfl, hcap2, hW2, hN2, hb2⟩
  have r0 : Cl w2 ⟨w.heap.size, 0, none⟩ (.slice none 0 0) := Cl.below (Cl.new rfl rfl) hb2
  have hc1 := (hc.alloc (.cells #[.slice none 0 0] 28)).below hb2
  have hor : Out g (g + 1) w w2 := (Out.refl.alloc _).below hb2
  have hz2 := hb2.size
  simp only [World.size_alloc] at hz2
  have HK := Lib.hid (show cOkB (List.replicate 4 ([] : List Int)) = true by decide +kernel)
  obtain ⟨gq, hgq⟩ : ∃ gq, gq = w2.heap.size := ⟨_, rfl⟩
  have HGQ := Lib.hid hgq
  have hgq1 : w.heap.size < gq := by omega
  clear hgq hc
  have hS2 : ∀ b, S2 b → w.heap.size < b ∧ b ≠ gq := fun b h => by have := hN2 b h; have := HGQ.out; simp only [World.size_alloc] at *; omega
  have hl4 : (List.replicate 4 ([] : List Int)).length = 4 := rfl
  have g0 : Cl (w2.alloc (.cells #[.slice A2 4 c2] 28)) ⟨gq, 0, none⟩ (.slice A2 4 c2) := Cl.new HGQ.out rfl
  simp only [hl4] at *
  go_wp2
  simp only [← HGQ.out]
  go_loopw [4] (fun v wr => ∃ (k : Nat) (A1 : Option Addr) (c1 : Nat) (S : Nat → Prop) (xs : List (List Int)), k ≤ 20 ∧ v = .int .i64 k ∧ cOkB xs = true ∧ Cl wr ⟨gq, 0, none⟩ (.slice A1 xs.length c1) ∧ Cl wr ⟨w.heap.size, 0, none⟩ (.slice none 0 0) ∧ Wr2 iv wr S A1 xs ∧ (∀ b, S b → w.heap.size < b ∧ b ≠ gq) ∧ Cur wr g B A c bs ∧ Out g (g + 1) w wr) (fun v _ => 20 - (intOf v).toNat)
  case atStart => exact ⟨0, A2, c2, S2, List.replicate 4 [], Nat.zero_le _, rfl, HK.out, g0, r0.alloc _, hW2.alloc _, hS2, hc1.alloc _, hor.alloc _⟩
  case round =>
    clear g0 r0 hW2 hc1 hor HK hz2 hN2 hS2 hcap2
    obtain ⟨k, A1, c1, S, xs, hk, rfl, hok, g0, r0, hW, hS, hcr, hor⟩ := hrel
    have HK := Lib.hid hok
    clear hok
    have hzr := hor.size
    go_wp2_with fail
    refine (l01Below_any 20 g B A c bs _ hb hB hcr (by omega)).mono ?_
    rintro e w3 ⟨y, rfl, hy0, hy1, -, hc3, ho3⟩
    have hy1 := hy1 (by omega)
    replace hW := hW.cur ho3 (fun b h => by have := hS b h; omega)
    replace g0 := g0.cur ho3 (by simp; omega)
    replace r0 := r0.cur ho3 (by simp; omega)
    have hor3 := hor.trans ho3
    have hz3 := ho3.size
    clear hcr ho3 hor
    by_cases hlt : (k : Int) < y
    · go_wp2_with fail
      refine (l01Below_any 4 g B A c bs _ hb hB hc3 (by omega)).mono ?_
      rintro e w4 ⟨z, rfl, hz0, hz4, -, hc4, ho4⟩
      have hz5 := hz4 (by omega)
      obtain ⟨κ, rfl⟩ := Int.eq_ofNat_of_zero_le hz0
      have hκ : κ < 4 := by omega
      replace hW := hW.cur ho4 (fun b h => by have := hS b h; omega)
      replace g0 := g0.cur ho4 (by simp; omega)
      replace r0 := r0.cur ho4 (by simp; omega)
      have hor4 := hor3.trans ho4
      have hzw := ho4.size
      clear hc3 ho4 hor3 hz4
      have hcsb := cs_bd (κ : Int)
      have HCS := Lib.hid (fun W => classSize_s (κ : Int) W)
      generalize cs (κ : Int) = mm at *
      have hcd : Cur w4.drew g B A c bs := hc4
      have g0d : w4.drew.cell? ⟨gq, 0, none⟩ = some (.slice A1 xs.length c1) := g0.1
      replace g0 : Cl w4.drew ⟨gq, 0, none⟩ (.slice A1 xs.length c1) := g0
      replace r0 : Cl w4.drew ⟨w.heap.size, 0, none⟩ (.slice none 0 0) := r0
      replace hW := hW.drew
      replace hor4 : Out g (g + 1) w w4.drew := hor4.drewN 1
      go_wp2_with fail
      go_region_law (first | (go_simp; go_at_call 37; refine (HCS.out _).mono ?_; rintro e wz ⟨rfl, hwz⟩; replace hwz := hwz.symm; subst hwz) | (go_simp; go_at_call 40; (with_reducible refine (l01Below_any 20 g B A c bs _ hb hB hcd (by omega)).mono ?_); rintro e w5 ⟨x5, rfl, h50, h51, -, hc5, ho5⟩; replace h51 := h51 (by omega); have g05 := g0.cur ho5 (by simp; omega); have r05 := r0.cur ho5 (by simp; omega); have hW5 := hW.cur ho5 (fun b h => by have := hS b h; omega); have g05c := g05.1; have hor5 := hor4.trans ho5; have hp0 : 0 ≤ mm * x5 := Int.mul_nonneg (by omega) (by omega); have hp1 : mm * x5 ≤ 8 * 19 := Int.mul_le_mul (by omega) (by omega) (by omega) (by omega); have hp2 : IntKind.i64.wrap (mm * x5) = mm * x5 := IntWalk.i64_in _ (by omega); have hz6 := hor5.size) | (go_simp; go_at_call 36; refine (cachePut_draw A1 c1 xs κ (mm * x5) _ hW5.rd HK.out hκ).mono ?_; rintro e w7 ⟨A7, c7, S7, ys, ok7, rfl, hok7, hW7, hN7, hb7⟩; have g07 := g05.below hb7; have r07 := r05.below hb7; have g07c := g07.1; have g07f := g07.2; have hc7 := hc5.below hb7; have hor7 := hor5.below hb7; have hgq7 := lt_of_cell' g05.1) | fail)
      all_goals
        have hS7 : ∀ b, S7 b → w.heap.size < b ∧ b ≠ gq := fun b h => by have := hN7 b h; omega
        go_wp2
        go_roundw
        case rel =>
          refine ⟨k + 1, A7, c7, S7, ys, by omega, by go_num, hok7, g07.same _, r07.other _ (by simp <;> omega), hW7.setOut _ (fun h => (hS7 _ h).2 rfl), hS7, hc7.out (Out.set _ gq 0 _) (by omega) (by omega), ?_⟩
          exact out_new hor7 (OutS.set (S := fun b => b = gq) _ _ rfl) (fun b h => by omega)
        case measure => simp [intOf]; omega
    · obtain ⟨g0c, g0f⟩ := g0
      obtain ⟨r0c, r0f⟩ := r0
      go_wp2
      refine bodyPost_ret (v := .agg #[.slice A1 xs.length c1]) (by simp [results, Try.results54, go_sem, r0c]) rfl ⟨A1, c1, xs, S, rfl, HK.out, ?_, fun b h => (hS b h).1, ?_⟩
      · exact hW.setOut (b := w.heap.size) (o := 0) _ (fun h => by have := hS _ h; omega)
      · exact out_new hor3 (OutS.set (S := fun b => b = w.heap.size) _ _ rfl) (fun b h => by omega)
def DrawnC (w : World) (e : Ending) (w' : World) : Prop :=
  ∃ (A1 : Option Addr) (c1 : Nat) (xs : List (List Int)), e = .returned (.agg #[.slice A1 xs.length c1]) ∧ cOkB xs = true ∧ Rd2 iv w' w'.heap.size A1 xs ∧ Below w.heap.size w w'
theorem drawCache_any {B : Nat} (A : Option Addr) (c : Nat) (bs : List Int) (w : World) (hb : Bytes bs) (hr : Rd w B A (bv bs)) :
    Calls Try.prog 26 #[.slice A bs.length c] w (DrawnC w) := by
  go_enter Try.func26, Try.ntmps26
  go_wp2_with fail
  refine (l01New_any _ A c bs _ hb (hr.lt.alloc _)).mono ?_
  rintro e w1 ⟨g, rfl, hg0, hg1, hc, hb1⟩
  have r0 : Cl w1 ⟨w.heap.size, 0, none⟩ (.slice none 0 0) := Cl.below (Cl.new rfl rfl) hb1
  have hz1 := hb1.size
  simp only [World.size_alloc] at hz1 hg0
  go_wp2_with fail
  refine (l17Case_any g _ A c bs _ hb (by omega) hc).mono ?_
  rintro e w2 ⟨A1, c1, xs, S, rfl, hok, hW, hS, hor⟩
  have HK := Lib.hid hok
  have r02 := r0.cur hor (by simp; omega)
  obtain ⟨r0c, r0f⟩ := r02
  have hbw : Below w.heap.size w w2 := hor.bel (by (repeat' (first | (with_reducible exact Below.refl _ _) | (with_reducible refine bel_alloc ?_ ?_ _) | (with_reducible refine Below.setCell ?_ ?_ _) | (with_reducible refine below_drewN ?_ _) | (with_reducible refine Below.drew ?_) | (with_reducible refine bel_step hb1 ?_ ?_) | (with_reducible exact Nat.le_refl _) | (with_reducible assumption) | omega | (simp only [World.size_alloc, World.size_setCell, World.size_drew]; omega) | (simp; omega) | (simp; done)))) (by omega)
  clear hok
  go_wp2
  refine bodyPost_ret (v := .agg #[.slice A1 xs.length c1]) (by simp [results, Try.results26, go_sem, r0c]) rfl ⟨A1, c1, xs, rfl, HK.out, ?_, ?_⟩
  · exact (hW.setOut (b := w.heap.size) (o := 0) _ (fun h => by have := hS _ h; omega)).rd
  · (repeat' (first | (with_reducible exact Below.refl _ _) | (with_reducible refine bel_alloc ?_ ?_ _) | (with_reducible refine Below.setCell ?_ ?_ _) | (with_reducible refine below_drewN ?_ _) | (with_reducible refine Below.drew ?_) | (with_reducible refine bel_step hbw ?_ ?_) | (with_reducible exact Nat.le_refl _) | (with_reducible assumption) | omega | (simp only [World.size_alloc, World.size_setCell, World.size_drew]; omega) | (simp; omega) | (simp; done)))
end Go.Proofs.Ytmfomflmbhognaa
