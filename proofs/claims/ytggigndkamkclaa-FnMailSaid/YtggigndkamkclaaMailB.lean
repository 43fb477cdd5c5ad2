/- MailOk, of the program and of the reference. -/
import Derived.Test.YtggigndkamkclaaMailA
import Derived.Test.YtggigndkamkclaaNum
import Derived.Lib.QuietBelow
namespace Go.Proofs.Ytggigndkamkclaa
open Go.ChangeShapes Go.WideShapes Go.ChangeAt Go.RowKit
set_option linter.unusedVariables false

def pOk (n : Nat) (x : Po) : Bool := btw x.1 0 ((n : Int) - 1) && decide (0 ≤ x.2)
def mRow (n : Nat) (xs : List Po) (ys : List Int) : Bool := xs.all (pOk n) && ys.all (fun y => decide (0 ≤ y))
def mOkB (xss : List (List Po)) (yss : List (List Int)) : Bool :=
  btw xss.length 1 4 && decide (yss.length = xss.length) && (List.range xss.length).all (fun i => mRow xss.length (xss.getD i []) (yss.getD i [])) && decide (tot xss + tot yss ≤ 30)
theorem getD_at {α : Type} {xss : List (List α)} {k : Nat} (h : k < xss.length) : xss.getD k [] = xss[k] := by simp [List.getD_eq_getElem?_getD, List.getElem?_eq_getElem h]
theorem mOk_n {xss : List (List Po)} {yss : List (List Int)} (h : btw xss.length 1 4 = false) : mOkB xss yss = false := by simp [mOkB, h]
theorem mOk_len {xss : List (List Po)} {yss : List (List Int)} (h : yss.length ≠ xss.length) : mOkB xss yss = false := by simp [mOkB, h]
theorem mOk_row {xss : List (List Po)} {yss : List (List Int)} {k : Nat} (hk : k < xss.length) (hk2 : k < yss.length) (h : mRow xss.length xss[k] yss[k] = false) : mOkB xss yss = false := by
  have : (List.range xss.length).all (fun i => mRow xss.length (xss.getD i []) (yss.getD i [])) = false := by
    rw [List.all_eq_false]
    exact ⟨k, List.mem_range.2 hk, by rw [getD_at hk, getD_at hk2, h]; simp⟩
  simp only [mOkB, this, Bool.and_false, Bool.false_and]
theorem mOk_post {xss : List (List Po)} {yss : List (List Int)} {k j : Nat} (hk : k < xss.length) (hk2 : k < yss.length) (hj : j < xss[k].length) (h : pOk xss.length xss[k][j] = false) : mOkB xss yss = false := by
  refine mOk_row hk hk2 ?_
  have : xss[k].all (pOk xss.length) = false := by
    rw [List.all_eq_false]
    exact ⟨xss[k][j], List.getElem_mem hj, by simp [h]⟩
  simp [mRow, this]
theorem mOk_int {xss : List (List Po)} {yss : List (List Int)} {k j : Nat} (hk : k < xss.length) (hk2 : k < yss.length) (hj : j < yss[k].length) (h : yss[k][j] < 0) : mOkB xss yss = false := by
  refine mOk_row hk hk2 ?_
  have : yss[k].all (fun y => decide (0 ≤ y)) = false := by
    rw [List.all_eq_false]
    exact ⟨yss[k][j], List.getElem_mem hj, by simp; omega⟩
  simp [mRow, this]
theorem mRow_all {n : Nat} {xs : List Po} {ys : List Int} (h1 : ∀ j (hj : j < xs.length), pOk n xs[j] = true) (h2 : ∀ j (hj : j < ys.length), 0 ≤ ys[j]) : mRow n xs ys = true := by
  simp only [mRow, Bool.and_eq_true, List.all_eq_true, decide_eq_true_eq]
  refine ⟨fun x hx => ?_, fun y hy => ?_⟩
  · obtain ⟨j, hj, rfl⟩ := List.getElem_of_mem hx
    exact h1 j hj
  · obtain ⟨j, hj, rfl⟩ := List.getElem_of_mem hy
    exact h2 j hj
theorem mOk_all {xss : List (List Po)} {yss : List (List Int)} (hn : btw xss.length 1 4 = true) (hl : yss.length = xss.length) (h : ∀ k (hk : k < xss.length) (hk2 : k < yss.length), mRow xss.length xss[k] yss[k] = true) : mOkB xss yss = decide (tot xss + tot yss ≤ 30) := by
  have : (List.range xss.length).all (fun i => mRow xss.length (xss.getD i []) (yss.getD i [])) = true := by
    rw [List.all_eq_true]
    intro k hk
    have hk := List.mem_range.1 hk
    rw [getD_at hk, getD_at (by omega)]
    exact h k hk (by omega)
  simp only [mOkB, hn, hl, this, decide_true, Bool.true_and]
set_option maxRecDepth 100000 in
set_option maxHeartbeats 8000000 in
theorem mailOk_i (A : Option Addr) (c : Nat) (B : Option Addr) (d : Nat) (xss : List (List Po)) (yss : List (List Int)) (w : World) {B1 B2 : Nat} (hr : Rd2 pv w B1 A xss) (hs : Rd2 iv w B2 B yss) (hn : Rows xss ∧ Rows yss) (v : Bool) (hv : mOkB xss yss = v) :
    Calls Try.prog 24 #[.agg #[.slice A xss.length c, .slice B yss.length d]] w fun e w' => e = .returned (.bool v) ∧ Below w.heap.size w w' := by
  subst hv
  have hn1 := hn.1.1
  have hn2 := hn.2.1
  have HM := Lib.hid hn.1.2
  have HM2 := Lib.hid hn.2.2
  have HT1 := Lib.hid (fun j => tot_take (j := j) hn.1.2)
  have HT2 := Lib.hid (fun j => tot_take (j := j) hn.2.2)
  clear hn
  cases hbn : btw (xss.length : Int) 1 4 with
  | false =>
    have HR := Lib.hid (mOk_n (yss := yss) hbn)
    go_enter Try.func24, Try.ntmps24
    go_wp2_with (go_at_call 38; refine (between_q _ _ _ _).mono ?_; rintro e w2 ⟨rfl, rfl⟩)
    go_ret
    exact ⟨by rw [HR.out]; rfl, by (repeat' (first | (with_reducible exact Below.refl _ _) | (with_reducible refine bel_alloc ?_ ?_ _) | (with_reducible refine Below.setCell ?_ ?_ _) | (with_reducible refine below_drewN ?_ _) | (with_reducible refine Below.drew ?_) | (with_reducible exact Nat.le_refl _) | (with_reducible assumption) | omega | (simp only [World.size_alloc, World.size_setCell, World.size_drew]; omega) | (simp; omega) | (simp; done)))⟩
  | true =>
  by_cases hl : yss.length = xss.length
  rotate_left
  · have HR := Lib.hid (mOk_len hl)
    have hlb : ((yss.length : Int) != (xss.length : Int)) = true := by simp; omega
    go_enter Try.func24, Try.ntmps24
    go_wp2_with (go_at_call 38; refine (between_q _ _ _ _).mono ?_; rintro e w2 ⟨rfl, rfl⟩)
    go_ret
    exact ⟨by rw [HR.out]; rfl, by (repeat' (first | (with_reducible exact Below.refl _ _) | (with_reducible refine bel_alloc ?_ ?_ _) | (with_reducible refine Below.setCell ?_ ?_ _) | (with_reducible refine below_drewN ?_ _) | (with_reducible refine Below.drew ?_) | (with_reducible exact Nat.le_refl _) | (with_reducible assumption) | omega | (simp only [World.size_alloc, World.size_setCell, World.size_drew]; omega) | (simp; omega) | (simp; done)))⟩
  have hn4 := of_btw hbn
  have HBN := Lib.hid hbn
  have hlb : ((yss.length : Int) != (xss.length : Int)) = false := by simp; omega
  have HL := Lib.hid hl
  clear hl
  go_enter Try.func24, Try.ntmps24
  go_wp2_with (go_at_call 38; refine (between_q _ _ _ _).mono ?_; rintro e w2 ⟨rfl, rfl⟩)
  have hr0 := (hr.alloc (.cells #[.slice A xss.length c, .slice B yss.length d] 29)).lt
  have hs0 := (hs.alloc (.cells #[.slice A xss.length c, .slice B yss.length d] 29)).lt
  have q0 : (w.alloc (.cells #[.slice A xss.length c, .slice B yss.length d] 29)).cell? ⟨w.heap.size, 0, none⟩ = some (.slice A xss.length c) := by simp [go_sem]
  have q1 : (w.alloc (.cells #[.slice A xss.length c, .slice B yss.length d] 29)).cell? ⟨w.heap.size, 1, none⟩ = some (.slice B yss.length d) := by simp [go_sem]
  have hW : Below w.heap.size w (w.alloc (.cells #[.slice A xss.length c, .slice B yss.length d] 29)) := by (repeat' (first | (with_reducible exact Below.refl _ _) | (with_reducible refine bel_alloc ?_ ?_ _) | (with_reducible refine Below.setCell ?_ ?_ _) | (with_reducible refine below_drewN ?_ _) | (with_reducible refine Below.drew ?_) | (with_reducible exact Nat.le_refl _) | (with_reducible assumption) | omega | (simp only [World.size_alloc, World.size_setCell, World.size_drew]; omega) | (simp; omega) | (simp; done)))
  generalize w.alloc (.cells #[.slice A xss.length c, .slice B yss.length d] 29) = W0 at *
  clear hr hs hbn
  go_loopw [4, 26] (fun u v wr => ∃ k : Nat, k ≤ xss.length ∧ v = .int .i64 k ∧ u = .int .i64 ((tot (xss.take k) : Nat) + (tot (yss.take k) : Nat) : Int) ∧ (∀ i (hi : i < xss.length) (hi2 : i < yss.length), i < k → mRow xss.length xss[i] yss[i] = true) ∧ Below W0.heap.size W0 wr) (fun _ v _ => xss.length - (intOf v).toNat)
  case atStart => exact ⟨0, Nat.zero_le _, rfl, by simp [tot], fun i _ _ hi => absurd hi (by omega), Below.refl _ _⟩
  case round =>
    obtain ⟨k, hk, rfl, rfl, hall, hbr⟩ := hrel
    have HA := Lib.hid hall
    clear hall
    have ht1 := HT1.out k
    have ht2 := HT2.out k
    have hyl := HL.out
    by_cases hlt : k < xss.length
    · have hlt2 : k < yss.length := by omega
      obtain ⟨b, off, A1, c1, rfl, -, hc0, hrx⟩ := hr0.row hlt
      obtain ⟨b2, off2, A2, c2, rfl, -, hd0, hsx⟩ := hs0.row hlt2
      have hlm := HM.out _ (List.getElem_mem hlt)
      have hlm2 := HM2.out _ (List.getElem_mem hlt2)
      have HTS1 := Lib.hid (tot_succ hlt)
      have HTS2 := Lib.hid (tot_succ hlt2)
      obtain ⟨qs, hqs⟩ : ∃ q, q = xss[k] := ⟨_, rfl⟩
      obtain ⟨ps, hps⟩ : ∃ q, q = yss[k] := ⟨_, rfl⟩
      rw [← hqs] at hc0 hrx hlm HTS1
      rw [← hps] at hd0 hsx hlm2 HTS2
      have HQ := Lib.hid hqs
      have HP := Lib.hid hps
      clear hqs hps hyl
      have i0 : (0 : Int) ≤ (k : Int) := by omega
      have i1 : (k : Int) < (xss.length : Int) := by omega
      have i1d : decide ((k : Int) < (xss.length : Int)) = true := by simp; omega
      have i2 : (k : Int) < (yss.length : Int) := by omega
      have hc := keep hbr hc0
      have hd := keep hbr hd0
      have p0 := keep hbr q0
      have p1 := keep hbr q1
      go_wp2
      go_loopw [35] (fun v wx => ∃ j : Nat, j ≤ qs.length ∧ v = .int .i64 j ∧ (∀ i (hi : i < qs.length), i < j → pOk xss.length qs[i] = true) ∧ Below W0.heap.size W0 wx) (fun v _ => qs.length - (intOf v).toNat)
      case atStart => exact ⟨0, Nat.zero_le _, rfl, fun i _ hi => absurd hi (by omega), hbr⟩
      case round =>
        obtain ⟨j, hj, rfl, hall, hbx⟩ := hrel
        have HA2 := Lib.hid hall
        replace hc := keep hbx hc0
        replace hd := keep hbx hd0
        replace p0 := keep hbx q0
        replace p1 := keep hbx q1
        clear hall
        by_cases hjl : j < qs.length
        · obtain ⟨b3, off3, rfl, -, hx0, hx1⟩ := (hrx.below hbx).pair hjl
          have hbl := lt_of_cell' hx0
          have j0 : (0 : Int) ≤ (j : Int) := by omega
          have j1 : (j : Int) < (qs.length : Int) := by omega
          obtain ⟨x, hx⟩ : ∃ x, x = qs[j].1 := ⟨_, rfl⟩
          obtain ⟨y, hy⟩ : ∃ y, y = qs[j].2 := ⟨_, rfl⟩
          have HX := Lib.hid (show pOk xss.length qs[j] = (btw x 0 ((xss.length : Int) - 1) && decide (0 ≤ y)) by rw [pOk, hx, hy])
          rw [← hx] at hx0
          rw [← hy] at hx1
          clear hx hy
          have HXQ := Lib.hid (show pOk xss.length qs[j] = false → mOkB xss yss = false from fun h => mOk_post hlt hlt2 (by rw [← HQ.out]; exact hjl) (by simpa only [HQ.out] using h))
          cases hb : btw x 0 ((xss.length : Int) - 1) with
          | false =>
            have HR := Lib.hid (HXQ.out (by rw [HX.out, hb]; rfl))
            go_wp2_with (go_at_call 38; refine (between_q _ _ _ _).mono ?_; rintro e w2 ⟨rfl, rfl⟩)
            go_ret
            exact ⟨by rw [HR.out]; rfl, by (repeat' (first | (with_reducible exact Below.refl _ _) | (with_reducible refine bel_alloc ?_ ?_ _) | (with_reducible refine Below.setCell ?_ ?_ _) | (with_reducible refine below_drewN ?_ _) | (with_reducible refine Below.drew ?_) | (with_reducible refine bel_step hbx ?_ ?_) | (with_reducible refine bel_step hW ?_ ?_) | (with_reducible exact Nat.le_refl _) | (with_reducible assumption) | omega | (simp only [World.size_alloc, World.size_setCell, World.size_drew]; omega) | (simp; omega) | (simp; done)))⟩
          | true =>
            have HB := Lib.hid hb
            by_cases hy0 : y < 0
            · have HR := Lib.hid (HXQ.out (by rw [HX.out, hb]; simp; omega))
              go_wp2_with (go_at_call 38; refine (between_q _ _ _ _).mono ?_; rintro e w2 ⟨rfl, rfl⟩)
              go_ret
              exact ⟨by rw [HR.out]; rfl, by (repeat' (first | (with_reducible exact Below.refl _ _) | (with_reducible refine bel_alloc ?_ ?_ _) | (with_reducible refine Below.setCell ?_ ?_ _) | (with_reducible refine below_drewN ?_ _) | (with_reducible refine Below.drew ?_) | (with_reducible refine bel_step hbx ?_ ?_) | (with_reducible refine bel_step hW ?_ ?_) | (with_reducible exact Nat.le_refl _) | (with_reducible assumption) | omega | (simp only [World.size_alloc, World.size_setCell, World.size_drew]; omega) | (simp; omega) | (simp; done)))⟩
            · go_wp2_with (go_at_call 38; refine (between_q _ _ _ _).mono ?_; rintro e w2 ⟨rfl, rfl⟩)
              go_roundw
              case rel =>
                refine ⟨j + 1, by omega, by go_num, fun i hi hij => ?_, by (repeat' (first | (with_reducible exact Below.refl _ _) | (with_reducible refine bel_alloc ?_ ?_ _) | (with_reducible refine Below.setCell ?_ ?_ _) | (with_reducible refine below_drewN ?_ _) | (with_reducible refine Below.drew ?_) | (with_reducible refine bel_step hbx ?_ ?_) | (with_reducible exact Nat.le_refl _) | (with_reducible assumption) | omega | (simp only [World.size_alloc, World.size_setCell, World.size_drew]; omega) | (simp; omega) | (simp; done)))⟩
                by_cases e : i = j
                · subst e
                  rw [HX.out, HB.out]
                  simp
                  omega
                · exact HA2.out i hi (by omega)
              case measure => simp [intOf]; omega
        · obtain rfl : j = qs.length := by omega
          go_wp2
          go_loopw [57] (fun v wx => ∃ j : Nat, j ≤ ps.length ∧ v = .int .i64 j ∧ (∀ i (hi : i < ps.length), i < j → 0 ≤ ps[i]) ∧ Below W0.heap.size W0 wx) (fun v _ => ps.length - (intOf v).toNat)
          case atStart => exact ⟨0, Nat.zero_le _, rfl, fun i _ hi => absurd hi (by omega), hbx⟩
          case round =>
            obtain ⟨j, hj, rfl, hall, hby⟩ := hrel
            have HA3 := Lib.hid hall
            replace hc := keep hby hc0
            replace hd := keep hby hd0
            replace p0 := keep hby q0
            replace p1 := keep hby q1
            clear hall
            by_cases hjl : j < ps.length
            · obtain ⟨b4, off4, rfl, -, hz0⟩ := (hsx.below hby).int hjl
              have j0 : (0 : Int) ≤ (j : Int) := by omega
              have j1 : (j : Int) < (ps.length : Int) := by omega
              obtain ⟨z, hz⟩ : ∃ z, z = ps[j] := ⟨_, rfl⟩
              rw [← hz] at hz0
              have HZ := Lib.hid hz
              have HZQ := Lib.hid (show z < 0 → mOkB xss yss = false from fun h => mOk_int hlt hlt2 (j := j) (by rw [← HP.out]; exact hjl) (by rw [hz] at h; simpa only [HP.out] using h))
              clear hz
              by_cases hz1 : z < 0
              · have HR := Lib.hid (HZQ.out hz1)
                go_wp2
                go_ret
                exact ⟨by rw [HR.out]; rfl, by (repeat' (first | (with_reducible exact Below.refl _ _) | (with_reducible refine bel_alloc ?_ ?_ _) | (with_reducible refine Below.setCell ?_ ?_ _) | (with_reducible refine below_drewN ?_ _) | (with_reducible refine Below.drew ?_) | (with_reducible refine bel_step hby ?_ ?_) | (with_reducible refine bel_step hW ?_ ?_) | (with_reducible exact Nat.le_refl _) | (with_reducible assumption) | omega | (simp only [World.size_alloc, World.size_setCell, World.size_drew]; omega) | (simp; omega) | (simp; done)))⟩
              · go_wp2
                go_roundw
                case rel =>
                  refine ⟨j + 1, by omega, by go_num, fun i hi hij => ?_, hby⟩
                  by_cases e : i = j
                  · subst e
                    rw [← HZ.out]
                    omega
                  · exact HA3.out i hi (by omega)
                case measure => simp [intOf]; omega
            · obtain rfl : j = ps.length := by omega
              generalize tot (xss.take k) = t1 at *
              generalize tot (yss.take k) = t2 at *
              have hw1 : IntKind.i64.wrap ((qs.length : Int) + (ps.length : Int)) = (qs.length : Int) + (ps.length : Int) := IntWalk.i64_in _ (by omega)
              have hw2 : IntKind.i64.wrap ((t1 : Int) + (t2 : Int) + ((qs.length : Int) + (ps.length : Int))) = (t1 : Int) + (t2 : Int) + ((qs.length : Int) + (ps.length : Int)) := IntWalk.i64_in _ (by omega)
              have hw3 : IntKind.i64.wrap ((t1 : Int) + (t2 : Int) + (qs.length : Int)) = (t1 : Int) + (t2 : Int) + (qs.length : Int) := IntWalk.i64_in _ (by omega)
              have hw4 : IntKind.i64.wrap ((t1 : Int) + (t2 : Int) + (qs.length : Int) + (ps.length : Int)) = (t1 : Int) + (t2 : Int) + (qs.length : Int) + (ps.length : Int) := IntWalk.i64_in _ (by omega)
              go_wp2
              go_quiet (fail)
              go_wp2
              go_roundw
              case rel =>
                refine ⟨k + 1, by omega, by go_num, by rw [HTS1.out, HTS2.out]; go_num, fun i hi hi2 hik => ?_, below_drewN hby _⟩
                by_cases e : i = k
                · subst e
                  exact mRow_all (fun j hj => by have := HA2.out j (by rw [HQ.out]; exact hj) (by rw [HQ.out]; exact hj); simpa only [HQ.out] using this) (fun j hj => by have := HA3.out j (by rw [HP.out]; exact hj) (by rw [HP.out]; exact hj); simpa only [HP.out] using this)
                · exact HA.out i hi hi2 (by omega)
              case measure => simp [intOf]; omega
    · obtain rfl : k = xss.length := by omega
      have HR := Lib.hid (mOk_all HBN.out HL.out (fun i hi hi2 => HA.out i hi hi2 hi))
      have hx : tot (xss.take xss.length) = tot xss := by rw [List.take_length]
      have hy : tot (yss.take xss.length) = tot yss := by rw [← HL.out, List.take_length]
      rw [hx, hy] at *
      clear hx hy
      generalize tot xss = t1 at *
      generalize tot yss = t2 at *
      by_cases h30 : t1 + t2 ≤ 30
      all_goals
        go_wp2
        go_ret
        refine ⟨by rw [HR.out]; simp; omega, by (repeat' (first | (with_reducible exact Below.refl _ _) | (with_reducible refine bel_alloc ?_ ?_ _) | (with_reducible refine Below.setCell ?_ ?_ _) | (with_reducible refine below_drewN ?_ _) | (with_reducible refine Below.drew ?_) | (with_reducible refine bel_step hbr ?_ ?_) | (with_reducible refine bel_step hW ?_ ?_) | (with_reducible exact Nat.le_refl _) | (with_reducible assumption) | omega | (simp only [World.size_alloc, World.size_setCell, World.size_drew]; omega) | (simp; omega) | (simp; done)))⟩
set_option maxRecDepth 100000 in
set_option maxHeartbeats 8000000 in
theorem mailOk_s (A : Option Addr) (c : Nat) (B : Option Addr) (d : Nat) (xss : List (List Po)) (yss : List (List Int)) (w : World) {B1 B2 : Nat} (hr : Rd2 pv w B1 A xss) (hs : Rd2 iv w B2 B yss) (hn : Rows xss ∧ Rows yss) (v : Bool) (hv : mOkB xss yss = v) :
    Calls Try.prog 22 #[.agg #[.slice A xss.length c, .slice B yss.length d]] w fun e w' => e = .returned (.bool v) ∧ Below w.heap.size w w' := by
  subst hv
  have hn1 := hn.1.1
  have hn2 := hn.2.1
  have HM := Lib.hid hn.1.2
  have HM2 := Lib.hid hn.2.2
  have HT1 := Lib.hid (fun j => tot_take (j := j) hn.1.2)
  have HT2 := Lib.hid (fun j => tot_take (j := j) hn.2.2)
  clear hn
  cases hbn : btw (xss.length : Int) 1 4 with
  | false =>
    have HR := Lib.hid (mOk_n (yss := yss) hbn)
    go_enter Try.func22, Try.ntmps22
    go_wp2_with (go_at_call 42; refine (l01In_q _ _ _ _).mono ?_; rintro e w2 ⟨rfl, rfl⟩)
    go_ret
    exact ⟨by rw [HR.out]; rfl, by (repeat' (first | (with_reducible exact Below.refl _ _) | (with_reducible refine bel_alloc ?_ ?_ _) | (with_reducible refine Below.setCell ?_ ?_ _) | (with_reducible refine below_drewN ?_ _) | (with_reducible refine Below.drew ?_) | (with_reducible exact Nat.le_refl _) | (with_reducible assumption) | omega | (simp only [World.size_alloc, World.size_setCell, World.size_drew]; omega) | (simp; omega) | (simp; done)))⟩
  | true =>
  by_cases hl : yss.length = xss.length
  rotate_left
  · have HR := Lib.hid (mOk_len hl)
    have hlb : ((yss.length : Int) != (xss.length : Int)) = true := by simp; omega
    go_enter Try.func22, Try.ntmps22
    go_wp2_with (go_at_call 42; refine (l01In_q _ _ _ _).mono ?_; rintro e w2 ⟨rfl, rfl⟩)
    go_ret
    exact ⟨by rw [HR.out]; rfl, by (repeat' (first | (with_reducible exact Below.refl _ _) | (with_reducible refine bel_alloc ?_ ?_ _) | (with_reducible refine Below.setCell ?_ ?_ _) | (with_reducible refine below_drewN ?_ _) | (with_reducible refine Below.drew ?_) | (with_reducible exact Nat.le_refl _) | (with_reducible assumption) | omega | (simp only [World.size_alloc, World.size_setCell, World.size_drew]; omega) | (simp; omega) | (simp; done)))⟩
  have hn4 := of_btw hbn
  have HBN := Lib.hid hbn
  have hlb : ((yss.length : Int) != (xss.length : Int)) = false := by simp; omega
  have HL := Lib.hid hl
  clear hl
  go_enter Try.func22, Try.ntmps22
  go_wp2_with (go_at_call 42; refine (l01In_q _ _ _ _).mono ?_; rintro e w2 ⟨rfl, rfl⟩)
  have hr0 := (hr.alloc (.cells #[.slice A xss.length c, .slice B yss.length d] 29)).lt
  have hs0 := (hs.alloc (.cells #[.slice A xss.length c, .slice B yss.length d] 29)).lt
  have q0 : (w.alloc (.cells #[.slice A xss.length c, .slice B yss.length d] 29)).cell? ⟨w.heap.size, 0, none⟩ = some (.slice A xss.length c) := by simp [go_sem]
  have q1 : (w.alloc (.cells #[.slice A xss.length c, .slice B yss.length d] 29)).cell? ⟨w.heap.size, 1, none⟩ = some (.slice B yss.length d) := by simp [go_sem]
  have hW : Below w.heap.size w (w.alloc (.cells #[.slice A xss.length c, .slice B yss.length d] 29)) := by (repeat' (first | (with_reducible exact Below.refl _ _) | (with_reducible refine bel_alloc ?_ ?_ _) | (with_reducible refine Below.setCell ?_ ?_ _) | (with_reducible refine below_drewN ?_ _) | (with_reducible refine Below.drew ?_) | (with_reducible exact Nat.le_refl _) | (with_reducible assumption) | omega | (simp only [World.size_alloc, World.size_setCell, World.size_drew]; omega) | (simp; omega) | (simp; done)))
  generalize w.alloc (.cells #[.slice A xss.length c, .slice B yss.length d] 29) = W0 at *
  clear hr hs hbn
  go_loopw [4, 5] (fun u v wr => ∃ k : Nat, k ≤ xss.length ∧ v = .int .i64 k ∧ u = .int .i64 ((tot (xss.take k) : Nat) + (tot (yss.take k) : Nat) : Int) ∧ (∀ i (hi : i < xss.length) (hi2 : i < yss.length), i < k → mRow xss.length xss[i] yss[i] = true) ∧ Below W0.heap.size W0 wr) (fun _ v _ => xss.length - (intOf v).toNat)
  case atStart => exact ⟨0, Nat.zero_le _, rfl, by simp [tot], fun i _ _ hi => absurd hi (by omega), Below.refl _ _⟩
  case round =>
    obtain ⟨k, hk, rfl, rfl, hall, hbr⟩ := hrel
    have HA := Lib.hid hall
    clear hall
    have ht1 := HT1.out k
    have ht2 := HT2.out k
    have hyl := HL.out
    by_cases hlt : k < xss.length
    · have hlt2 : k < yss.length := by omega
      obtain ⟨b, off, A1, c1, rfl, -, hc0, hrx⟩ := hr0.row hlt
      obtain ⟨b2, off2, A2, c2, rfl, -, hd0, hsx⟩ := hs0.row hlt2
      have hlm := HM.out _ (List.getElem_mem hlt)
      have hlm2 := HM2.out _ (List.getElem_mem hlt2)
      have HTS1 := Lib.hid (tot_succ hlt)
      have HTS2 := Lib.hid (tot_succ hlt2)
      obtain ⟨qs, hqs⟩ : ∃ q, q = xss[k] := ⟨_, rfl⟩
      obtain ⟨ps, hps⟩ : ∃ q, q = yss[k] := ⟨_, rfl⟩
      rw [← hqs] at hc0 hrx hlm HTS1
      rw [← hps] at hd0 hsx hlm2 HTS2
      have HQ := Lib.hid hqs
      have HP := Lib.hid hps
      clear hqs hps hyl
      have i0 : (0 : Int) ≤ (k : Int) := by omega
      have i1 : (k : Int) < (xss.length : Int) := by omega
      have i1d : decide ((k : Int) < (xss.length : Int)) = true := by simp; omega
      have i2 : (k : Int) < (yss.length : Int) := by omega
      have hc := keep hbr hc0
      have hd := keep hbr hd0
      have p0 := keep hbr q0
      have p1 := keep hbr q1
      go_wp2
      go_loopw [6] (fun v wx => ∃ j : Nat, j ≤ qs.length ∧ v = .int .i64 j ∧ (∀ i (hi : i < qs.length), i < j → pOk xss.length qs[i] = true) ∧ Below W0.heap.size W0 wx) (fun v _ => qs.length - (intOf v).toNat)
      case atStart => exact ⟨0, Nat.zero_le _, rfl, fun i _ hi => absurd hi (by omega), hbr⟩
      case round =>
        obtain ⟨j, hj, rfl, hall, hbx⟩ := hrel
        have HA2 := Lib.hid hall
        replace hc := keep hbx hc0
        replace hd := keep hbx hd0
        replace p0 := keep hbx q0
        replace p1 := keep hbx q1
        clear hall
        by_cases hjl : j < qs.length
        · obtain ⟨b3, off3, rfl, -, hx0, hx1⟩ := (hrx.below hbx).pair hjl
          have hbl := lt_of_cell' hx0
          have j0 : (0 : Int) ≤ (j : Int) := by omega
          have j1 : (j : Int) < (qs.length : Int) := by omega
          obtain ⟨x, hx⟩ : ∃ x, x = qs[j].1 := ⟨_, rfl⟩
          obtain ⟨y, hy⟩ : ∃ y, y = qs[j].2 := ⟨_, rfl⟩
          have HX := Lib.hid (show pOk xss.length qs[j] = (btw x 0 ((xss.length : Int) - 1) && decide (0 ≤ y)) by rw [pOk, hx, hy])
          rw [← hx] at hx0
          rw [← hy] at hx1
          clear hx hy
          have HXQ := Lib.hid (show pOk xss.length qs[j] = false → mOkB xss yss = false from fun h => mOk_post hlt hlt2 (by rw [← HQ.out]; exact hjl) (by simpa only [HQ.out] using h))
          cases hb : btw x 0 ((xss.length : Int) - 1) with
          | false =>
            have HR := Lib.hid (HXQ.out (by rw [HX.out, hb]; rfl))
            go_wp2_with (go_at_call 42; refine (l01In_q _ _ _ _).mono ?_; rintro e w2 ⟨rfl, rfl⟩)
            go_ret
            exact ⟨by rw [HR.out]; rfl, by (repeat' (first | (with_reducible exact Below.refl _ _) | (with_reducible refine bel_alloc ?_ ?_ _) | (with_reducible refine Below.setCell ?_ ?_ _) | (with_reducible refine below_drewN ?_ _) | (with_reducible refine Below.drew ?_) | (with_reducible refine bel_step hbx ?_ ?_) | (with_reducible refine bel_step hW ?_ ?_) | (with_reducible exact Nat.le_refl _) | (with_reducible assumption) | omega | (simp only [World.size_alloc, World.size_setCell, World.size_drew]; omega) | (simp; omega) | (simp; done)))⟩
          | true =>
            have HB := Lib.hid hb
            by_cases hy0 : y < 0
            · have HR := Lib.hid (HXQ.out (by rw [HX.out, hb]; simp; omega))
              go_wp2_with (go_at_call 42; refine (l01In_q _ _ _ _).mono ?_; rintro e w2 ⟨rfl, rfl⟩)
              go_ret
              exact ⟨by rw [HR.out]; rfl, by (repeat' (first | (with_reducible exact Below.refl _ _) | (with_reducible refine bel_alloc ?_ ?_ _) | (with_reducible refine Below.setCell ?_ ?_ _) | (with_reducible refine below_drewN ?_ _) | (with_reducible refine Below.drew ?_) | (with_reducible refine bel_step hbx ?_ ?_) | (with_reducible refine bel_step hW ?_ ?_) | (with_reducible exact Nat.le_refl _) | (with_reducible assumption) | omega | (simp only [World.size_alloc, World.size_setCell, World.size_drew]; omega) | (simp; omega) | (simp; done)))⟩
            · go_wp2_with (go_at_call 42; refine (l01In_q _ _ _ _).mono ?_; rintro e w2 ⟨rfl, rfl⟩)
              go_roundw
              case rel =>
                refine ⟨j + 1, by omega, by go_num, fun i hi hij => ?_, by (repeat' (first | (with_reducible exact Below.refl _ _) | (with_reducible refine bel_alloc ?_ ?_ _) | (with_reducible refine Below.setCell ?_ ?_ _) | (with_reducible refine below_drewN ?_ _) | (with_reducible refine Below.drew ?_) | (with_reducible refine bel_step hbx ?_ ?_) | (with_reducible exact Nat.le_refl _) | (with_reducible assumption) | omega | (simp only [World.size_alloc, World.size_setCell, World.size_drew]; omega) | (simp; omega) | (simp; done)))⟩
                by_cases e : i = j
                · subst e
                  rw [HX.out, HB.out]
                  simp
                  omega
                · exact HA2.out i hi (by omega)
              case measure => simp [intOf]; omega
        · obtain rfl : j = qs.length := by omega
          go_wp2
          go_loopw [8] (fun v wx => ∃ j : Nat, j ≤ ps.length ∧ v = .int .i64 j ∧ (∀ i (hi : i < ps.length), i < j → 0 ≤ ps[i]) ∧ Below W0.heap.size W0 wx) (fun v _ => ps.length - (intOf v).toNat)
          case atStart => exact ⟨0, Nat.zero_le _, rfl, fun i _ hi => absurd hi (by omega), hbx⟩
          case round =>
            obtain ⟨j, hj, rfl, hall, hby⟩ := hrel
            have HA3 := Lib.hid hall
            replace hc := keep hby hc0
            replace hd := keep hby hd0
            replace p0 := keep hby q0
            replace p1 := keep hby q1
            clear hall
            by_cases hjl : j < ps.length
            · obtain ⟨b4, off4, rfl, -, hz0⟩ := (hsx.below hby).int hjl
              have j0 : (0 : Int) ≤ (j : Int) := by omega
              have j1 : (j : Int) < (ps.length : Int) := by omega
              obtain ⟨z, hz⟩ : ∃ z, z = ps[j] := ⟨_, rfl⟩
              rw [← hz] at hz0
              have HZ := Lib.hid hz
              have HZQ := Lib.hid (show z < 0 → mOkB xss yss = false from fun h => mOk_int hlt hlt2 (j := j) (by rw [← HP.out]; exact hjl) (by rw [hz] at h; simpa only [HP.out] using h))
              clear hz
              by_cases hz1 : z < 0
              · have HR := Lib.hid (HZQ.out hz1)
                go_wp2
                go_ret
                exact ⟨by rw [HR.out]; rfl, by (repeat' (first | (with_reducible exact Below.refl _ _) | (with_reducible refine bel_alloc ?_ ?_ _) | (with_reducible refine Below.setCell ?_ ?_ _) | (with_reducible refine below_drewN ?_ _) | (with_reducible refine Below.drew ?_) | (with_reducible refine bel_step hby ?_ ?_) | (with_reducible refine bel_step hW ?_ ?_) | (with_reducible exact Nat.le_refl _) | (with_reducible assumption) | omega | (simp only [World.size_alloc, World.size_setCell, World.size_drew]; omega) | (simp; omega) | (simp; done)))⟩
              · go_wp2
                go_roundw
                case rel =>
                  refine ⟨j + 1, by omega, by go_num, fun i hi hij => ?_, hby⟩
                  by_cases e : i = j
                  · subst e
                    rw [← HZ.out]
                    omega
                  · exact HA3.out i hi (by omega)
                case measure => simp [intOf]; omega
            · obtain rfl : j = ps.length := by omega
              generalize tot (xss.take k) = t1 at *
              generalize tot (yss.take k) = t2 at *
              have hw1 : IntKind.i64.wrap ((qs.length : Int) + (ps.length : Int)) = (qs.length : Int) + (ps.length : Int) := IntWalk.i64_in _ (by omega)
              have hw2 : IntKind.i64.wrap ((t1 : Int) + (t2 : Int) + ((qs.length : Int) + (ps.length : Int))) = (t1 : Int) + (t2 : Int) + ((qs.length : Int) + (ps.length : Int)) := IntWalk.i64_in _ (by omega)
              have hw3 : IntKind.i64.wrap ((t1 : Int) + (t2 : Int) + (qs.length : Int)) = (t1 : Int) + (t2 : Int) + (qs.length : Int) := IntWalk.i64_in _ (by omega)
              have hw4 : IntKind.i64.wrap ((t1 : Int) + (t2 : Int) + (qs.length : Int) + (ps.length : Int)) = (t1 : Int) + (t2 : Int) + (qs.length : Int) + (ps.length : Int) := IntWalk.i64_in _ (by omega)
              go_wp2
              go_quiet (fail)
              go_wp2
              go_roundw
              case rel =>
                refine ⟨k + 1, by omega, by go_num, by rw [HTS1.out, HTS2.out]; go_num, fun i hi hi2 hik => ?_, below_drewN hby _⟩
                by_cases e : i = k
                · subst e
                  exact mRow_all (fun j hj => by have := HA2.out j (by rw [HQ.out]; exact hj) (by rw [HQ.out]; exact hj); simpa only [HQ.out] using this) (fun j hj => by have := HA3.out j (by rw [HP.out]; exact hj) (by rw [HP.out]; exact hj); simpa only [HP.out] using this)
                · exact HA.out i hi hi2 (by omega)
              case measure => simp [intOf]; omega
    · obtain rfl : k = xss.length := by omega
      have HR := Lib.hid (mOk_all HBN.out HL.out (fun i hi hi2 => HA.out i hi hi2 hi))
      have hx : tot (xss.take xss.length) = tot xss := by rw [List.take_length]
      have hy : tot (yss.take xss.length) = tot yss := by rw [← HL.out, List.take_length]
      rw [hx, hy] at *
      clear hx hy
      generalize tot xss = t1 at *
      generalize tot yss = t2 at *
      by_cases h30 : t1 + t2 ≤ 30
      all_goals
        go_wp2
        go_ret
        refine ⟨by rw [HR.out]; simp; omega, by (repeat' (first | (with_reducible exact Below.refl _ _) | (with_reducible refine bel_alloc ?_ ?_ _) | (with_reducible refine Below.setCell ?_ ?_ _) | (with_reducible refine below_drewN ?_ _) | (with_reducible refine Below.drew ?_) | (with_reducible refine bel_step hbr ?_ ?_) | (with_reducible refine bel_step hW ?_ ?_) | (with_reducible exact Nat.le_refl _) | (with_reducible assumption) | omega | (simp only [World.size_alloc, World.size_setCell, World.size_drew]; omega) | (simp; omega) | (simp; done)))⟩
end Go.Proofs.Ytggigndkamkclaa
