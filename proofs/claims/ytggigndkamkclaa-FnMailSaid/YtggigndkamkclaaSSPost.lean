/- The laws' functions on [][]impl.Post. -/
import Derived.Test.YtggigndkamkclaaPostM
import Derived.Test.YtggigndkamkclaaSSInt
import Derived.Lib.QuietBelow
namespace Go.Proofs.Ytggigndkamkclaa
open Go.ChangeShapes Go.WideShapes Go.ChangeAt Go.RowKit
set_option linter.unusedVariables false


theorem infoPostSS : (Try.prog.info? 49).map (fun i => (i.zero, i.size, i.bytes)) = some (some (.slice none 0 0), 1, 24) := by kernel_rfl
set_option maxHeartbeats 1000000 in
theorem szPostSS_any (A : Option Addr) (c : Nat) (xss : List (List (Int × Int))) (left : Int) (w : World) {B : Nat} (hr : Rd2 pv w B A xss) (h0 : 0 ≤ left) (h1 : left ≤ 1048576) (hn : xss.length ≤ maxLen) (hm : ∀ l ∈ xss, l.length ≤ maxLen) :
    Calls Try.prog 49 #[.slice A xss.length c, .int .i64 left] w (Sized left (xss.length ≤ 1048576 ∧ ∀ l ∈ xss, l.length ≤ 1048576) w) := by
  unfold maxLen at hn
  have HM := Lib.hid hm
  clear hm
  by_cases h : left - (xss.length : Int) < 0
  · go_enter Try.func49, Try.ntmps49
    go_wp2
    go_ret
    exact ⟨_, rfl, by omega, by omega, by (repeat' (first | (with_reducible exact Below.refl _ _) | (with_reducible refine bel_alloc ?_ ?_ _) | (with_reducible refine Below.setCell ?_ ?_ _) | (with_reducible refine below_drewN ?_ _) | (with_reducible refine Below.drew ?_) | (with_reducible exact Nat.le_refl _) | (with_reducible assumption) | omega | (simp only [World.size_alloc, World.size_setCell, World.size_drew]; omega) | (simp; omega) | (simp; done)))⟩
  · go_enter Try.func49, Try.ntmps49
    go_wp2
    go_loopw [1, 5] (fun u v wr => ∃ (j : Nat) (t : Int), j ≤ xss.length ∧ v = .int .i64 j ∧ u = .int .i64 t ∧ 0 ≤ t ∧ t ≤ left ∧ (∀ i (hi : i < xss.length), i < j → xss[i].length ≤ 1048576) ∧ Below w.heap.size w wr) (fun _ v _ => xss.length - (intOf v).toNat)
    case atStart => exact ⟨0, _, Nat.zero_le _, rfl, rfl, by omega, by omega, fun i _ hi => absurd hi (by omega), Below.refl _ _⟩
    case round =>
      obtain ⟨j, t, hj, rfl, rfl, ht0, ht1, hall, hbr⟩ := hrel
      have HA := Lib.hid hall
      clear hall
      by_cases hlt : j < xss.length
      · obtain ⟨b, off, A', c', rfl, -, hc, hrr⟩ := (hr.lt.below hbr).row hlt
        have hlm := HM.out _ (List.getElem_mem hlt)
        obtain ⟨q, hq⟩ : ∃ q, q = xss[j].length := ⟨_, rfl⟩
        rw [← hq] at hc hlm
        have HQ := Lib.hid hq
        clear hq hrr
        go_wp2_with fail
        refine (szPostS_any _ _ _ _ _ (by omega) (by omega) hlm).mono ?_
        rintro e w2 ⟨q2, rfl, hz1', hz2, hb2⟩
        by_cases hneg : q2 < 0
        · go_wp2
          go_ret
          exact ⟨_, rfl, by omega, by omega, bel_step hb2 hbr (Nat.le_refl _)⟩
        · have HL := Lib.hid (hz2 (by omega))
          go_wp2
          go_roundw
          case rel =>
            refine ⟨j + 1, q2, by omega, by go_num, rfl, by omega, by omega, fun i hi hij => ?_, bel_step hb2 hbr (Nat.le_refl _)⟩
            by_cases e : i = j
            · subst e; have := HL.out; rw [← HQ.out]; omega
            · exact HA.out i hi (by omega)
          case measure => simp [intOf]; omega
      · have HP := Lib.hid (show xss.length ≤ 1048576 ∧ ∀ l ∈ xss, l.length ≤ 1048576 from ⟨by omega, fun l hl => by obtain ⟨i, hi, rfl⟩ := List.getElem_of_mem hl; exact HA.out i hi (by omega)⟩)
        go_wp2
        go_ret
        exact ⟨_, rfl, by omega, fun _ => HP.out, hbr⟩

set_option maxHeartbeats 2000000 in
theorem eqPostSS_same (A B : Option Addr) (c d : Nat) (xss : List (List (Int × Int))) (w : World) {B1 B2 : Nat} (hx : Rd2 pv w B1 A xss) (hy : Rd2 pv w B2 B xss) (hn : xss.length ≤ 1048576 ∧ ∀ l ∈ xss, l.length ≤ 1048576) :
    Calls Try.prog 43 #[.slice A xss.length c, .slice B xss.length d] w fun e w' => e = .returned (.bool true) ∧ Below w.heap.size w w' := by
  have hn1 := hn.1
  have HM := Lib.hid hn.2
  clear hn
  have hne : ((xss.length : Int) != (xss.length : Int)) = false := by simp
  go_enter Try.func43, Try.ntmps43
  go_wp2
  go_loopw [5] (fun v wr => ∃ k : Nat, k ≤ xss.length ∧ v = .int .i64 k ∧ Below w.heap.size w wr) (fun v _ => xss.length - (intOf v).toNat)
  case atStart => exact ⟨0, Nat.zero_le _, rfl, Below.refl _ _⟩
  case round =>
    obtain ⟨k, hk, rfl, hbr⟩ := hrel
    by_cases hlt : k < xss.length
    · obtain ⟨b, off, A1, c1, rfl, -, hc, hrx⟩ := (hx.lt.below hbr).row hlt
      obtain ⟨b2, off2, A2, c2, rfl, -, hd, hry⟩ := (hy.lt.below hbr).row hlt
      have hlm := HM.out _ (List.getElem_mem hlt)
      generalize xss[k] = q at *
      have i0 : (0 : Int) ≤ (k : Int) := by omega
      have i1 : (k : Int) < (xss.length : Int) := by omega
      have k0 := cell_regrown hc
      have k1 := cell_regrown hd
      have cE := fun d os => Calls.regrown_of (eqPostS_same A1 A2 c1 c2 q (Go.Sort.grow (redrawn wr d) os) (hrx.below (below_regrown wr d os)) (hry.below (below_regrown wr d os)) hlm)
      go_wp2
      refine wp_region_quiet_below (by kernel_rfl) (by kernel_rfl) ?_
      repeat (first | go_big_quiet_step (first | (with_reducible exact cE _ _)) | quiet_step (first | (with_reducible exact cE _ _)))
      refine wpQuiet_nil ?_
      intro _ hw_q
      obtain ⟨⟨dq, osq⟩, hw_q'⟩ := hw_q
      subst hw_q'
      have hbq := below_regrown wr dq osq
      generalize Go.Sort.grow (redrawn wr dq) osq = wq at *
      go_wp2
      go_roundw
      case rel => exact ⟨k + 1, by omega, by go_num, bel_step hbq hbr (Nat.le_refl _)⟩
      case measure => simp [intOf]; omega
    · go_wp2
      go_ret
      exact ⟨rfl, hbr⟩

def MadePostSSW (xss : List (List (Int × Int))) (w : World) (e : Ending) (w' : World) : Prop :=
  ∃ A c S, e = .returned (.slice A xss.length c) ∧ (xss.length ≤ c ∧ c ≤ maxLen) ∧ Wr2c pv w' S A xss ∧ New S w w' ∧ Below w.heap.size w w'
set_option maxHeartbeats 4000000 in
theorem toPostSS_w (A : Option Addr) (c : Nat) (xss : List (List (Int × Int))) (w : World) {B : Nat} (hr : Rd2 pv w B A xss) (hn : xss.length ≤ 1048576 ∧ ∀ l ∈ xss, l.length ≤ 1048576) :
    Calls Try.prog 51 #[.slice A xss.length c] w (MadePostSSW xss w) := by
  have hn1 := hn.1
  have HM := Lib.hid hn.2
  clear hn
  obtain ⟨i0, hi, hz0, hz1, hz2⟩ := info_parts infoPostSS
  go_enter Try.func51, Try.ntmps51
  go_wp2_with (with_reducible refine wpList_make_full _ rfl (.tmp 6) (.tmp 6) _ rfl w.heap.size 49 i0 (.slice none 0 0) 1 Try.underlying26 hi hz0 hz1 .i64 .i64 _ _ xss.length rfl rfl rfl rfl (by rw [hz2]; omega) (by unfold maxLen; omega) (Nat.le_refl _) ?_; intro w1 hown hgrow)
  have hb1 : Below w.heap.size w w1 := (Below.refl _ _).grown hgrow (Nat.le_refl _) (by simp)
  clear hgrow
  have hw1 : w.heap.size < w1.heap.size ∨ xss.length = 0 := by
    rcases Nat.eq_zero_or_pos xss.length with h | h
    · exact .inr h
    · exact .inl ((Ow.mk' hown).2 ⟨w.heap.size, 0, none⟩ rfl)
  go_loopw [4] (fun v wr => ∃ k : Nat, k ≤ xss.length ∧ v = .int .i64 k ∧ Below w.heap.size w wr ∧ w1.heap.size ≤ wr.heap.size ∧ ∃ (cur : List Value) (hd : Nat → Option Addr × Nat) (R : Nat → Nat × Nat), (∀ j (hj : j < xss.length), j < k → xss[j].length ≤ (hd j).2 ∧ (hd j).2 ≤ maxLen) ∧ wr.ownsRow w.heap.size 49 1 (.slice (some ⟨w.heap.size, 0, none⟩) xss.length xss.length) xss.length cur ∧
      ∀ j (hj : j < xss.length), j < k → cur[j]? = some (.slice (hd j).1 xss[j].length (hd j).2) ∧ Wr wr (fun b => (R j).1 ≤ b ∧ b < (R j).2) (hd j).1 (pv xss[j]) ∧ w1.heap.size ≤ (R j).1 ∧ (R j).2 ≤ wr.heap.size ∧ ∀ i, i < j → (R i).2 ≤ (R j).1)
    (fun v _ => xss.length - (intOf v).toNat)
  case atStart => exact ⟨0, Nat.zero_le _, rfl, hb1, Nat.le_refl _, _, fun _ => (none, 0), fun _ => (0, 0), fun j _ hj => absurd hj (by omega), hown, fun j _ hj => absurd hj (by omega)⟩
  case round =>
    obtain ⟨k, hk, rfl, hbr, hwr, cur, hd, R, hcap0, hownr, hall⟩ := hrel
    have HCP := Lib.hid hcap0
    clear hcap0
    have HA := Lib.hid hall
    clear hb1 hown hall
    by_cases hlt : k < xss.length
    · obtain ⟨b, off, A', c', rfl, -, hc, hrr⟩ := (hr.lt.below hbr).row hlt
      have hlm := HM.out _ (List.getElem_mem hlt)
      obtain ⟨q, hq⟩ : ∃ q, q = xss[k] := ⟨_, rfl⟩
      rw [← hq] at hc hrr hlm
      have HQ := Lib.hid hq
      have HL := Lib.hid hownr.1
      clear hq
      go_wp2_with fail
      refine (toPostS_any _ _ q _ hrr hlm).mono ?_
      rintro e w2 ⟨A2, c2, rfl, ho2, hb2⟩
      have HC2 := Lib.hid ho2.cap
      have how := own_below' hownr hb2
      obtain ⟨u0, hcg0⟩ : ∃ u, w2.cell? ⟨w.heap.size, k, none⟩ = some u := ⟨cur[k]'(by have := HL.out; omega), by rw [how.cellAt k (by omega)]; exact List.getElem?_eq_getElem _⟩
      have hfg0 := how.frozenAt k
      go_wp2
      have s1 := (how.stored k (.slice A2 q.length c2)).1
      have hne : ∀ b, w1.heap.size ≤ b → ¬ b = w.heap.size := by omega
      have hst : OutS (fun b => b = w.heap.size) w2 (w2.setCell ⟨w.heap.size, k, none⟩ (.slice A2 q.length c2)) := OutS.set _ _ rfl
      go_roundw
      case rel =>
        have hz := hb2.size
        refine ⟨k + 1, by omega, by go_num, (bel_step hb2 hbr (Nat.le_refl _)).setCell (Nat.le_refl _) _, by simp only [World.size_setCell]; omega, cur.set k (.slice A2 q.length c2), fun j => if j = k then (A2, c2) else hd j, fun j => if j = k then (wr.heap.size, w2.heap.size) else R j, fun j hj hjk => ?_, s1, fun j hj hjk => ?_⟩
        · dsimp only
          by_cases e : j = k
          · subst e
            simp only [if_true]
            rw [← HQ.out]
            exact HC2.out
          · rw [if_neg e]
            exact HCP.out j hj (by omega)
        have hl := HL.out
        by_cases e : j = k
        · subst e
          simp only [if_true, ite_true]
          refine ⟨by rw [List.getElem?_set_self (by omega), HQ.out], ?_, hwr, by simp, fun i hi => ?_⟩
          · rw [← HQ.out]
            exact ho2.wr.outS hst (fun b hb => hne b (by omega))
          · rw [if_neg (by omega)]
            have := (HA.out i (by omega) hi).2.2.2.1
            omega
        · simp only [if_neg e]
          obtain ⟨a1, a2, a3, a4, a5⟩ := HA.out j hj (by omega)
          refine ⟨by rw [List.getElem?_set_ne (by omega)]; exact a1, (a2.below hb2).outS hst (fun b hb => hne b (by omega)), a3, by simp only [World.size_setCell]; omega, fun i hi => ?_⟩
          rw [if_neg (by omega)]
          exact a5 i hi
      case measure => simp [intOf]; omega
    · have hkn : k = xss.length := by omega
      subst hkn
      go_wp2
      go_ret
      refine ⟨_, _, fun b => w.heap.size ≤ b ∧ b < wr.heap.size, rfl, ⟨Nat.le_refl _, by unfold maxLen; omega⟩, ?_, fun b hb => hb, hbr⟩
      rcases Nat.eq_zero_or_pos xss.length with h0 | h0
      · exact .inl (List.eq_nil_of_length_eq_zero h0)
      have hwlt : w.heap.size < w1.heap.size := by omega
      refine .inr ⟨w.heap.size, 0, fun j b => (R j).1 ≤ b ∧ b < (R j).2, hd, rfl, ⟨Nat.le_refl _, by omega⟩, ?_, ⟨?_, ?_, ?_, ?_⟩, fun j hj => HCP.out j hj hj⟩
      · intro j x hj hx
        obtain ⟨a1, a2, a3, a4, a5⟩ := HA.out j hj hj
        omega
      · intro j hj
        obtain ⟨a1, a2, a3, a4, a5⟩ := HA.out j hj hj
        rw [Nat.zero_add, hownr.cellAt j (by omega)]
        exact a1
      · intro j hj
        exact (HA.out j hj hj).2.1
      · intro j x hj hx
        obtain ⟨a1, a2, a3, a4, a5⟩ := HA.out j hj hj
        omega
      · intro j i x hj hi hx hy
        rcases Nat.lt_trichotomy j i with h | h | h
        · have := (HA.out i hi hi).2.2.2.2 j h
          omega
        · exact h.symm
        · have := (HA.out j hj hj).2.2.2.2 i h
          omega

/-- what a mark writes -/
def mkPostSS (k : Int) (xss : List (List (Int × Int))) : List (List (Int × Int)) := (List.range xss.length).map fun i => m2 (k + (2 * (tot (xss.take i) : Nat) : Int)) (xss.getD i []).length
@[simp] theorem mkPostSS_length (k : Int) (xss : List (List (Int × Int))) : (mkPostSS k xss).length = xss.length := by simp [mkPostSS]
theorem mkPostSS_at {k : Int} {xss : List (List (Int × Int))} {i : Nat} (h : i < (mkPostSS k xss).length) : (mkPostSS k xss)[i] = m2 (k + (2 * (tot (xss.take i) : Nat) : Int)) (xss[i]'(by simpa using h)).length := by
  have h2 : i < xss.length := by simpa using h
  simp [mkPostSS, List.getD_eq_getElem?_getD, List.getElem?_eq_getElem h2]
set_option maxHeartbeats 4000000 in
theorem markPostSS_any (A : Option Addr) (c : Nat) (xss : List (List (Int × Int))) (k : Int) (w : World) {S : Nat → Prop} (ho : Wr2 pv w S A xss) (hn : xss.length ≤ 1048576 ∧ ∀ l ∈ xss, l.length ≤ 1048576) (hk0 : 0 ≤ k) (hk1 : k ≤ 4398046511104) :
    Calls Try.prog 45 #[.slice A xss.length c, .int .i64 k] w fun e w' => e = .returned (.int .i64 (k + 2 * (tot xss : Nat))) ∧ Wr2 pv w' S A (mkPostSS k xss) ∧ OutS S w w' := by
  have hn1 := hn.1
  have HM := Lib.hid hn.2
  have htb := fun j => tot_take (j := j) hn.2
  have HTB := Lib.hid htb
  clear hn htb
  rcases Nat.eq_zero_or_pos xss.length with h0 | h0
  · obtain rfl : xss = [] := List.eq_nil_of_length_eq_zero h0
    go_enter Try.func45, Try.ntmps45
    go_wp2
    go_loop [1, 5] (fun u v => v = .int .i64 0 ∧ u = .int .i64 k) (fun _ v => 0)
    case atStart => exact ⟨rfl, rfl⟩
    case round =>
      obtain ⟨rfl, rfl⟩ := hrel
      go_wp2
      go_ret
      exact ⟨by simp [tot], .inl rfl, OutS.refl⟩
  · rcases ho with rfl | ⟨b, off, T, hd, rfl, hSb, hTS, h2⟩
    · simp at h0
    obtain ⟨F, hF⟩ : ∃ F : Nat → List (List (Int × Int)), F = fun j => (List.range xss.length).map fun i => if i < j then m2 (k + (2 * (tot (xss.take i) : Nat) : Int)) (xss.getD i []).length else xss.getD i [] := ⟨_, rfl⟩
    have hFl : ∀ j, (F j).length = xss.length := by intro j; simp [hF]
    have hF0 : F 0 = xss := by
      rw [hF]
      apply List.ext_getElem
      · simp
      · intro i h1 h2
        simp [List.getD_eq_getElem?_getD, List.getElem?_eq_getElem h2]
    have hFn : F xss.length = mkPostSS k xss := by
      rw [hF]
      unfold mkPostSS
      apply List.map_congr_left
      intro i hi
      rw [if_pos (List.mem_range.1 hi)]
    have hFs : ∀ j i (h : i < (F j).length) (h' : i < xss.length), i ≠ j → ∀ h2 : i < (F (j + 1)).length, (F (j + 1))[i] = (F j)[i] := by
      intro j i h h' hne h2
      simp only [hF, List.getElem_map, List.getElem_range]
      by_cases e : i < j
      · rw [if_pos e, if_pos (by omega)]
      · rw [if_neg e, if_neg (by omega)]
    have hFj : ∀ j (h : j < (F j).length) (h' : j < xss.length), (F j)[j] = xss[j] := by
      intro j h h'
      simp [hF, List.getD_eq_getElem?_getD, List.getElem?_eq_getElem h']
    have hFj1 : ∀ j (h : j < (F (j + 1)).length) (h' : j < xss.length), (F (j + 1))[j] = m2 (k + (2 * (tot (xss.take j) : Nat) : Int)) xss[j].length := by
      intro j h h'
      simp [hF, List.getD_eq_getElem?_getD, List.getElem?_eq_getElem h']
    have hFlen : ∀ j i (h : i < (F j).length) (h' : i < xss.length), (F j)[i].length = xss[i].length := by
      intro j i h h'
      simp only [hF, List.getElem_map, List.getElem_range]
      split <;> simp [List.getD_eq_getElem?_getD, List.getElem?_eq_getElem h']
    have G1 := Lib.hid hFl
    have G2 := Lib.hid hFn
    have G3 := Lib.hid hFs
    have G4 := Lib.hid hFj
    have G5 := Lib.hid hFj1
    have G6 := Lib.hid hFlen
    have HT := Lib.hid hTS
    rw [← hF0] at h2
    clear hF hFl hF0 hFn hFs hFj hFj1 hFlen hTS
    go_enter Try.func45, Try.ntmps45
    go_wp2
    go_loopw [1, 5] (fun u v wr => ∃ j : Nat, j ≤ xss.length ∧ v = .int .i64 j ∧ u = .int .i64 (k + (2 * (tot (xss.take j) : Nat) : Int)) ∧ OutS S w wr ∧ W2 pv wr b off T hd (F j)) (fun _ v _ => xss.length - (intOf v).toNat)
    case atStart => exact ⟨0, Nat.zero_le _, rfl, by simp [tot], OutS.refl, h2⟩
    case round =>
      obtain ⟨j, hj, rfl, rfl, hg, hw⟩ := hrel
      clear h2
      have hTj := HTB.out j
      by_cases hlt : j < xss.length
      · have hjF : j < (F j).length := by rw [G1.out]; exact hlt
        have hc := hw.cell j hjF
        have hrow := hw.row j hjF
        have hlm := HM.out _ (List.getElem_mem hlt)
        have hTs := Lib.hid (tot_succ hlt)
        rw [G4.out j hjF hlt] at hc hrow
        obtain ⟨q, hq⟩ : ∃ q, q = xss[j] := ⟨_, rfl⟩
        rw [← hq] at hc hrow hlm hTs
        have HQ := Lib.hid hq
        clear hq
        obtain ⟨tj, htj⟩ : ∃ t, t = tot (xss.take j) := ⟨_, rfl⟩
        rw [← htj] at hTs hTj ⊢
        have HTJ := Lib.hid htj
        clear htj
        go_wp2_with fail
        refine (markPostS_any _ _ q _ _ hrow hlm (by omega) (by omega)).mono ?_
        rintro e w2 ⟨rfl, hr2, ho2⟩
        go_wp2
        go_roundw
        case rel =>
          refine ⟨j + 1, by omega, by go_num, by rw [hTs.out]; go_num, hg.trans (ho2.mono fun x hx => HT.out j x hlt hx), ?_, ?_, ?_, ?_⟩
          · intro i hi
            have hi2 : i < xss.length := by rw [G1.out] at hi; exact hi
            have hi3 : i < (F j).length := by rw [G1.out]; exact hi2
            have h4 := hw.cell i hi3
            rw [G6.out j i hi3 hi2] at h4
            rw [G6.out (j + 1) i hi hi2]
            exact ho2.cell h4 (fun h => hw.out j b hjF h rfl)
          · intro i hi
            have hi2 : i < xss.length := by rw [G1.out] at hi; exact hi
            have hi3 : i < (F j).length := by rw [G1.out]; exact hi2
            by_cases e : i = j
            · subst e
              rw [G5.out i hi hi2, ← HQ.out, ← HTJ.out]
              exact hr2
            · rw [G3.out j i hi3 hi2 e hi]
              exact (hw.row i hi3).outS ho2 (fun x h1 h2 => e (hw.apart j i x hjF hi3 h2 h1))
          · intro i x hi hx
            exact hw.out i x (by rw [G1.out] at hi ⊢; exact hi) hx
          · intro i i2 x hi hi2 h1 h2
            exact hw.apart i i2 x (by rw [G1.out] at hi ⊢; exact hi) (by rw [G1.out] at hi2 ⊢; exact hi2) h1 h2
        case measure => simp [intOf]; omega
      · obtain rfl : j = xss.length := by omega
        rw [G2.out] at hw
        go_wp2
        go_ret
        exact ⟨by rw [List.take_length]; rfl, .inr ⟨b, off, T, hd, rfl, hSb, fun i x hi hx => HT.out i x (by simpa using hi) hx, hw⟩, hg⟩
set_option maxHeartbeats 4000000 in
theorem heldPostSS_b (A : Option Addr) (c : Nat) (xss : List (List (Int × Int))) (k : Int) (w : World) {B : Nat} (hr : Rd2 pv w B A (mkPostSS k xss)) (hn : xss.length ≤ 1048576 ∧ ∀ l ∈ xss, l.length ≤ 1048576) (hk0 : 0 ≤ k) (hk1 : k ≤ 4398046511104) :
    Calls Try.prog 47 #[.slice A xss.length c, .int .i64 k] w fun e w' => e = .returned (.int .i64 (k + 2 * (tot xss : Nat))) ∧ Below w.heap.size w w' := by
  have hn1 := hn.1
  have HM := Lib.hid hn.2
  have htb := fun j => tot_take (j := j) hn.2
  have HTB := Lib.hid htb
  clear hn htb
  go_enter Try.func47, Try.ntmps47
  go_wp2
  go_loopw [1, 5] (fun u v wr => ∃ j : Nat, j ≤ xss.length ∧ v = .int .i64 j ∧ u = .int .i64 (k + (2 * (tot (xss.take j) : Nat) : Int)) ∧ Below w.heap.size w wr) (fun _ v _ => xss.length - (intOf v).toNat)
  case atStart => exact ⟨0, Nat.zero_le _, rfl, by simp [tot], Below.refl _ _⟩
  case round =>
    obtain ⟨j, hj, rfl, rfl, hbr⟩ := hrel
    have hTj := HTB.out j
    by_cases hlt : j < xss.length
    · obtain ⟨b, off, A1, c1, rfl, -, hc, hrx⟩ := (hr.lt.below hbr).row (k := j) (by simpa using hlt)
      have hlm := HM.out _ (List.getElem_mem hlt)
      have hTs := Lib.hid (tot_succ hlt)
      rw [mkPostSS_at] at hc hrx
      generalize xss[j].length = q at *
      generalize tot (xss.take j) = tj at *
      have hmq : (m2 (k + (2 * (tj : Nat) : Int)) q).length = q := by simp
      rw [hmq] at hc
      clear hmq
      go_wp2_with fail
      refine (heldPostS_b _ _ q _ _ hrx hlm (by omega) (by omega)).mono ?_
      rintro e w2 ⟨rfl, hb2⟩
      go_wp2
      go_roundw
      case rel => exact ⟨j + 1, by omega, by go_num, by rw [hTs.out]; go_num, bel_step hb2 hbr (Nat.le_refl _)⟩
      case measure => simp [intOf]; omega
    · obtain rfl : j = xss.length := by omega
      go_wp2
      go_ret
      exact ⟨by rw [List.take_length]; rfl, hbr⟩
end Go.Proofs.Ytggigndkamkclaa
