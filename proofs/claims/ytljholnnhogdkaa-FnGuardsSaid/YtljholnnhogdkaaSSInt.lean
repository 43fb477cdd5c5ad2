/- The laws' functions on [][]int. -/
import Derived.Test.YtljholnnhogdkaaIntW
import Derived.Lib.QuietBelow
namespace Go.Proofs.Ytljholnnhogdkaa
open Go.ChangeShapes Go.WideShapes Go.ChangeAt Go.RowKit
set_option linter.unusedVariables false

def tot {α : Type} (xss : List (List α)) : Nat := (xss.map List.length).sum
theorem tot_succ {α : Type} {xss : List (List α)} {j : Nat} (h : j < xss.length) : tot (xss.take (j + 1)) = tot (xss.take j) + xss[j].length := by
  rw [tot, List.take_succ_eq_append_getElem h, List.map_append, List.sum_append]
  simp [tot]
theorem tot_le {α : Type} {xss : List (List α)} (h : ∀ l ∈ xss, l.length ≤ 1048576) : tot xss ≤ xss.length * 1048576 := by
  induction xss with
  | nil => simp [tot]
  | cons x l ih =>
    have h1 := h x (by simp)
    have h2 := ih fun y hy => h y (by simp [hy])
    simp only [tot, List.map_cons, List.sum_cons, List.length_cons] at *
    omega
theorem tot_take {α : Type} {xss : List (List α)} {j : Nat} (h : ∀ l ∈ xss, l.length ≤ 1048576) : tot (xss.take j) ≤ xss.length * 1048576 := by
  have h1 := tot_le (xss := xss.take j) fun l hl => h l (List.mem_of_mem_take hl)
  have h2 : (xss.take j).length ≤ xss.length := by simp; omega
  exact Nat.le_trans h1 (Nat.mul_le_mul_right _ h2)

theorem infoIntSS : (Try.prog.info? 22).map (fun i => (i.zero, i.size, i.bytes)) = some (some (.slice none 0 0), 1, 24) := by kernel_rfl
set_option maxHeartbeats 1000000 in
theorem szIntSS_any (A : Option Addr) (c : Nat) (xss : List (List Int)) (left : Int) (w : World) {B : Nat} (hr : Rd2 iv w B A xss) (h0 : 0 ≤ left) (h1 : left ≤ 1048576) (hn : xss.length ≤ maxLen) (hm : ∀ l ∈ xss, l.length ≤ maxLen) :
    Calls Try.prog 56 #[.slice A xss.length c, .int .i64 left] w (Sized left (xss.length ≤ 1048576 ∧ ∀ l ∈ xss, l.length ≤ 1048576) w) := by
  unfold maxLen at hn
  have HM := Lib.hid hm
  clear hm
  by_cases h : left - (xss.length : Int) < 0
  · go_enter Try.func56, Try.ntmps56
    go_wp2
    go_ret
    exact ⟨_, rfl, by omega, by omega, by (repeat' (first | (with_reducible exact Below.refl _ _) | (with_reducible refine bel_alloc ?_ ?_ _) | (with_reducible refine Below.setCell ?_ ?_ _) | (with_reducible refine below_drewN ?_ _) | (with_reducible refine Below.drew ?_) | (with_reducible exact Nat.le_refl _) | (with_reducible assumption) | omega | (simp only [World.size_alloc, World.size_setCell, World.size_drew]; omega) | (simp; omega) | (simp; done)))⟩
  · go_enter Try.func56, Try.ntmps56
    go_wp2
    go_loopw [1, 5] (fun u v wr => ∃ (j : Nat) (t : Int), j ≤ xss.length ∧ v = .int .i64 j ∧ u = .int .i64 t ∧ 0 ≤ t ∧ t ≤ left ∧ (∀ i (hi : i < xss.length), i < j → xss[i].length ≤ 1048576) ∧ Below w.heap.size w wr) (fun _ v _ => xss.length - (intOf v).toNat)
    case atStart => exact ⟨0, _, Nat.zero_le _, rfl, rfl, by omega, by omega, fun i _ hi => absurd hi (by omega), Below.refl _ _⟩
    case round =>
      obtain ⟨j, t, hj, rfl, rfl, ht0, ht1, hall, hbr⟩ := hrel
      have HA := Lib.hid hall
      clear hall
      by_cases hlt : j < xss.length
      · obtain ⟨b, off, A', c', rfl, -, hc, hrr⟩ := (hr.lt.below hbr).row hlt
        have hlm := HM.out _ (List.getElem_mem hlt)
        obtain ⟨q, hq⟩ : ∃ q, q = xss[j].length := ⟨_, rfl⟩
        rw [← hq] at hc hlm
        have HQ := Lib.hid hq
        clear hq hrr
        go_wp2_with fail
        refine (szIntS_sized _ _ _ _ _ (by omega) (by omega) hlm).mono ?_
        rintro e w2 ⟨q2, rfl, hz1', hz2, hb2⟩
        by_cases hneg : q2 < 0
        · go_wp2
          go_ret
          exact ⟨_, rfl, by omega, by omega, bel_step hb2 hbr (Nat.le_refl _)⟩
        · have HL := Lib.hid (hz2 (by omega))
          go_wp2
          go_roundw
          case rel =>
            refine ⟨j + 1, q2, by omega, by go_num, rfl, by omega, by omega, fun i hi hij => ?_, bel_step hb2 hbr (Nat.le_refl _)⟩
            by_cases e : i = j
            · subst e; have := HL.out; rw [← HQ.out]; omega
            · exact HA.out i hi (by omega)
          case measure => simp [intOf]; omega
      · have HP := Lib.hid (show xss.length ≤ 1048576 ∧ ∀ l ∈ xss, l.length ≤ 1048576 from ⟨by omega, fun l hl => by obtain ⟨i, hi, rfl⟩ := List.getElem_of_mem hl; exact HA.out i hi (by omega)⟩)
        go_wp2
        go_ret
        exact ⟨_, rfl, by omega, fun _ => HP.out, hbr⟩

set_option maxHeartbeats 2000000 in
theorem eqIntSS_same (A B : Option Addr) (c d : Nat) (xss : List (List Int)) (w : World) {B1 B2 : Nat} (hx : Rd2 iv w B1 A xss) (hy : Rd2 iv w B2 B xss) (hn : xss.length ≤ 1048576 ∧ ∀ l ∈ xss, l.length ≤ 1048576) :
    Calls Try.prog 62 #[.slice A xss.length c, .slice B xss.length d] w fun e w' => e = .returned (.bool true) ∧ Below w.heap.size w w' := by
  have hn1 := hn.1
  have HM := Lib.hid hn.2
  clear hn
  have hne : ((xss.length : Int) != (xss.length : Int)) = false := by simp
  go_enter Try.func62, Try.ntmps62
  go_wp2
  go_loopw [5] (fun v wr => ∃ k : Nat, k ≤ xss.length ∧ v = .int .i64 k ∧ Below w.heap.size w wr) (fun v _ => xss.length - (intOf v).toNat)
  case atStart => exact ⟨0, Nat.zero_le _, rfl, Below.refl _ _⟩
  case round =>
    obtain ⟨k, hk, rfl, hbr⟩ := hrel
    by_cases hlt : k < xss.length
    · obtain ⟨b, off, A1, c1, rfl, -, hc, hrx⟩ := (hx.lt.below hbr).row hlt
      obtain ⟨b2, off2, A2, c2, rfl, -, hd, hry⟩ := (hy.lt.below hbr).row hlt
      have hlm := HM.out _ (List.getElem_mem hlt)
      generalize xss[k] = q at *
      have i0 : (0 : Int) ≤ (k : Int) := by omega
      have i1 : (k : Int) < (xss.length : Int) := by omega
      have k0 := cell_regrown hc
      have k1 := cell_regrown hd
      have cE := fun d os => Calls.regrown_of (eqIntS_same A1 A2 c1 c2 q (Go.Sort.grow (redrawn wr d) os) (hrx.below (below_regrown wr d os)) (hry.below (below_regrown wr d os)) hlm)
      go_wp2
      refine wp_region_quiet_below (by kernel_rfl) (by kernel_rfl) ?_
      repeat (first | go_big_quiet_step (first | (with_reducible exact cE _ _)) | quiet_step (first | (with_reducible exact cE _ _)))
      refine wpQuiet_nil ?_
      intro _ hw_q
      obtain ⟨⟨dq, osq⟩, hw_q'⟩ := hw_q
      subst hw_q'
      have hbq := below_regrown wr dq osq
      generalize Go.Sort.grow (redrawn wr dq) osq = wq at *
      go_wp2
      go_roundw
      case rel => exact ⟨k + 1, by omega, by go_num, bel_step hbq hbr (Nat.le_refl _)⟩
      case measure => simp [intOf]; omega
    · go_wp2
      go_ret
      exact ⟨rfl, hbr⟩

def MadeIntSSW (xss : List (List Int)) (w : World) (e : Ending) (w' : World) : Prop :=
  ∃ A c S, e = .returned (.slice A xss.length c) ∧ (xss.length ≤ c ∧ c ≤ maxLen) ∧ Wr2c iv w' S A xss ∧ New S w w' ∧ Below w.heap.size w w'
set_option maxHeartbeats 4000000 in
theorem toIntSS_w (A : Option Addr) (c : Nat) (xss : List (List Int)) (w : World) {B : Nat} (hr : Rd2 iv w B A xss) (hn : xss.length ≤ 1048576 ∧ ∀ l ∈ xss, l.length ≤ 1048576) :
    Calls Try.prog 59 #[.slice A xss.length c] w (MadeIntSSW xss w) := by
  have hn1 := hn.1
  have HM := Lib.hid hn.2
  clear hn
  obtain ⟨i0, hi, hz0, hz1, hz2⟩ := info_parts infoIntSS
  go_enter Try.func59, Try.ntmps59
  go_wp2_with (with_reducible refine wpList_make_full _ rfl (.tmp 6) (.tmp 6) _ rfl w.heap.size 22 i0 (.slice none 0 0) 1 Try.underlying31 hi hz0 hz1 .i64 .i64 _ _ xss.length rfl rfl rfl rfl (by rw [hz2]; omega) (by unfold maxLen; omega) (Nat.le_refl _) ?_; intro w1 hown hgrow)
  have hb1 : Below w.heap.size w w1 := (Below.refl _ _).grown hgrow (Nat.le_refl _) (by simp)
  clear hgrow
  have hw1 : w.heap.size < w1.heap.size ∨ xss.length = 0 := by
    rcases Nat.eq_zero_or_pos xss.length with h | h
    · exact .inr h
    · exact .inl ((Ow.mk' hown).2 ⟨w.heap.size, 0, none⟩ rfl)
  go_loopw [4] (fun v wr => ∃ k : Nat, k ≤ xss.length ∧ v = .int .i64 k ∧ Below w.heap.size w wr ∧ w1.heap.size ≤ wr.heap.size ∧ ∃ (cur : List Value) (hd : Nat → Option Addr × Nat) (R : Nat → Nat × Nat), (∀ j (hj : j < xss.length), j < k → xss[j].length ≤ (hd j).2 ∧ (hd j).2 ≤ maxLen) ∧ wr.ownsRow w.heap.size 22 1 (.slice (some ⟨w.heap.size, 0, none⟩) xss.length xss.length) xss.length cur ∧
      ∀ j (hj : j < xss.length), j < k → cur[j]? = some (.slice (hd j).1 xss[j].length (hd j).2) ∧ Wr wr (fun b => (R j).1 ≤ b ∧ b < (R j).2) (hd j).1 (iv xss[j]) ∧ w1.heap.size ≤ (R j).1 ∧ (R j).2 ≤ wr.heap.size ∧ ∀ i, i < j → (R i).2 ≤ (R j).1)
    (fun v _ => xss.length - (intOf v).toNat)
  case atStart => exact ⟨0, Nat.zero_le _, rfl, hb1, Nat.le_refl _, _, fun _ => (none, 0), fun _ => (0, 0), fun j _ hj => absurd hj (by omega), hown, fun j _ hj => absurd hj (by omega)⟩
  case round =>
    obtain ⟨k, hk, rfl, hbr, hwr, cur, hd, R, hcap0, hownr, hall⟩ := hrel
    have HCP := Lib.hid hcap0
    clear hcap0
    have HA := Lib.hid hall
    clear hb1 hown hall
    by_cases hlt : k < xss.length
    · obtain ⟨b, off, A', c', rfl, -, hc, hrr⟩ := (hr.lt.below hbr).row hlt
      have hlm := HM.out _ (List.getElem_mem hlt)
      obtain ⟨q, hq⟩ : ∃ q, q = xss[k] := ⟨_, rfl⟩
      rw [← hq] at hc hrr hlm
      have HQ := Lib.hid hq
      have HL := Lib.hid hownr.1
      clear hq
      go_wp2_with fail
      refine (toIntS_any _ _ q _ hrr hlm).mono ?_
      rintro e w2 ⟨A2, c2, rfl, ho2, hb2⟩
      have HC2 := Lib.hid ho2.cap
      have how := own_below' hownr hb2
      obtain ⟨u0, hcg0⟩ : ∃ u, w2.cell? ⟨w.heap.size, k, none⟩ = some u := ⟨cur[k]'(by have := HL.out; omega), by rw [how.cellAt k (by omega)]; exact List.getElem?_eq_getElem _⟩
      have hfg0 := how.frozenAt k
      go_wp2
      have s1 := (how.stored k (.slice A2 q.length c2)).1
      have hne : ∀ b, w1.heap.size ≤ b → ¬ b = w.heap.size := by omega
      have hst : OutS (fun b => b = w.heap.size) w2 (w2.setCell ⟨w.heap.size, k, none⟩ (.slice A2 q.length c2)) := OutS.set _ _ rfl
      go_roundw
      case rel =>
        have hz := hb2.size
        refine ⟨k + 1, by omega, by go_num, (bel_step hb2 hbr (Nat.le_refl _)).setCell (Nat.le_refl _) _, by simp only [World.size_setCell]; omega, cur.set k (.slice A2 q.length c2), fun j => if j = k then (A2, c2) else hd j, fun j => if j = k then (wr.heap.size, w2.heap.size) else R j, fun j hj hjk => ?_, s1, fun j hj hjk => ?_⟩
        · dsimp only
          by_cases e : j = k
          · subst e
            simp only [if_true]
            rw [← HQ.out]
            exact HC2.out
          · rw [if_neg e]
            exact HCP.out j hj (by omega)
        have hl := HL.out
        by_cases e : j = k
        · subst e
          simp only [if_true, ite_true]
          refine ⟨by rw [List.getElem?_set_self (by omega), HQ.out], ?_, hwr, by simp, fun i hi => ?_⟩
          · rw [← HQ.out]
            exact ho2.wr.outS hst (fun b hb => hne b (by omega))
          · rw [if_neg (by omega)]
            have := (HA.out i (by omega) hi).2.2.2.1
            omega
        · simp only [if_neg e]
          obtain ⟨a1, a2, a3, a4, a5⟩ := HA.out j hj (by omega)
          refine ⟨by rw [List.getElem?_set_ne (by omega)]; exact a1, (a2.below hb2).outS hst (fun b hb => hne b (by omega)), a3, by simp only [World.size_setCell]; omega, fun i hi => ?_⟩
          rw [if_neg (by omega)]
          exact a5 i hi
      case measure => simp [intOf]; omega
    · have hkn : k = xss.length := by omega
      subst hkn
      go_wp2
      go_ret
      refine ⟨_, _, fun b => w.heap.size ≤ b ∧ b < wr.heap.size, rfl, ⟨Nat.le_refl _, by unfold maxLen; omega⟩, ?_, fun b hb => hb, hbr⟩
      rcases Nat.eq_zero_or_pos xss.length with h0 | h0
      · exact .inl (List.eq_nil_of_length_eq_zero h0)
      have hwlt : w.heap.size < w1.heap.size := by omega
      refine .inr ⟨w.heap.size, 0, fun j b => (R j).1 ≤ b ∧ b < (R j).2, hd, rfl, ⟨Nat.le_refl _, by omega⟩, ?_, ⟨?_, ?_, ?_, ?_⟩, fun j hj => HCP.out j hj hj⟩
      · intro j x hj hx
        obtain ⟨a1, a2, a3, a4, a5⟩ := HA.out j hj hj
        omega
      · intro j hj
        obtain ⟨a1, a2, a3, a4, a5⟩ := HA.out j hj hj
        rw [Nat.zero_add, hownr.cellAt j (by omega)]
        exact a1
      · intro j hj
        exact (HA.out j hj hj).2.1
      · intro j x hj hx
        obtain ⟨a1, a2, a3, a4, a5⟩ := HA.out j hj hj
        omega
      · intro j i x hj hi hx hy
        rcases Nat.lt_trichotomy j i with h | h | h
        · have := (HA.out i hi hi).2.2.2.2 j h
          omega
        · exact h.symm
        · have := (HA.out j hj hj).2.2.2.2 i h
          omega

/-- what a mark writes -/
def mkIntSS (k : Int) (xss : List (List Int)) : List (List Int) := (List.range xss.length).map fun i => marks (k + ((tot (xss.take i) : Nat) : Int)) (xss.getD i []).length
@[simp] theorem mkIntSS_length (k : Int) (xss : List (List Int)) : (mkIntSS k xss).length = xss.length := by simp [mkIntSS]
theorem mkIntSS_at {k : Int} {xss : List (List Int)} {i : Nat} (h : i < (mkIntSS k xss).length) : (mkIntSS k xss)[i] = marks (k + ((tot (xss.take i) : Nat) : Int)) (xss[i]'(by simpa using h)).length := by
  have h2 : i < xss.length := by simpa using h
  simp [mkIntSS, List.getD_eq_getElem?_getD, List.getElem?_eq_getElem h2]
end Go.Proofs.Ytljholnnhogdkaa
