/- Layouts, the plain law: the live addresses, sorted, are those that denote live objects at offset 0. -/
import Derived.Test.YtjimpmdelnnflaaLivC
namespace Go.Proofs.Ytjimpmdelnnflaa
set_option linter.unusedVariables false
set_option linter.unusedSimpArgs false

theorem ss_eq {xs ys : List T3} (hl : layOk xs ys = true) {x x' : T3} (hx : x ∈ xs) (hx' : x' ∈ xs) (h : x.1 = x'.1) : x = x' := by
  obtain ⟨i, hi, rfl⟩ := List.getElem_of_mem hx
  obtain ⟨j, hj, rfl⟩ := List.getElem_of_mem hx'
  have hp := List.pairwise_iff_getElem.1 (lay_ss hl)
  rcases (by omega : i < j ∨ i = j ∨ j < i) with h1 | h1 | h1
  · exact absurd h (hp i j hi hj h1)
  · subst h1; rfl
  · exact absurd h.symm (hp j i hj hi h1)
theorem ll_eq {xs ys : List T3} (hl : layOk xs ys = true) {y y' : T3} (hy : y ∈ ys) (hy' : y' ∈ ys) {q : Int} (h : q ∈ lall y) (h' : q ∈ lall y') : y = y' := by
  obtain ⟨i, hi, rfl⟩ := List.getElem_of_mem hy
  obtain ⟨j, hj, rfl⟩ := List.getElem_of_mem hy'
  have hp := List.pairwise_iff_getElem.1 (lay_ll hl)
  rcases (by omega : i < j ∨ i = j ∨ j < i) with h1 | h1 | h1
  · exact absurd h' (hp i j hi hj h1 _ h)
  · subst h1; rfl
  · exact absurd h (hp j i hj hi h1 _ h')
theorem den_cases {xs ys : List T3} (hl : layOk xs ys = true) (a : Int) : (∃ x ∈ xs, a / 16 = x.1 ∧ ∃ i, den xs ys a = ownS x i a) ∨ (∃ y ∈ ys, hasL y a = true ∧ ∃ i, den xs ys a = ownL y i a) ∨ den xs ys a = (0, 0, 0, 0) ∧ (∀ x ∈ xs, a / 16 ≠ x.1) ∧ ∀ y ∈ ys, hasL y a = false := by
  obtain ⟨hsp, hlg, -⟩ := lay_facts hl
  rw [den_yes hl]
  rcases held xs ys a with ⟨k, hk, h1, h2⟩ | ⟨k, hk, h0, h1, h2⟩ | ⟨h0, h1⟩
  · exact .inl ⟨xs[k], List.getElem_mem hk, (atS_iff (hsp _ (List.getElem_mem hk)) a).1 h2, k, dS_hit hk h1 h2⟩
  · exact .inr (.inl ⟨ys[k], List.getElem_mem hk, h2, k, by rw [dS_end h0, dL_hit hk h1 h2]⟩)
  · refine .inr (.inr ⟨by rw [dS_end h0, dL_end h1], fun x hx e => ?_, fun y hy => ?_⟩)
    · obtain ⟨j, hj, rfl⟩ := List.getElem_of_mem hx
      exact (atS_iff (hsp _ hx) a).2 e (h0 j hj)
    · obtain ⟨j, hj, rfl⟩ := List.getElem_of_mem hy
      exact h1 j hj
theorem den_sp {xs ys : List T3} (hl : layOk xs ys = true) {x : T3} (hx : x ∈ xs) {a : Int} (ha : a / 16 = x.1) : ∃ i, den xs ys a = ownS x i a := by
  obtain ⟨hsp, hlg, -⟩ := lay_facts hl
  rcases den_cases hl a with ⟨x', hx', h1, i, h2⟩ | ⟨y, hy, h1, i, h2⟩ | ⟨h0, h1, h2⟩
  · obtain rfl := ss_eq hl hx' hx (by omega)
    exact ⟨i, h2⟩
  · have h6 := hasL_pg (hlg _ hy) h1
    rw [ha] at h6
    exact absurd h6 (lay_sl hl hx hy)
  · exact absurd ha (h1 x hx)
theorem den_lg {xs ys : List T3} (hl : layOk xs ys = true) {y : T3} (hy : y ∈ ys) {a : Int} (ha : hasL y a = true) : ∃ i, den xs ys a = ownL y i a := by
  obtain ⟨hsp, hlg, -⟩ := lay_facts hl
  have h6 := hasL_pg (hlg _ hy) ha
  rcases den_cases hl a with ⟨x, hx, h1, i, h2⟩ | ⟨y', hy', h1, i, h2⟩ | ⟨h0, h1, h2⟩
  · rw [h1] at h6
    exact absurd h6 (lay_sl hl hx hy)
  · obtain rfl := ll_eq hl hy' hy (hasL_pg (hlg _ hy') h1) h6
    exact ⟨i, h2⟩
  · rw [h2 y hy] at ha
    cases ha
theorem cs_div {C i : Int} (hC : 0 ≤ C ∧ C ≤ 3) : i * cs C / cs C = i ∧ i * cs C % cs C = 0 := by
  have := cs_pos hC
  exact ⟨Int.mul_ediv_cancel _ (by omega), Int.mul_emod_left _ _⟩
theorem cs_back {C d : Int} (hC : 0 ≤ C ∧ C ≤ 3) (hd : 0 ≤ d ∧ d ≤ 15) (h : d % cs C = 0) : 0 ≤ d / cs C ∧ d / cs C < sl C ∧ d / cs C * cs C = d := by
  rcases (by omega : C = 0 ∨ C = 1 ∨ C = 2 ∨ C = 3) with rfl | rfl | rfl | rfl <;> simp [sl, cs] at h ⊢ <;> omega
theorem mem_spL {x : T3} {a : Int} : a ∈ spL x ↔ ∃ i : Nat, (i : Int) < sl x.2.1 ∧ hasS x.2.2 (i : Int) = true ∧ a = x.1 * 16 + (i : Int) * cs x.2.1 := by
  simp only [spL, spI, List.mem_map, List.mem_filter, List.mem_range]
  constructor
  · rintro ⟨i, ⟨h1, h2⟩, rfl⟩
    exact ⟨i, by omega, h2, rfl⟩
  · rintro ⟨i, h1, h2, rfl⟩
    exact ⟨i, ⟨by omega, h2⟩, rfl⟩
theorem spL_pg {x : T3} (hx : spO x = true) {a : Int} (h : a ∈ spL x) : a / 16 = x.1 := by
  obtain ⟨i, h1, h2, rfl⟩ := mem_spL.1 h
  have := cs_sl (spOk_yes hx).2.1 (k := (i : Int)) (by omega) h1
  omega
theorem spL_nodup {x : T3} (hx : spO x = true) : (spL x).Nodup := by
  have hm := cs_pos (spOk_yes hx).2.1
  unfold spL spI
  rw [List.nodup_iff_pairwise_ne, List.pairwise_map]
  refine ((List.pairwise_lt_range).filter _).imp ?_
  intro a b hab he
  have := Int.mul_lt_mul_of_pos_right (show (a : Int) < b by omega) (show 0 < cs x.2.1 by omega)
  omega
theorem flat_nodup : ∀ {xs : List T3}, xs.Pairwise (fun a b => a.1 ≠ b.1) → (∀ x ∈ xs, spO x = true) → (xs.flatMap spL).Nodup
  | [], _, _ => by simp
  | x :: l, hp, hs => by
    rw [List.flatMap_cons, List.nodup_append]
    rw [List.pairwise_cons] at hp
    refine ⟨spL_nodup (hs x (by simp)), flat_nodup hp.2 (fun y hy => hs y (by simp [hy])), ?_⟩
    rintro a ha b hb rfl
    obtain ⟨y, hy, hby⟩ := List.mem_flatMap.1 hb
    exact hp.1 y hy (by rw [← spL_pg (hs x (by simp)) ha, ← spL_pg (hs y (by simp [hy])) hby])
theorem lg_bd {y : T3} (hy : lgO y = true) : 0 ≤ y.1 ∧ y.1 ≤ 31 ∧ hasL y (y.1 * 16) = true ∧ y.1 ∈ lall y := by
  have h := lOk_yes hy
  refine ⟨by omega, by omega, (hasL_iff hy _).2 (by omega), (mem_lall (by omega)).2 (by omega)⟩
theorem lsB_nodup {xs ys : List T3} (hl : layOk xs ys = true) : (ys.map (fun y => y.1 * 16)).Nodup := by
  obtain ⟨-, hlg, -⟩ := lay_facts hl
  rw [List.nodup_iff_pairwise_ne, List.pairwise_map]
  have := lay_ll hl
  rw [List.pairwise_iff_getElem] at this ⊢
  intro i j hi hj hij he
  have h1 := (lg_bd (hlg _ (List.getElem_mem hi))).2.2.2
  have h2 := (lg_bd (hlg _ (List.getElem_mem hj))).2.2.2
  rw [show ys[j].1 = ys[i].1 by omega] at h2
  exact this i j hi hj hij _ h1 h2
theorem all_nodup {xs ys : List T3} (hl : layOk xs ys = true) : (lsA xs xs.length ++ lsB ys ys.length).Nodup := by
  obtain ⟨hsp, hlg, -⟩ := lay_facts hl
  simp only [lsA, lsB, List.take_length]
  rw [List.nodup_append]
  refine ⟨flat_nodup (lay_ss hl) hsp, lsB_nodup hl, ?_⟩
  rintro a ha b hb rfl
  obtain ⟨x, hx, hax⟩ := List.mem_flatMap.1 ha
  obtain ⟨y, hy, rfl⟩ := List.mem_map.1 hb
  have h1 := spL_pg (hsp x hx) hax
  have h2 := (lg_bd (hlg y hy)).2.2.2
  rw [show y.1 * 16 / 16 = y.1 by omega] at h1
  rw [h1] at h2
  exact lay_sl hl hx hy h2
theorem spD_pair (xs ys : List T3) (n : Nat) : (spD xs ys n).Pairwise (· < ·) := by
  unfold spD
  rw [List.pairwise_map]
  exact ((List.pairwise_lt_range).filter _).imp (fun h => by omega)
theorem mem_spD {xs ys : List T3} {a : Int} : a ∈ spD xs ys 512 ↔ 0 ≤ a ∧ a < 512 ∧ cnd (den xs ys a) = true := by
  simp only [spD, List.mem_map, List.mem_filter, List.mem_range]
  constructor
  · rintro ⟨i, ⟨h1, h2⟩, rfl⟩
    exact ⟨by omega, by omega, h2⟩
  · rintro ⟨h0, h1, h2⟩
    exact ⟨a.toNat, ⟨by omega, by rw [show ((a.toNat : Nat) : Int) = a by omega]; exact h2⟩, by omega⟩
theorem same_mem {xs ys : List T3} (hl : layOk xs ys = true) (a : Int) : a ∈ lsA xs xs.length ++ lsB ys ys.length ↔ a ∈ spD xs ys 512 := by
  obtain ⟨hsp, hlg, -⟩ := lay_facts hl
  rw [mem_spD]
  simp only [lsA, lsB, List.take_length, List.mem_append]
  constructor
  · rintro (h | h)
    · obtain ⟨x, hx, hax⟩ := List.mem_flatMap.1 h
      have hp := spL_pg (hsp x hx) hax
      have hb := spOk_yes (hsp x hx)
      obtain ⟨i, hd⟩ := den_sp hl hx hp
      have hat := atS_yes (hsp x hx) hp
      obtain ⟨j, h1, h2, rfl⟩ := mem_spL.1 hax
      have hj := cs_sl hb.2.1 (k := (j : Int)) (by omega) h1
      have hdv := cs_div (i := (j : Int)) hb.2.1
      rw [show x.1 * 16 + (j : Int) * cs x.2.1 - x.1 * 16 = (j : Int) * cs x.2.1 by omega, hdv.1, hdv.2] at hat
      refine ⟨by omega, by omega, ?_⟩
      rw [hd]
      simp only [ownS, cnd, hat.1, hat.2, h2]
      rfl
    · obtain ⟨y, hy, rfl⟩ := List.mem_map.1 h
      have hb := lg_bd (hlg y hy)
      obtain ⟨i, hd⟩ := den_lg hl hy hb.2.2.1
      refine ⟨by omega, by omega, ?_⟩
      have ho : offL y (y.1 * 16) = 0 := by
        have h3 : lHas y.1 y.2.1 y.2.2 (y.1 * 16) = true := hb.2.2.1
        simp only [offL, lOff, h3, if_true]
        omega
      rw [hd]
      simp only [ownL, cnd, ho]
      rfl
  · rintro ⟨h0, h5, hc⟩
    rcases den_cases hl a with ⟨x, hx, h1, i, hd⟩ | ⟨y, hy, h1, i, hd⟩ | ⟨hd, -, -⟩
    · left
      have hb := spOk_yes (hsp x hx)
      have hat := atS_yes (hsp x hx) h1
      rw [hd] at hc
      simp only [ownS, cnd, Bool.and_eq_true, Bool.or_eq_true, beq_iff_eq] at hc
      rw [hat.2] at hc
      have hk := cs_back hb.2.1 (d := a - x.1 * 16) (by omega) hc.1
      rw [← hat.1] at hk
      have hh : hasS x.2.2 (atS x a) = true := by
        by_cases e : hasS x.2.2 (atS x a) = true
        · exact e
        · rw [if_neg e] at hc
          omega
      refine List.mem_flatMap.2 ⟨x, hx, mem_spL.2 ⟨(atS x a).toNat, ?_⟩⟩
      rw [show (((atS x a).toNat : Nat) : Int) = atS x a by omega]
      exact ⟨hk.2.1, hh, by omega⟩
    · right
      have h3 : lHas y.1 y.2.1 y.2.2 a = true := h1
      rw [hd] at hc
      simp only [ownL, cnd, offL, lOff, h3, if_true, Bool.and_eq_true, beq_iff_eq] at hc
      exact List.mem_map.2 ⟨y, hy, by omega⟩
    · rw [hd] at hc
      simp [cnd] at hc
theorem live_same (xs ys : List T3) : liveS xs ys = specL xs ys := by
  unfold liveS specL
  cases hl : layOk xs ys
  · rw [if_neg (by simp), if_neg (by simp)]
  · simp only [if_true]
    unfold srt
    have tr : ∀ a b c : Int, decide (a ≤ b) = true → decide (b ≤ c) = true → decide (a ≤ c) = true := by simp; omega
    have to : ∀ a b : Int, (decide (a ≤ b) || decide (b ≤ a)) = true := by simp; omega
    have hpm : (lsA xs xs.length ++ lsB ys ys.length).Perm (spD xs ys 512) := (List.perm_ext_iff_of_nodup (all_nodup hl) (by
      rw [List.nodup_iff_pairwise_ne]
      exact (spD_pair xs ys 512).imp (fun h => by omega))).2 (same_mem hl)
    refine List.Perm.eq_of_pairwise (le := fun a b => decide (a ≤ b) = true) (fun a b _ _ h1 h2 => by simp at h1 h2; omega) (List.pairwise_mergeSort tr to _) ((spD_pair xs ys 512).imp (fun h => by simp; omega)) ((List.mergeSort_perm _ _).trans hpm)
end Go.Proofs.Ytjimpmdelnnflaa
