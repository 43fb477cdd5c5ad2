/- Layouts, plain laws: pages are held once; an address less its offset is the beginning of the same slot or object. -/
import Derived.Test.YtjimpmdelnnflaaLayF
namespace Go.Proofs.Ytjimpmdelnnflaa
set_option linter.unusedVariables false
set_option linter.unusedSimpArgs false

theorem mem_lall {y : T3} {q : Int} (h : 0 ≤ y.2.1) : q ∈ lall y ↔ y.1 ≤ q ∧ q < y.1 + y.2.1 := by
  simp only [lall, lpg, List.mem_map, List.mem_range]
  constructor
  · rintro ⟨t, ht, rfl⟩
    omega
  · intro hq
    exact ⟨(q - y.1).toNat, by omega, by omega⟩
theorem lay_sl {xs ys : List T3} (h : layOk xs ys = true) {x y : T3} (hx : x ∈ xs) (hy : y ∈ ys) : x.1 ∉ lall y := by
  intro hm
  exact (List.nodup_append.1 (lay_facts h).2.2).2.2 x.1 (List.mem_map.2 ⟨x, hx, rfl⟩) x.1 (List.mem_flatMap.2 ⟨y, hy, hm⟩) rfl
theorem lay_ss {xs ys : List T3} (h : layOk xs ys = true) : xs.Pairwise (fun a b => a.1 ≠ b.1) := by
  have := (List.nodup_append.1 (lay_facts h).2.2).1
  rw [List.nodup_iff_pairwise_ne, List.pairwise_map] at this
  exact this
theorem lay_ll {xs ys : List T3} (h : layOk xs ys = true) : ys.Pairwise (fun a b => ∀ q ∈ lall a, q ∉ lall b) := by
  have := (List.nodup_append.1 (lay_facts h).2.2).2.1
  rw [List.nodup_iff_pairwise_ne, List.pairwise_flatMap] at this
  exact this.2.imp (fun hab q hq hq2 => hab q hq q hq2 rfl)
theorem atS_iff {x : T3} (hx : spO x = true) (a : Int) : ¬ atS x a < 0 ↔ a / 16 = x.1 := by
  have hy := spOk_yes hx
  have hm := cs_pos hy.2.1
  unfold atS sAt inSp
  rw [show spOk x.1 x.2.1 x.2.2 = true from hx, Bool.true_and]
  cases hb : btw a (x.1 * 16) (x.1 * 16 + 15) with
  | true =>
    have := of_btw hb
    have hd : 0 ≤ (a - x.1 * 16) / cs x.2.1 := Int.ediv_nonneg (by omega) (by omega)
    simp only [if_true]
    omega
  | false =>
    have := of_btw_f hb
    simp
    omega
theorem atS_yes {x : T3} (hx : spO x = true) {a : Int} (ha : a / 16 = x.1) : atS x a = (a - x.1 * 16) / cs x.2.1 ∧ ofS x a = (a - x.1 * 16) % cs x.2.1 := by
  refine sAt_yes ?_
  unfold inSp
  rw [show spOk x.1 x.2.1 x.2.2 = true from hx, Bool.true_and]
  exact btw_t (by omega) (by omega)
theorem hasL_iff {y : T3} (hy : lgO y = true) (a : Int) : hasL y a = true ↔ y.1 * 16 ≤ a ∧ a < y.1 * 16 + y.2.2 := by
  unfold hasL lHas
  rw [show lOk y.1 y.2.1 y.2.2 = true from hy]
  simp
  omega
theorem hasL_pg {y : T3} (hy : lgO y = true) {a : Int} (h : hasL y a = true) : a / 16 ∈ lall y := by
  have h1 := (hasL_iff hy a).1 h
  have h2 := lOk_yes hy
  rw [mem_lall (by omega)]
  omega
/-- How an address is held. -/
inductive Held (xs ys : List T3) (a : Int) : Prop
  | sp (k : Nat) (hk : k < xs.length) (h : ∀ j (hj : j < xs.length), j < k → atS xs[j] a < 0) (h2 : ¬ atS xs[k] a < 0)
  | lg (k : Nat) (hk : k < ys.length) (h0 : ∀ j (hj : j < xs.length), atS xs[j] a < 0) (h : ∀ j (hj : j < ys.length), j < k → hasL ys[j] a = false) (h2 : hasL ys[k] a = true)
  | no (h0 : ∀ j (hj : j < xs.length), atS xs[j] a < 0) (h : ∀ j (hj : j < ys.length), hasL ys[j] a = false)
theorem first_or (p : Nat → Prop) (n : Nat) : (∃ k, k < n ∧ (∀ j, j < k → ¬ p j) ∧ p k) ∨ ∀ j, j < n → ¬ p j := by
  induction n with
  | zero => exact .inr (fun j hj => by omega)
  | succ n ih =>
    rcases ih with ⟨k, hk, h1, h2⟩ | h
    · exact .inl ⟨k, by omega, h1, h2⟩
    · by_cases hp : p n
      · exact .inl ⟨n, by omega, h, hp⟩
      · exact .inr (fun j hj => by
          by_cases e : j = n
          · subst e; exact hp
          · exact h j (by omega))
theorem held (xs ys : List T3) (a : Int) : Held xs ys a := by
  rcases first_or (fun k => ∃ h : k < xs.length, ¬ atS xs[k] a < 0) xs.length with ⟨k, hk, h1, ⟨_, h2⟩⟩ | h
  · exact .sp k hk (fun j hj hjk => Classical.byContradiction fun hc => h1 j hjk ⟨hj, hc⟩) h2
  · have h0 : ∀ j (hj : j < xs.length), atS xs[j] a < 0 := fun j hj => Classical.byContradiction fun hc => h j hj ⟨hj, hc⟩
    rcases first_or (fun k => ∃ h : k < ys.length, hasL ys[k] a = true) ys.length with ⟨k, hk, h1, ⟨_, h2⟩⟩ | h
    · refine .lg k hk h0 (fun j hj hjk => ?_) h2
      cases e : hasL ys[j] a
      · rfl
      · exact absurd ⟨hj, e⟩ (h1 j hjk)
    · refine .no h0 (fun j hj => ?_)
      cases e : hasL ys[j] a
      · rfl
      · exact absurd ⟨hj, e⟩ (h j hj)
theorem off_law {xs ys : List T3} {a : Int} (ha : 0 ≤ a) : 0 ≤ (den xs ys a).2.2.2 ∧ (den xs ys a).2.2.2 ≤ 1000 ∧ den xs ys (a - (den xs ys a).2.2.2) = ((den xs ys a).1, (den xs ys a).2.1, (den xs ys a).2.2.1, 0) := by
  cases hl : layOk xs ys with
  | false =>
    rw [den_no hl, den_no hl]
    simp
  | true =>
    obtain ⟨hsp, hlg, -⟩ := lay_facts hl
    rw [den_yes hl, den_yes hl]
    rcases held xs ys a with ⟨k, hk, h1, h2⟩ | ⟨k, hk, h0, h1, h2⟩ | ⟨h0, h1⟩
    · rw [dS_hit hk h1 h2]
      have hx := hsp _ (List.getElem_mem hk)
      have hp := (atS_iff hx a).1 h2
      have hm := cs_pos (spOk_yes hx).2.1
      obtain ⟨e1, e2⟩ := atS_yes hx hp
      obtain ⟨m, hmd⟩ : ∃ m, m = cs xs[k].2.1 := ⟨_, rfl⟩
      rw [← hmd] at e1 e2 hm
      have o1 : 0 ≤ (a - xs[k].1 * 16) % m := Int.emod_nonneg _ (by omega)
      have o2 : (a - xs[k].1 * 16) % m < m := Int.emod_lt_of_pos _ (by omega)
      have o3 := Int.emod_add_mul_ediv (a - xs[k].1 * 16) m
      have o5 : 0 ≤ (a - xs[k].1 * 16) / m := Int.ediv_nonneg (by omega) (by omega)
      have o6 : 0 ≤ m * ((a - xs[k].1 * 16) / m) := Int.mul_nonneg (by omega) o5
      have o4 : (a - xs[k].1 * 16) % m ≤ a - xs[k].1 * 16 := by omega
      have hof : ofS xs[k] a = (a - xs[k].1 * 16) % m := e2
      simp only [ownS]
      rw [hof]
      obtain ⟨f, hf⟩ : ∃ f, f = (a - xs[k].1 * 16) % m := ⟨_, rfl⟩
      rw [← hf] at o1 o2 o3 o4 ⊢
      have hp2 : (a - f) / 16 = xs[k].1 := by omega
      have h3 : ∀ j (hj : j < xs.length), j < k → atS xs[j] (a - f) < 0 := fun j hj hjk => by
        have hxj := hsp _ (List.getElem_mem hj)
        have h5 := h1 j hj hjk
        have h6 : ¬ a / 16 = xs[j].1 := fun e => (atS_iff hxj a).2 e h5
        exact Classical.byContradiction fun hc => h6 (by rw [← (atS_iff hxj (a - f)).1 hc]; omega)
      rw [dS_hit hk h3 ((atS_iff hx _).2 hp2)]
      obtain ⟨e3, e4⟩ := atS_yes hx hp2
      rw [← hmd] at e3 e4
      have hq : a - f - xs[k].1 * 16 = m * ((a - xs[k].1 * 16) / m) := by omega
      rw [hq] at e3 e4
      rw [Int.mul_ediv_cancel_left _ (by omega)] at e3
      rw [Int.mul_emod_right] at e4
      refine ⟨o1, by omega, ?_⟩
      simp only [ownS]
      rw [e3, e4, e1]
    · rw [dS_end h0, dL_hit hk h1 h2]
      have hy := hlg _ (List.getElem_mem hk)
      have hyb := lOk_yes hy
      have h5 := (hasL_iff hy a).1 h2
      have hof : offL ys[k] a = a - 16 * ys[k].1 := by
        unfold offL lOff
        rw [if_pos (show lHas ys[k].1 ys[k].2.1 ys[k].2.2 a = true from h2)]
      simp only [ownL]
      rw [hof]
      have e : a - (a - 16 * ys[k].1) = ys[k].1 * 16 := by omega
      rw [e]
      have hpk : ys[k].1 ∈ lall ys[k] := by rw [mem_lall (by omega)]; omega
      have g0 : ∀ j (hj : j < xs.length), atS xs[j] (ys[k].1 * 16) < 0 := fun j hj => Classical.byContradiction fun hc => by
        have hxj := hsp _ (List.getElem_mem hj)
        have h6 := (atS_iff hxj _).1 hc
        have h7 : ys[k].1 = xs[j].1 := by omega
        exact lay_sl hl (List.getElem_mem hj) (List.getElem_mem hk) (by rw [← h7]; exact hpk)
      have g1 : ∀ j (hj : j < ys.length), j < k → hasL ys[j] (ys[k].1 * 16) = false := fun j hj hjk => by
        cases e : hasL ys[j] (ys[k].1 * 16)
        · rfl
        · have h6 := hasL_pg (hlg _ (List.getElem_mem hj)) e
          rw [show ys[k].1 * 16 / 16 = ys[k].1 by omega] at h6
          exact absurd hpk ((List.pairwise_iff_getElem.1 (lay_ll hl)) j k hj hk hjk _ h6)
      have g2 : hasL ys[k] (ys[k].1 * 16) = true := (hasL_iff hy _).2 (by omega)
      rw [dS_end g0, dL_hit hk g1 g2]
      have hof2 : offL ys[k] (ys[k].1 * 16) = 0 := by
        unfold offL lOff
        rw [if_pos (show lHas ys[k].1 ys[k].2.1 ys[k].2.2 (ys[k].1 * 16) = true from g2)]
        omega
      refine ⟨by omega, by omega, ?_⟩
      simp only [ownL]
      rw [hof2]
    · rw [dS_end h0, dL_end h1]
      simp only [Int.sub_zero]
      rw [dS_end h0, dL_end h1]
      simp
end Go.Proofs.Ytjimpmdelnnflaa
