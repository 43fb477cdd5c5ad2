/- Layouts, the plain law: the live cells are the addresses that denote them. -/
import Derived.Test.YtjimpmdelnnflaaLayW
import Derived.Test.YtjimpmdelnnflaaLayDs
import Derived.Test.YtjimpmdelnnflaaLayD
namespace Go.Proofs.Ytjimpmdelnnflaa
set_option linter.unusedVariables false
set_option linter.unusedSimpArgs false

/-- The sum of the first n. -/
def sm (f : Nat → Int) : Nat → Int
  | 0 => 0
  | n + 1 => sm f n + f n
theorem sm_congr {f g : Nat → Int} : ∀ {n : Nat}, (∀ i, i < n → f i = g i) → sm f n = sm g n
  | 0, _ => rfl
  | n + 1, h => by
    rw [sm, sm, sm_congr (fun i hi => h i (by omega)), h n (by omega)]
theorem sm_add (f g : Nat → Int) : ∀ n, sm (fun i => f i + g i) n = sm f n + sm g n
  | 0 => rfl
  | n + 1 => by
    rw [sm, sm, sm, sm_add f g n]
    omega
theorem sm_zero : ∀ n, sm (fun _ => 0) n = 0
  | 0 => rfl
  | n + 1 => by rw [sm, sm_zero n]; rfl
theorem sm_list {α : Type} (F : α → Nat → Int) (n : Nat) : ∀ l : List α, sm (fun a => (l.map (fun x => F x a)).sum) n = (l.map (fun x => sm (F x) n)).sum
  | [] => by simpa using sm_zero n
  | x :: l => by
    have h := sm_list F n l
    simp only [List.map_cons, List.sum_cons]
    rw [sm_add, h]
theorem sm_window (g : Nat → Int) (s len : Nat) : ∀ N, sm (fun a => if s ≤ a ∧ a < s + len then g (a - s) else 0) N = sm g (min len (N - s))
  | 0 => by simp [sm]
  | N + 1 => by
    rw [sm, sm_window g s len N]
    by_cases h1 : s ≤ N
    · by_cases h2 : N < s + len
      · rw [if_pos ⟨h1, h2⟩, show min len (N + 1 - s) = (min len (N - s)) + 1 by omega, sm, show min len (N - s) = N - s by omega]
      · rw [if_neg (by omega), show min len (N + 1 - s) = min len (N - s) by omega]
        omega
    · rw [if_neg (by omega), show min len (N + 1 - s) = min len (N - s) by omega]
      omega
theorem sm_one : ∀ n : Nat, sm (fun _ => 1) n = n
  | 0 => rfl
  | n + 1 => by rw [sm, sm_one n]; omega
theorem sm_bd {f : Nat → Int} (h : ∀ i, 0 ≤ f i ∧ f i ≤ 1) : ∀ n : Nat, 0 ≤ sm f n ∧ sm f n ≤ n
  | 0 => by simp [sm]
  | n + 1 => by
    have := sm_bd h n
    have := h n
    rw [sm]
    omega
theorem sum_none {α : Type} {F : α → Int} : ∀ {l : List α}, (∀ x ∈ l, F x = 0) → (l.map F).sum = 0
  | [], _ => by simp
  | x :: l, h => by
    rw [List.map_cons, List.sum_cons, h x (by simp), sum_none (fun y hy => h y (by simp [hy]))]
    rfl
theorem sum_one {α : Type} {F : α → Int} : ∀ {l : List α} {k : Nat} (hk : k < l.length), (∀ j (hj : j < l.length), j ≠ k → F l[j] = 0) → (l.map F).sum = F l[k]
  | x :: l, 0, hk, h => by
    rw [List.map_cons, List.sum_cons, sum_none (F := F) (l := l) (fun y hy => by
      obtain ⟨j, hj, rfl⟩ := List.getElem_of_mem hy
      have := h (j + 1) (by simpa using hj) (by omega)
      simpa using this)]
    simp
  | x :: l, k + 1, hk, h => by
    have h0 := h 0 (by simp) (by omega)
    have ih := sum_one (l := l) (k := k) (by simpa using hk) (fun j hj hne => by
      have := h (j + 1) (by simpa using hj) (by omega)
      simpa using this)
    simp only [List.getElem_cons_zero] at h0
    rw [List.map_cons, List.sum_cons, h0, ih]
    simp
def isLive (t : T4) : Prop := t.1 = 1 ∨ t.1 = 3
instance (t : T4) : Decidable (isLive t) := inferInstanceAs (Decidable (_ ∨ _))
def ind (xs ys : List T3) (a : Nat) : Int := if isLive (den xs ys a) then 1 else 0
def sInd (x : T3) (a : Nat) : Int := if ¬ atS x a < 0 ∧ hasS x.2.2 (atS x a) = true then 1 else 0
def lInd (y : T3) (a : Nat) : Int := if hasL y a = true then 1 else 0
theorem ind_eq {xs ys : List T3} (hl : layOk xs ys = true) (a : Nat) : ind xs ys a = (xs.map (fun x => sInd x a)).sum + (ys.map (fun y => lInd y a)).sum := by
  obtain ⟨hsp, hlg, -⟩ := lay_facts hl
  have s0 : ∀ x, atS x (a : Int) < 0 → sInd x a = 0 := fun x h => by simp [sInd, h]
  have l0 : ∀ y, hasL y (a : Int) = false → lInd y a = 0 := fun y h => by simp [lInd, h]
  unfold ind
  rw [den_yes hl]
  rcases held xs ys (a : Int) with ⟨k, hk, h1, h2⟩ | ⟨k, hk, h0, h1, h2⟩ | ⟨h0, h1⟩
  · have hx := hsp _ (List.getElem_mem hk)
    have hp := (atS_iff hx (a : Int)).1 h2
    have e1 := sum_one (F := fun x => sInd x a) hk (fun j hj hne => s0 _ (Classical.byContradiction fun hc => by
      have h6 := (atS_iff (hsp _ (List.getElem_mem hj)) (a : Int)).1 hc
      rcases (by omega : j < k ∨ k < j) with h7 | h7
      · exact (List.pairwise_iff_getElem.1 (lay_ss hl)) j k hj hk h7 (by rw [← h6, hp])
      · exact (List.pairwise_iff_getElem.1 (lay_ss hl)) k j hk hj h7 (by rw [← h6, hp])))
    have e2 := sum_none (F := fun y => lInd y a) (l := ys) (fun y hy => l0 _ (by
      cases e : hasL y (a : Int)
      · rfl
      · have h6 := hasL_pg (hlg _ hy) e
        rw [hp] at h6
        exact absurd h6 (lay_sl hl (List.getElem_mem hk) hy)))
    rw [e1, e2, dS_hit hk h1 h2]
    simp only [ownS, isLive, sInd]
    by_cases hh : hasS xs[k].2.2 (atS xs[k] (a : Int)) = true <;> simp [hh, h2]
  · have hy := hlg _ (List.getElem_mem hk)
    have hp := hasL_pg hy h2
    have e1 := sum_none (F := fun x => sInd x a) (l := xs) (fun x hx => by
      obtain ⟨j, hj, rfl⟩ := List.getElem_of_mem hx
      exact s0 _ (h0 j hj))
    have e2 := sum_one (F := fun y => lInd y a) hk (fun j hj hne => l0 _ (by
      cases e : hasL ys[j] (a : Int)
      · rfl
      · have h6 := hasL_pg (hlg _ (List.getElem_mem hj)) e
        rcases (by omega : j < k ∨ k < j) with h7 | h7
        · exact absurd hp ((List.pairwise_iff_getElem.1 (lay_ll hl)) j k hj hk h7 _ h6)
        · exact absurd h6 ((List.pairwise_iff_getElem.1 (lay_ll hl)) k j hk hj h7 _ hp)))
    rw [e1, e2, dS_end h0, dL_hit hk h1 h2]
    simp [ownL, isLive, lInd, h2]
  · have e1 := sum_none (F := fun x => sInd x a) (l := xs) (fun x hx => by
      obtain ⟨j, hj, rfl⟩ := List.getElem_of_mem hx
      exact s0 _ (h0 j hj))
    have e2 := sum_none (F := fun y => lInd y a) (l := ys) (fun y hy => by
      obtain ⟨j, hj, rfl⟩ := List.getElem_of_mem hy
      exact l0 _ (h1 j hj))
    rw [e1, e2, dS_end h0, dL_end h1]
    simp [isLive]
theorem filt_sm (p : Nat → Bool) : ∀ n, (((List.range n).filter p).length : Int) = sm (fun i => if p i = true then 1 else 0) n
  | 0 => rfl
  | n + 1 => by
    rw [List.range_succ, List.filter_append, List.length_append, sm, ← filt_sm p n]
    cases h : p n <;> simp [h]
theorem sInd_sum {x : T3} (hx : spO x = true) : sm (sInd x) 512 = spN x := by
  have hy := spOk_yes hx
  obtain ⟨P, hP⟩ : ∃ P : Nat, x.1 = (P : Int) := ⟨x.1.toNat, by omega⟩
  have h1 : ∀ a : Nat, sInd x a = if 16 * P ≤ a ∧ a < 16 * P + 16 then (fun i : Nat => if hasS x.2.2 ((i : Int) / cs x.2.1) = true then (1 : Int) else 0) (a - 16 * P) else 0 := by
    intro a
    by_cases h : 16 * P ≤ a ∧ a < 16 * P + 16
    · have hp : (a : Int) / 16 = x.1 := by omega
      rw [if_pos h]
      have h2 := (atS_iff hx (a : Int)).2 hp
      have h3 := (atS_yes hx hp).1
      unfold sInd
      have h4 : ((a - 16 * P : Nat) : Int) = (a : Int) - x.1 * 16 := by omega
      simp only [h4]
      rw [← h3]
      simp [h2]
    · rw [if_neg h]
      have h2 : atS x (a : Int) < 0 := Classical.byContradiction fun hc => by
        have := (atS_iff hx (a : Int)).1 hc
        omega
      simp [sInd, h2]
  have h5 := (sm_congr (fun i _ => h1 i)).trans (sm_window (fun i : Nat => if hasS x.2.2 ((i : Int) / cs x.2.1) = true then (1 : Int) else 0) (16 * P) 16 512)
  rw [show min 16 (512 - 16 * P) = 16 by omega] at h5
  rw [h5]
  unfold spN
  rw [sCells_yes (show spOk x.1 x.2.1 x.2.2 = true from hx), spc, List.length_map, filt_sm]
theorem lInd_sum {y : T3} (hy : lgO y = true) : sm (lInd y) 512 = y.2.2 := by
  have h := lOk_yes hy
  obtain ⟨P, hP⟩ : ∃ P : Nat, y.1 = (P : Int) := ⟨y.1.toNat, by omega⟩
  obtain ⟨S, hS⟩ : ∃ S : Nat, y.2.2 = (S : Int) := ⟨y.2.2.toNat, by omega⟩
  have h1 : ∀ a : Nat, lInd y a = if 16 * P ≤ a ∧ a < 16 * P + S then (fun _ : Nat => (1 : Int)) (a - 16 * P) else 0 := by
    intro a
    have h2 := hasL_iff hy (a : Int)
    unfold lInd
    by_cases h3 : 16 * P ≤ a ∧ a < 16 * P + S
    · rw [if_pos h3, if_pos (h2.2 (by omega))]
    · rw [if_neg h3, if_neg (fun e => h3 (by have := h2.1 e; omega))]
  have h5 := (sm_congr (fun i _ => h1 i)).trans (sm_window (fun _ : Nat => (1 : Int)) (16 * P) S 512)
  rw [show min S (512 - 16 * P) = S by omega, sm_one] at h5
  rw [h5, hS]
theorem map_congr' {α : Type} {F G : α → Int} : ∀ {l : List α}, (∀ x ∈ l, F x = G x) → l.map F = l.map G
  | [], _ => rfl
  | x :: l, h => by rw [List.map_cons, List.map_cons, h x (by simp), map_congr' (fun y hy => h y (by simp [hy]))]
theorem live_law {xs ys : List T3} (hl : layOk xs ys = true) : sm (ind xs ys) 512 = liveN xs ys := by
  obtain ⟨hsp, hlg, -⟩ := lay_facts hl
  rw [sm_congr (fun i _ => ind_eq hl i), sm_add, sm_list, sm_list, map_congr' (fun x hx => sInd_sum (hsp x hx)), map_congr' (fun y hy => lInd_sum (hlg y hy))]
  simp [liveN, hl, lvA, lvB, List.take_length]
theorem top_free {xs ys : List T3} {p : Int} (h : LayInv xs ys p) (hp : p ≤ 31) : den xs ys 511 = (0, 0, 0, 0) := by
  rw [den_yes h.ok]
  rcases held xs ys 511 with ⟨k, hk, h1, h2⟩ | ⟨k, hk, h0, h1, h2⟩ | ⟨h0, h1⟩
  · have h3 := (atS_iff (h.sp _ (List.getElem_mem hk)) 511).1 h2
    have h4 := (h.bd xs[k].1 (List.mem_append_left _ (List.mem_map.2 ⟨_, List.getElem_mem hk, rfl⟩))).2
    omega
  · have h3 := hasL_pg (h.lg _ (List.getElem_mem hk)) h2
    have h4 := (h.bd _ (List.mem_append_right _ (List.mem_flatMap.2 ⟨_, List.getElem_mem hk, h3⟩))).2
    omega
  · rw [dS_end h0, dL_end h1]
end Go.Proofs.Ytjimpmdelnnflaa
