/- Layouts: the plain law. -/
import Derived.Test.YtjimpmdelnnflaaSpanP
import Derived.Test.YtjimpmdelnnflaaLargeA
import Derived.Test.YtjimpmdelnnflaaFlat3
namespace Go.Proofs.Ytjimpmdelnnflaa
set_option linter.unusedVariables false
set_option linter.unusedSimpArgs false

abbrev T3 := Int × Int × Int
def spO (x : T3) : Bool := spOk x.1 x.2.1 x.2.2
def lgO (x : T3) : Bool := lOk x.1 x.2.1 x.2.2
/-- The first i pages of a large object. -/
def lpg (l : T3) (i : Nat) : List Int := (List.range i).map (fun t : Nat => l.1 + (t : Int))
def lall (l : T3) : List Int := lpg l l.2.1.toNat
def pgs (xs ys : List T3) (k : Nat) : List Int := xs.map (·.1) ++ (ys.take k).flatMap lall
def layOk (xs ys : List T3) : Bool := xs.all spO && ys.all lgO && decide ((xs.map (·.1) ++ ys.flatMap lall).Nodup)
theorem lpg_succ (l : T3) (i : Nat) : lpg l (i + 1) = lpg l i ++ [l.1 + (i : Int)] := by simp [lpg, List.range_succ]
theorem lpg_len (l : T3) (i : Nat) : (lpg l i).length = i := by simp [lpg]
theorem pgs_succ {xs ys : List T3} {k : Nat} (h : k < ys.length) : pgs xs ys (k + 1) = pgs xs ys k ++ lall ys[k] := by
  unfold pgs
  rw [List.take_succ_eq_append_getElem h, List.flatMap_append, ← List.append_assoc]
  simp
theorem spg_succ {xs : List T3} {k : Nat} (h : k < xs.length) : (xs.take (k + 1)).map (·.1) = (xs.take k).map (·.1) ++ [xs[k].1] := by
  rw [List.take_succ_eq_append_getElem h, List.map_append]
  rfl
theorem lay_sp {xs ys : List T3} {k : Nat} (h : k < xs.length) (hb : spO xs[k] = false) : layOk xs ys = false := by
  have : xs.all spO = false := by
    rw [List.all_eq_false]
    exact ⟨xs[k], List.getElem_mem h, by simp [hb]⟩
  simp [layOk, this]
theorem lay_lg {xs ys : List T3} {k : Nat} (h : k < ys.length) (hb : lgO ys[k] = false) : layOk xs ys = false := by
  have : ys.all lgO = false := by
    rw [List.all_eq_false]
    exact ⟨ys[k], List.getElem_mem h, by simp [hb]⟩
  simp [layOk, this]
theorem lay_dup {xs ys : List T3} (h : ¬ (xs.map (·.1) ++ ys.flatMap lall).Nodup) : layOk xs ys = false := by simp [layOk, h]
theorem nodup_snoc' {l : List Int} {x : Int} (h : l.Nodup) (hx : x ∉ l) : (l ++ [x]).Nodup := by
  rw [List.nodup_append]
  exact ⟨h, by simp, fun a ha b hb e => by simp at hb; subst hb; subst e; exact hx ha⟩
theorem dup_mem {l r : List Int} {x : Int} (h : x ∈ l) : ¬ (l ++ x :: r).Nodup := by
  rw [List.nodup_append]
  exact fun hh => hh.2.2 x h x (by simp) rfl
theorem lay_sp_dup {xs ys : List T3} {k : Nat} (h : k < xs.length) (hm : xs[k].1 ∈ (xs.take k).map (·.1)) : layOk xs ys = false := by
  refine lay_dup ?_
  have e : xs = xs.take k ++ xs[k] :: xs.drop (k + 1) := by rw [List.getElem_cons_drop, List.take_append_drop]
  have e2 : xs.map (·.1) ++ ys.flatMap lall = (xs.take k).map (·.1) ++ xs[k].1 :: ((xs.drop (k + 1)).map (·.1) ++ ys.flatMap lall) := by
    have e3 : xs.map (·.1) = (xs.take k).map (·.1) ++ xs[k].1 :: (xs.drop (k + 1)).map (·.1) := (congrArg (fun l => List.map (·.1) l) e).trans (by rw [List.map_append, List.map_cons])
    rw [e3, List.append_assoc]
    rfl
  rw [e2]
  exact dup_mem hm
theorem lpg_split (l : T3) {i n : Nat} (h : i < n) : ∃ r, lpg l n = lpg l i ++ (l.1 + (i : Int)) :: r := by
  induction n with
  | zero => omega
  | succ n ih =>
    rw [lpg_succ]
    by_cases e : i = n
    · subst e; exact ⟨[], rfl⟩
    · obtain ⟨r, hr⟩ := ih (by omega)
      exact ⟨r ++ [l.1 + (n : Int)], by rw [hr]; simp⟩
theorem lay_lg_dup {xs ys : List T3} {k i : Nat} (h : k < ys.length) (hi : i < ys[k].2.1.toNat) (hm : ys[k].1 + (i : Int) ∈ pgs xs ys k ++ lpg ys[k] i) : layOk xs ys = false := by
  refine lay_dup ?_
  have e : ys = ys.take k ++ ys[k] :: ys.drop (k + 1) := by rw [List.getElem_cons_drop, List.take_append_drop]
  obtain ⟨r, hr⟩ := lpg_split ys[k] hi
  have e2 : xs.map (·.1) ++ ys.flatMap lall = (pgs xs ys k ++ lpg ys[k] i) ++ (ys[k].1 + (i : Int)) :: (r ++ (ys.drop (k + 1)).flatMap lall) := by
    have e3 : ys.flatMap lall = (ys.take k).flatMap lall ++ (lall ys[k] ++ (ys.drop (k + 1)).flatMap lall) := (congrArg (fun l => List.flatMap lall l) e).trans (by rw [List.flatMap_append, List.flatMap_cons])
    rw [e3, show lall ys[k] = lpg ys[k] ys[k].2.1.toNat from rfl, hr]
    simp only [pgs, List.append_assoc, List.cons_append]
  rw [e2]
  exact dup_mem hm
theorem lay_yes {xs ys : List T3} (h1 : ∀ j (hj : j < xs.length), spO xs[j] = true) (h2 : ∀ j (hj : j < ys.length), lgO ys[j] = true) (h3 : (pgs xs ys ys.length).Nodup) : layOk xs ys = true := by
  have a : xs.all spO = true := by
    rw [List.all_eq_true]
    intro x hx
    obtain ⟨j, hj, rfl⟩ := List.getElem_of_mem hx
    exact h1 j hj
  have b : ys.all lgO = true := by
    rw [List.all_eq_true]
    intro x hx
    obtain ⟨j, hj, rfl⟩ := List.getElem_of_mem hx
    exact h2 j hj
  simp only [pgs, List.take_length] at h3
  simp [layOk, a, b, h3]
theorem lay_facts {xs ys : List T3} (h : layOk xs ys = true) : (∀ x ∈ xs, spO x = true) ∧ (∀ y ∈ ys, lgO y = true) ∧ (xs.map (·.1) ++ ys.flatMap lall).Nodup := by
  simp only [layOk, Bool.and_eq_true, decide_eq_true_eq, List.all_eq_true] at h
  exact ⟨h.1.1, h.1.2, h.2⟩
theorem pgs_len (xs : List T3) {ys : List T3} (k : Nat) (h : ∀ j (hj : j < ys.length), j < k → lgO ys[j] = true) : (pgs xs ys k).length ≤ xs.length + k * 32 := by
  induction k with
  | zero => simp [pgs]
  | succ k ih =>
    have := ih (fun j hj hk => h j hj (by omega))
    by_cases hk : k < ys.length
    · rw [pgs_succ hk, List.length_append]
      have h1 := lOk_bd (h k hk (by omega))
      have h2 : (lall ys[k]).length = ys[k].2.1.toNat := lpg_len _ _
      omega
    · have e : pgs xs ys (k + 1) = pgs xs ys k := by simp [pgs, List.take_of_length_le (show ys.length ≤ k by omega), List.take_of_length_le (show ys.length ≤ k + 1 by omega)]
      rw [e]
      omega
end Go.Proofs.Ytjimpmdelnnflaa
