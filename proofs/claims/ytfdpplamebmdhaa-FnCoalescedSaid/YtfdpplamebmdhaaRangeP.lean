/- RangePut, the plain law: what the program's loop gives is what the reference's loop gives, joined. No program is named here. -/
import Derived.Test.YtfdpplamebmdhaaRangeU
namespace Go.Proofs.Ytfdpplamebmdhaa
open Go.ChangeShapes Go.WideShapes Go.ChangeAt Go.RowKit
set_option linter.unusedVariables false

abbrev Rg := Int × Int
def ovB (x r : Rg) : Bool := decide (x.1 < r.1 + r.2) && decide (r.1 < x.1 + x.2)
/-- The program's loop: what is still to come out. -/
def ip (r : Rg) (done : Bool) : List Rg → Option (List Rg)
  | [] => some (if done then [] else [r])
  | x :: l => if ovB x r = true then none
    else if x.1 + x.2 = r.1 then ip (x.1, x.2 + r.2) done l
    else if r.1 + r.2 = x.1 then ip (r.1, r.2 + x.2) done l
    else if r.1 < x.1 ∧ done = false then (ip r true l).map (fun t => r :: x :: t)
    else (ip r done l).map (fun t => x :: t)
def sp (r : Rg) (put : Bool) : List Rg → Option (List Rg)
  | [] => some (if put then [] else [r])
  | x :: l => if ovB x r = true then none
    else if put = false ∧ r.1 < x.1 then (sp r true l).map (fun t => r :: x :: t)
    else (sp r put l).map (fun t => x :: t)
def jn (cur : Rg) : List Rg → List Rg
  | [] => [cur]
  | x :: l => if cur.1 + cur.2 = x.1 then jn (cur.1, cur.2 + x.2) l else cur :: jn x l
def join : List Rg → List Rg
  | [] => []
  | x :: l => jn x l
def srt (lo : Int) : List Rg → Prop
  | [] => True
  | x :: l => lo < x.1 ∧ 1 ≤ x.2 ∧ srt (x.1 + x.2) l
theorem ovB_f {x r : Rg} (h : ¬ (x.1 < r.1 + r.2 ∧ r.1 < x.1 + x.2)) : ovB x r = false := by
  simp [ovB]; omega
theorem ovB_t {x r : Rg} (h : x.1 < r.1 + r.2 ∧ r.1 < x.1 + x.2) : ovB x r = true := by
  simp [ovB]; omega
theorem sp_beyond {r : Rg} (hr : 1 ≤ r.2) : ∀ {l : List Rg} {lo : Int}, srt lo l → r.1 + r.2 ≤ lo → sp r true l = some l
  | [], _, _, _ => rfl
  | x :: l, lo, h, hl => by
    obtain ⟨h1, h2, h3⟩ := h
    have h4 := sp_beyond hr h3 (by omega)
    have h5 : ovB x r = false := ovB_f (by omega)
    simp [sp, h5, h4]
theorem ip_beyond {r : Rg} (hr : 1 ≤ r.2) : ∀ {l : List Rg} {lo : Int}, srt lo l → r.1 + r.2 ≤ lo → ip r true l = some l
  | [], _, _, _ => rfl
  | x :: l, lo, h, hl => by
    obtain ⟨h1, h2, h3⟩ := h
    have h4 := ip_beyond hr h3 (by omega)
    have h5 : ovB x r = false := ovB_f (by omega)
    have h6 : ¬ (x.1 + x.2 = r.1) := by omega
    have h7 : ¬ (r.1 + r.2 = x.1) := by omega
    simp [ip, h5, h4, h6, h7]
theorem ip_beyond0 {r : Rg} (hr : 1 ≤ r.2) {l : List Rg} {lo : Int} (h : srt lo l) (hl : r.1 + r.2 ≤ lo) : ip r false l = some (r :: l) := by
  cases l with
  | nil => rfl
  | cons x l =>
    obtain ⟨h1, h2, h3⟩ := h
    have h4 := ip_beyond hr h3 (by omega)
    have h5 : ovB x r = false := ovB_f (by omega)
    have h6 : ¬ (x.1 + x.2 = r.1) := by omega
    have h7 : ¬ (r.1 + r.2 = x.1) := by omega
    have h8 : r.1 < x.1 := by omega
    simp [ip, h5, h4, h6, h7, h8]
theorem jn_srt : ∀ {l : List Rg} {c : Rg}, srt (c.1 + c.2) l → jn c l = c :: l
  | [], _, _ => rfl
  | x :: l, c, h => by
    obtain ⟨h1, h2, h3⟩ := h
    have h4 : ¬ (c.1 + c.2 = x.1) := by omega
    simp [jn, h4, jn_srt h3]
theorem sp_head {r : Rg} {lo : Int} (hr : lo < r.1) : ∀ {l : List Rg}, srt lo l → ∀ l', sp r false l = some l' → ∀ y t, l' = y :: t → lo < y.1
  | [], _, l', h, y, t, e => by
    simp [sp] at h
    rw [← h] at e
    injection e with e _
    rw [← e]
    exact hr
  | x :: l, hs, l', h, y, t, e => by
    obtain ⟨h1, _, _⟩ := hs
    simp only [sp] at h
    split at h
    · cases h
    · split at h
      · cases hq : sp r true l with
        | none => rw [hq] at h; cases h
        | some q =>
          rw [hq] at h
          injection h with h
          rw [← h] at e
          injection e with e _
          rw [← e]
          exact hr
      · cases hq : sp r false l with
        | none => rw [hq] at h; cases h
        | some q =>
          rw [hq] at h
          injection h with h
          rw [← h] at e
          injection e with e _
          rw [← e]
          exact h1
theorem ip_merge {x r : Rg} (hx : 1 ≤ x.2) (hr : 1 ≤ r.2) (he : x.1 + x.2 = r.1) {l : List Rg} (hs : srt r.1 l) : ip (x.1, x.2 + r.2) false l = (sp r false l).map (jn x) := by
  cases l with
  | nil => simp [ip, sp, jn, he]
  | cons y l =>
    obtain ⟨h1, h2, h3⟩ := hs
    by_cases ho : y.1 < r.1 + r.2
    · have o1 : ovB y (x.1, x.2 + r.2) = true := ovB_t (by simp only; omega)
      have o2 : ovB y r = true := ovB_t (by omega)
      simp [ip, sp, o1, o2]
    · have o1 : ovB y (x.1, x.2 + r.2) = false := ovB_f (by simp only; omega)
      have o2 : ovB y r = false := ovB_f (by omega)
      have h6 : ¬ (y.1 + y.2 = x.1) := by omega
      have s1 := sp_beyond hr h3 (by omega)
      have s2 : sp r false (y :: l) = some (r :: y :: l) := by simp [sp, o2, h1, s1]
      rw [s2]
      have j1 : jn x (r :: y :: l) = jn (x.1, x.2 + r.2) (y :: l) := by simp [jn, he]
      by_cases ht : x.1 + (x.2 + r.2) = y.1
      · have i1 := ip_beyond0 (r := (x.1, x.2 + r.2 + y.2)) (by simp only; omega) h3 (by simp only; omega)
        have j2 := jn_srt (c := (x.1, x.2 + r.2 + y.2)) (l := l) (by simp only; rw [show x.1 + (x.2 + r.2 + y.2) = y.1 + y.2 by omega]; exact h3)
        have i2 : ip (x.1, x.2 + r.2) false (y :: l) = ip (x.1, x.2 + r.2 + y.2) false l := by simp [ip, o1, h6, ht]
        have j3 : jn (x.1, x.2 + r.2) (y :: l) = jn (x.1, x.2 + r.2 + y.2) l := by simp [jn, ht]
        rw [i2, i1, Option.map_some, j1, j3, j2]
      · have i1 := ip_beyond (r := (x.1, x.2 + r.2)) (by simp only; omega) h3 (by simp only; omega)
        have h8 : x.1 < y.1 := by omega
        have i2 : ip (x.1, x.2 + r.2) false (y :: l) = some ((x.1, x.2 + r.2) :: y :: l) := by simp [ip, o1, h6, ht, h8, i1]
        have j3 : jn (x.1, x.2 + r.2) (y :: l) = (x.1, x.2 + r.2) :: y :: l := by simp [jn, ht, jn_srt h3]
        rw [i2, Option.map_some, j1, j3]
theorem ip_sp {r : Rg} (hr : 1 ≤ r.2) : ∀ {l : List Rg} {lo : Int}, srt lo l → lo < r.1 → ip r false l = (sp r false l).map join
  | [], _, _, _ => by simp [ip, sp, join, jn]
  | x :: l, lo, hs, hl => by
    obtain ⟨h1, h2, h3⟩ := hs
    by_cases ho : x.1 < r.1 + r.2 ∧ r.1 < x.1 + x.2
    · have o1 := ovB_t ho
      simp [ip, sp, o1]
    · have o1 := ovB_f ho
      by_cases hm : x.1 + x.2 = r.1
      · have h4 := ip_merge h2 hr hm (by rw [← hm]; exact h3)
        have h5 : ¬ (r.1 < x.1) := by omega
        have i1 : ip r false (x :: l) = ip (x.1, x.2 + r.2) false l := by simp [ip, o1, hm]
        have s1 : sp r false (x :: l) = (sp r false l).map (fun t => x :: t) := by simp [sp, o1, h5]
        rw [i1, s1, h4, Option.map_map]
        rfl
      · by_cases hx : r.1 < x.1
        · have s1 := sp_beyond hr h3 (by omega)
          have s2 : sp r false (x :: l) = some (r :: x :: l) := by simp [sp, o1, hx, s1]
          rw [s2, Option.map_some]
          by_cases ht : r.1 + r.2 = x.1
          · have i1 := ip_beyond0 (r := (r.1, r.2 + x.2)) (by simp only; omega) h3 (by simp only; omega)
            have i2 : ip r false (x :: l) = ip (r.1, r.2 + x.2) false l := by simp [ip, o1, hm, ht]
            have j1 := jn_srt (c := (r.1, r.2 + x.2)) (l := l) (by simp only; rw [show r.1 + (r.2 + x.2) = x.1 + x.2 by omega]; exact h3)
            have j2 : join (r :: x :: l) = jn (r.1, r.2 + x.2) l := by simp [join, jn, ht]
            rw [i2, i1, j2, j1]
          · have i1 := ip_beyond hr h3 (by omega)
            have i2 : ip r false (x :: l) = some (r :: x :: l) := by simp [ip, o1, hm, ht, hx, i1]
            have j2 : join (r :: x :: l) = r :: x :: l := by simp [join, jn, ht, jn_srt h3]
            rw [i2, j2]
        · have h4 := ip_sp hr h3 (show x.1 + x.2 < r.1 by omega)
          have h6 : ¬ (r.1 + r.2 = x.1) := by omega
          have i1 : ip r false (x :: l) = (ip r false l).map (fun t => x :: t) := by simp [ip, o1, hm, h6, hx]
          have s1 : sp r false (x :: l) = (sp r false l).map (fun t => x :: t) := by simp [sp, o1, hx]
          rw [i1, s1, h4]
          have hh := sp_head (show x.1 + x.2 < r.1 by omega) h3
          cases hq : sp r false l with
          | none => rfl
          | some q =>
            simp only [Option.map_some, join]
            congr 1
            cases q with
            | nil => rfl
            | cons y t =>
              have := hh _ hq y t rfl
              have h7 : ¬ (x.1 + x.2 = y.1) := by omega
              simp [jn, h7]
/-- The join as the reference's loop makes it. -/
def jstep (out : List Rg) (x : Rg) : List Rg :=
  match out.getLast? with
  | none => [x]
  | some c => if c.1 + c.2 = x.1 then out.dropLast ++ [(c.1, c.2 + x.2)] else out ++ [x]
theorem jstep_fold : ∀ (l : List Rg) (o : List Rg) (c : Rg), l.foldl jstep (o ++ [c]) = o ++ jn c l
  | [], o, c => by simp [jn]
  | x :: l, o, c => by
    simp only [List.foldl_cons, jstep, List.getLast?_append, List.getLast?_singleton, Option.some_or]
    by_cases h : c.1 + c.2 = x.1
    · rw [if_pos h, List.dropLast_concat, jstep_fold]
      simp [jn, h]
    · rw [if_neg h, jstep_fold]
      simp [jn, h]
theorem jstep_join (l : List Rg) : l.foldl jstep [] = join l := by
  cases l with
  | nil => rfl
  | cons x l =>
    have := jstep_fold l [] x
    simpa [jstep, join] using this
theorem srt_of {pages : Int} {xs : List Rg} (h : ∀ j, j < xs.length → okAt pages xs j = true) : ∀ (k : Nat) (lo : Int), (∀ hk : k < xs.length, lo < xs[k].1) → srt lo (xs.drop k) := by
  intro k
  induction hn : xs.length - k generalizing k with
  | zero =>
    intro lo _
    rw [List.drop_eq_nil_of_le (by omega)]
    trivial
  | succ n ih =>
    intro lo hlo
    have hk : k < xs.length := by omega
    rw [List.drop_eq_getElem_cons hk]
    have h1 := rInB_yes (okAt_in hk (h k hk))
    refine ⟨hlo hk, h1.1, ih (k + 1) (by omega) _ (fun hk2 => ?_)⟩
    have h2 := h (k + 1) hk2
    rw [okAt_succ hk2] at h2
    simp at h2
    exact h2.2
theorem rOkB_facts {pages : Int} {xs : List Rg} (h : rOkB pages xs = true) : (∀ j, j < xs.length → okAt pages xs j = true) ∧ 1 ≤ pages ∧ pages ≤ 32 := by
  simp only [rOkB, Bool.and_eq_true, List.all_eq_true] at h
  have := of_btw h.2
  exact ⟨fun j hj => h.1 j (List.mem_range.2 hj), this⟩
/-- Ranges within the pages, each behind the one ahead: so there are at most 32. -/
theorem srt_all {pages : Int} {xs : List Rg} (h : rOkB pages xs = true) : srt (-1) xs := by
  have h1 := rOkB_facts h
  have := srt_of h1.1 0 (-1) (fun hk => by have := rInB_yes (okAt_in hk (h1.1 0 hk)); omega)
  simpa using this
theorem srt_len : ∀ {l : List Rg} {lo hi : Int}, srt lo l → lo ≤ hi → (∀ x ∈ l, x.1 + x.2 ≤ hi) → (l.length : Int) ≤ hi - lo
  | [], lo, hi, _, h, _ => by simp; omega
  | x :: l, lo, hi, hs, _, hx => by
    obtain ⟨h1, h2, h3⟩ := hs
    have h4 := srt_len h3 (hx x (by simp)) (fun y hy => hx y (by simp [hy]))
    simp only [List.length_cons]
    omega
theorem rOk_len {pages : Int} {xs : List Rg} (h : rOkB pages xs = true) : xs.length ≤ 33 := by
  have h1 := rOkB_facts h
  have h2 := srt_len (srt_all h) (hi := 32) (by omega) (fun x hx => by
    obtain ⟨j, hj, rfl⟩ := List.getElem_of_mem hx
    have := rInB_yes (okAt_in hj (h1.1 j hj))
    omega)
  omega
/-- What RangePut says. -/
def rPut (pages : Int) (xs : List Rg) (r : Rg) : Option (List Rg) := if rOkB pages xs && rInB pages r then ip r false xs else none
theorem rPut_sp {pages : Int} {xs : List Rg} {r : Rg} (h1 : rOkB pages xs = true) (h2 : rInB pages r = true) : rPut pages xs r = (sp r false xs).map join := by
  obtain ⟨a, b⟩ := r
  have h3 := rInB_yes h2
  rw [rPut, h1, h2]
  exact ip_sp (by simp only; omega) (srt_all h1) (by simp only; omega)
end Go.Proofs.Ytfdpplamebmdhaa
