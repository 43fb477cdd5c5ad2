/- Lists of ranges, the plain laws: put a range that overlaps none; take some pages and put them back. -/
import Derived.Test.YtfdpplamebmdhaaRangeP
import Derived.Test.YtfdpplamebmdhaaRangeTkP
namespace Go.Proofs.Ytfdpplamebmdhaa
set_option linter.unusedVariables false
set_option linter.unusedSimpArgs false

def cov (xs : List Rg) (q : Int) : Prop := ∃ x ∈ xs, x.1 ≤ q ∧ q < x.1 + x.2
def tot (xs : List Rg) : Int := (xs.map (·.2)).sum
theorem cov_cons {x : Rg} {l : List Rg} {q : Int} : cov (x :: l) q ↔ (x.1 ≤ q ∧ q < x.1 + x.2) ∨ cov l q := by
  simp only [cov, List.mem_cons]
  constructor
  · rintro ⟨y, rfl | hy, h⟩
    · exact .inl h
    · exact .inr ⟨y, hy, h⟩
  · rintro (h | ⟨y, hy, h⟩)
    · exact ⟨x, .inl rfl, h⟩
    · exact ⟨y, .inr hy, h⟩
theorem cov_nil {q : Int} : cov [] q ↔ False := by simp [cov]
theorem tot_cons {x : Rg} {l : List Rg} : tot (x :: l) = x.2 + tot l := by simp [tot]
theorem tot_nil : tot [] = 0 := rfl
theorem srt_mono {l : List Rg} {lo lo' : Int} (h : srt lo l) (hl : lo' ≤ lo) : srt lo' l := by
  cases l with
  | nil => trivial
  | cons x l => exact ⟨by have := h.1; omega, h.2⟩
theorem srt_mem : ∀ {l : List Rg} {lo : Int}, srt lo l → ∀ x ∈ l, lo < x.1 ∧ 1 ≤ x.2
  | [], _, _, x, h => by simp at h
  | y :: l, lo, h, x, hx => by
    rcases List.mem_cons.1 hx with rfl | hx
    · exact ⟨h.1, h.2.1⟩
    · have h1 := srt_mem h.2.2 x hx
      have := h.1
      have := h.2.1
      omega
/-- c ahead of l, joined with its first where they touch. -/
def glue (c : Rg) : List Rg → List Rg
  | [] => [c]
  | y :: t => if c.1 + c.2 = y.1 then (c.1, c.2 + y.2) :: t else c :: y :: t
theorem glue_cons (c y : Rg) (t : List Rg) : glue c (y :: t) = if c.1 + c.2 = y.1 then (c.1, c.2 + y.2) :: t else c :: y :: t := rfl
theorem glue_srt {c : Rg} {l : List Rg} {lo : Int} (hc : lo < c.1) (h1 : 1 ≤ c.2) (hs : srt (c.1 + c.2 - 1) l) : srt lo (glue c l) := by
  cases l with
  | nil => exact ⟨hc, h1, trivial⟩
  | cons y t =>
    obtain ⟨a1, a2, a3⟩ := hs
    rw [glue_cons]
    split
    · rename_i e
      refine ⟨hc, by simp only; omega, ?_⟩
      simp only
      rw [show c.1 + (c.2 + y.2) = y.1 + y.2 by omega]
      exact a3
    · exact ⟨hc, h1, by omega, a2, a3⟩
theorem glue_tot (c : Rg) (l : List Rg) : tot (glue c l) = c.2 + tot l := by
  cases l with
  | nil => simp [glue, tot]
  | cons y t =>
    rw [glue_cons]
    split
    · simp only [tot_cons]; omega
    · simp only [tot_cons]
theorem glue_cov {c : Rg} {l : List Rg} (h1 : 1 ≤ c.2) (hp : ∀ y ∈ l, 1 ≤ y.2) (q : Int) : cov (glue c l) q ↔ (c.1 ≤ q ∧ q < c.1 + c.2) ∨ cov l q := by
  cases l with
  | nil => simp [glue, cov_cons, cov_nil]
  | cons y t =>
    rw [glue_cons]
    split
    · rename_i e
      have := hp y (by simp)
      simp only [cov_cons]
      constructor
      · rintro (h | h)
        · by_cases hq : q < c.1 + c.2
          · exact .inl ⟨h.1, hq⟩
          · exact .inr (.inl (by omega))
        · exact .inr (.inr h)
      · rintro (h | h | h)
        · exact .inl (by omega)
        · exact .inl (by omega)
        · exact .inr h
    · simp only [cov_cons]
theorem ip_glue {c : Rg} (h1 : 1 ≤ c.2) {l : List Rg} (hs : srt (c.1 + c.2 - 1) l) : ip c false l = some (glue c l) := by
  cases l with
  | nil => rfl
  | cons y t =>
    obtain ⟨a1, a2, a3⟩ := hs
    by_cases e : c.1 + c.2 = y.1
    · have hf : ovB y c = false := ovB_f (by omega)
      have hn : ¬ (y.1 + y.2 = c.1) := by omega
      have h5 := ip_beyond (r := (c.1, c.2 + y.2)) (by simp only; omega) a3 (by simp only; omega)
      have h6 := ip_beyond0 (r := (c.1, c.2 + y.2)) (by simp only; omega) a3 (by simp only; omega)
      simp [ip, hf, hn, e, glue, h6]
    · have h6 := ip_beyond0 (r := c) h1 (l := y :: t) (lo := c.1 + c.2) ⟨by omega, a2, a3⟩ (Int.le_refl _)
      rw [h6]
      simp [glue, e]
/-- What is put is put. -/
theorem ip_ok {r : Rg} (hr : 1 ≤ r.2) : ∀ {l : List Rg} {lo : Int}, srt lo l → lo < r.1 → (∀ x ∈ l, ovB x r = false) →
    ∃ ys, ip r false l = some ys ∧ srt lo ys ∧ tot ys = tot l + r.2 ∧ ∀ q, cov ys q ↔ cov l q ∨ (r.1 ≤ q ∧ q < r.1 + r.2)
  | [], lo, _, hl, _ => ⟨[r], rfl, ⟨hl, hr, trivial⟩, by simp [tot], fun q => by simp [cov_cons, cov_nil]⟩
  | x :: l, lo, hs, hl, ho => by
    obtain ⟨h1, h2, h3⟩ := hs
    have hox := ho x (by simp)
    have hno : ¬ (x.1 < r.1 + r.2 ∧ r.1 < x.1 + x.2) := by
      intro h
      rw [ovB_t h] at hox
      cases hox
    have hpos : ∀ y ∈ l, 1 ≤ y.2 := fun y hy => (srt_mem h3 y hy).2
    by_cases e1 : x.1 + x.2 = r.1
    · have hs2 : srt (x.1 + (x.2 + r.2) - 1) l := by
        cases l with
        | nil => trivial
        | cons y t =>
          obtain ⟨b1, b2, b3⟩ := h3
          have hoy := ho y (by simp)
          have : ¬ (y.1 < r.1 + r.2 ∧ r.1 < y.1 + y.2) := by
            intro h
            rw [ovB_t h] at hoy
            cases hoy
          exact ⟨by omega, b2, b3⟩
      have hg := ip_glue (c := (x.1, x.2 + r.2)) (by simp only; omega) hs2
      refine ⟨glue (x.1, x.2 + r.2) l, by simp only [ip, hox, e1, if_true]; rw [if_neg (by simp)]; exact hg, glue_srt h1 (by simp only; omega) hs2, by rw [glue_tot, tot_cons]; simp only; omega, fun q => ?_⟩
      rw [glue_cov (by simp only; omega) hpos, cov_cons]
      simp only
      constructor
      · rintro (h | h)
        · by_cases hq : q < x.1 + x.2
          · exact .inl (.inl ⟨h.1, hq⟩)
          · exact .inr (by omega)
        · exact .inl (.inr h)
      · rintro ((h | h) | h)
        · exact .inl (by omega)
        · exact .inr h
        · exact .inl (by omega)
    · by_cases e2 : r.1 + r.2 = x.1
      · have hs2 : srt (r.1 + (r.2 + x.2) - 1) l := by rw [show r.1 + (r.2 + x.2) - 1 = x.1 + x.2 - 1 by omega]; exact srt_mono h3 (by omega)
        have hg := ip_glue (c := (r.1, r.2 + x.2)) (by simp only; omega) hs2
        refine ⟨glue (r.1, r.2 + x.2) l, by simp only [ip, hox, e1, e2, if_true, if_false]; rw [if_neg (by simp)]; exact hg, glue_srt hl (by simp only; omega) hs2, by rw [glue_tot, tot_cons]; simp only; omega, fun q => ?_⟩
        rw [glue_cov (by simp only; omega) hpos, cov_cons]
        simp only
        constructor
        · rintro (h | h)
          · by_cases hq : q < r.1 + r.2
            · exact .inr ⟨h.1, hq⟩
            · exact .inl (.inl (by omega))
          · exact .inl (.inr h)
        · rintro ((h | h) | h)
          · exact .inl (by omega)
          · exact .inr h
          · exact .inl (by omega)
      · by_cases e3 : r.1 < x.1
        · have hb := ip_beyond hr h3 (by omega)
          refine ⟨r :: x :: l, by simp [ip, hox, e1, e2, e3, hb], ⟨hl, hr, by omega, h2, h3⟩, by simp only [tot_cons]; omega, fun q => ?_⟩
          rw [cov_cons (x := r)]
          exact Or.comm
        · obtain ⟨ys, i1, i2, i3, i4⟩ := ip_ok hr h3 (show x.1 + x.2 < r.1 by omega) (fun y hy => ho y (by simp [hy]))
          refine ⟨x :: ys, by simp [ip, hox, e1, e2, e3, i1], ⟨h1, h2, i2⟩, by simp only [tot_cons]; omega, fun q => ?_⟩
          rw [cov_cons, cov_cons, i4]
          constructor
          · rintro (h | h | h)
            · exact .inl (.inl h)
            · exact .inl (.inr h)
            · exact .inr h
          · rintro ((h | h) | h)
            · exact .inl h
            · exact .inr (.inl h)
            · exact .inr (.inr h)
/-- Some range is overlapped: nothing is put. -/
theorem ip_none {r : Rg} (hr : 1 ≤ r.2) : ∀ {l : List Rg} {lo : Int}, srt lo l → lo < r.1 → (∃ x ∈ l, x.1 ≤ r.1 ∧ r.1 + r.2 ≤ x.1 + x.2) → ip r false l = none
  | [], lo, _, _, h => by obtain ⟨x, hx, _⟩ := h; simp at hx
  | x :: l, lo, hs, hl, ⟨y, hy, h⟩ => by
    obtain ⟨h1, h2, h3⟩ := hs
    by_cases ho : x.1 < r.1 + r.2 ∧ r.1 < x.1 + x.2
    · simp [ip, ovB_t ho]
    · have hof := ovB_f ho
      have hy2 : y ∈ l := by
        rcases List.mem_cons.1 hy with rfl | hy
        · omega
        · exact hy
      have hb := srt_mem h3 y hy2
      have ih := ip_none hr h3 (show x.1 + x.2 < r.1 by omega) ⟨y, hy2, h⟩
      have e1 : ¬ (x.1 + x.2 = r.1) := by omega
      have e2 : ¬ (r.1 + r.2 = x.1) := by omega
      have e3 : ¬ (r.1 < x.1) := by omega
      simp [ip, hof, e1, e2, e3, ih]
theorem srt_split : ∀ {l t : List Rg} {lo : Int} {x : Rg}, srt lo (l ++ x :: t) → (∀ y ∈ l, y.1 + y.2 < x.1) ∧ lo < x.1 ∧ 1 ≤ x.2 ∧ srt (x.1 + x.2) t
  | [], t, lo, x, h => ⟨by simp, h.1, h.2.1, h.2.2⟩
  | y :: l, t, lo, x, h => by
    obtain ⟨h1, h2, h3⟩ := h
    obtain ⟨a1, a2, a3, a4⟩ := srt_split h3
    refine ⟨fun z hz => ?_, by omega, a3, a4⟩
    rcases List.mem_cons.1 hz with rfl | hz
    · exact a2
    · exact a1 z hz
theorem srt_swap : ∀ {l t t' : List Rg} {lo : Int} {x : Rg}, srt lo (l ++ x :: t) → (∀ lo', lo' < x.1 → srt lo' t') → srt lo (l ++ t')
  | [], t, t', lo, x, h, ht => ht lo h.1
  | y :: l, t, t', lo, x, h, ht => ⟨h.1, h.2.1, srt_swap h.2.2 ht⟩
theorem ip_skip {r : Rg} : ∀ {l t : List Rg} {lo : Int}, srt lo (l ++ t) → 1 ≤ r.2 → (∀ y ∈ l, y.1 + y.2 < r.1) → ip r false (l ++ t) = (ip r false t).map (fun z => l ++ z)
  | [], t, lo, _, _, _ => by simp
  | x :: l, t, lo, hs, hr, hl => by
    have hx := hl x (by simp)
    obtain ⟨h1, h2, h3⟩ := hs
    have ho : ovB x r = false := ovB_f (by omega)
    have e1 : ¬ (x.1 + x.2 = r.1) := by omega
    have e2 : ¬ (r.1 + r.2 = x.1) := by omega
    have e3 : ¬ (r.1 < x.1) := by omega
    have ih := ip_skip h3 hr (fun y hy => hl y (by simp [hy]))
    rw [List.cons_append]
    simp [ip, ho, e1, e2, e3, ih]
    rfl
theorem rg_split {xs : List Rg} {j : Nat} (h : j < xs.length) : xs = xs.take j ++ xs[j] :: xs.drop (j + 1) := by rw [List.getElem_cons_drop, List.take_append_drop]
theorem tkL_split {n : Int} {xs : List Rg} {j : Nat} (h : j < xs.length) : tkL n xs j = xs.take j ++ (if xs[j].2 = n then xs.drop (j + 1) else (xs[j].1 + n, xs[j].2 - n) :: xs.drop (j + 1)) := by
  unfold tkL
  rw [getD_at h]
  split
  · rfl
  · rw [List.set_eq_take_append_cons_drop, if_pos h]
/-- Taken and put back: as it was; the taken pages are not held between. -/
theorem take_put {n : Int} {xs : List Rg} {j : Nat} {lo : Int} (h : j < xs.length) (hs : srt lo xs) (h1 : 1 ≤ n) (h2 : n ≤ xs[j].2) :
    srt lo (tkL n xs j) ∧ ip (xs[j].1, n) false (tkL n xs j) = some xs ∧ tot (tkL n xs j) = tot xs - n ∧ (∀ q, cov (tkL n xs j) q ↔ cov xs q ∧ ¬ (xs[j].1 ≤ q ∧ q < xs[j].1 + n)) := by
  have e := rg_split h
  rw [e] at hs
  obtain ⟨a1, a2, a3, a4⟩ := srt_split hs
  rw [tkL_split h]
  generalize xs[j] = x at *
  generalize xs.take j = l at *
  generalize xs.drop (j + 1) = t at *
  subst e
  obtain ⟨a, b⟩ := x
  simp only at a1 a2 a3 a4 h2 ⊢
  have hlo : ∀ y ∈ l, y.1 + y.2 < a := a1
  have ht : ∀ y ∈ t, a + b < y.1 ∧ 1 ≤ y.2 := srt_mem a4
  have hapart : ∀ q, (a ≤ q ∧ q < a + n) → ¬ cov l q ∧ ¬ cov t q := by
    intro q hq
    refine ⟨?_, ?_⟩
    · rintro ⟨y, hy, h⟩
      have := hlo y hy
      omega
    · rintro ⟨y, hy, h⟩
      have := ht y hy
      omega
  have cov_app : ∀ (u v : List Rg) q, cov (u ++ v) q ↔ cov u q ∨ cov v q := by
    intro u v q
    simp only [cov, List.mem_append]
    constructor
    · rintro ⟨y, hy | hy, h⟩
      · exact .inl ⟨y, hy, h⟩
      · exact .inr ⟨y, hy, h⟩
    · rintro (⟨y, hy, h⟩ | ⟨y, hy, h⟩)
      · exact ⟨y, .inl hy, h⟩
      · exact ⟨y, .inr hy, h⟩
  have tot_app : ∀ (u v : List Rg), tot (u ++ v) = tot u + tot v := by intro u v; simp [tot]
  by_cases hb : b = n
  · subst hb
    rw [if_pos rfl]
    have s1 : srt lo (l ++ t) := srt_swap hs (fun lo' hl' => srt_mono a4 (by simp only at hl'; omega))
    refine ⟨s1, ?_, by simp only [tot_app, tot_cons]; omega, fun q => ?_⟩
    · rw [ip_skip s1 h1 hlo, ip_beyond0 (r := (a, b)) h1 a4 (Int.le_refl _)]
      rfl
    · rw [cov_app, cov_app, cov_cons]
      simp only
      have := hapart q
      constructor
      · rintro (h | h)
        · exact ⟨.inl h, fun hq => (this hq).1 h⟩
        · exact ⟨.inr (.inr h), fun hq => (this hq).2 h⟩
      · rintro ⟨h | h | h, hq⟩
        · exact .inl h
        · exact absurd h hq
        · exact .inr h
  · rw [if_neg hb]
    have s0 : srt (a + n - 1) ((a + n, b - n) :: t) := ⟨by simp only; omega, by simp only; omega, by simp only; rw [show a + n + (b - n) = a + b by omega]; exact a4⟩
    have s1 : srt lo (l ++ (a + n, b - n) :: t) := srt_swap hs (fun lo' hl' => srt_mono s0 (by simp only at hl'; omega))
    refine ⟨s1, ?_, by simp only [tot_app, tot_cons]; omega, fun q => ?_⟩
    · rw [ip_skip s1 h1 hlo, ip_glue (c := (a, n)) h1 s0]
      simp only [glue, if_true, Option.map_some]
      rw [show n + (b - n) = b by omega]
    · rw [cov_app, cov_app, cov_cons, cov_cons]
      simp only
      have := hapart q
      constructor
      · rintro (h | h | h)
        · exact ⟨.inl h, fun hq => (this hq).1 h⟩
        · exact ⟨.inr (.inl (by omega)), by omega⟩
        · exact ⟨.inr (.inr h), fun hq => (this hq).2 h⟩
      · rintro ⟨h | h | h, hq⟩
        · exact .inl h
        · exact .inr (.inl (by omega))
        · exact .inr (.inr h)
theorem rOk_hi {pages : Int} {xs : List Rg} (h : rOkB pages xs = true) : ∀ x ∈ xs, x.1 + x.2 ≤ pages := by
  intro x hx
  obtain ⟨j, hj, rfl⟩ := List.getElem_of_mem hx
  have := rInB_yes (okAt_in hj ((rOkB_facts h).1 j hj))
  omega
theorem srt_next : ∀ {l : List Rg} {lo : Int} {k : Nat} (h : srt lo l) (hk : k + 1 < l.length), (l[k]'(by omega)).1 + (l[k]'(by omega)).2 < l[k + 1].1
  | x :: y :: l, lo, 0, h, _ => by simpa using h.2.2.1
  | x :: l, lo, k + 1, h, hk => by simpa using srt_next (l := l) (k := k) h.2.2 (by simpa using hk)
  | [], lo, k, h, hk => by simp at hk
  | [x], lo, 0, h, hk => by simp at hk
theorem rOk_of {pages : Int} {xs : List Rg} (h1 : 1 ≤ pages ∧ pages ≤ 32) (hs : srt (-1) xs) (hh : ∀ x ∈ xs, x.1 + x.2 ≤ pages) : rOkB pages xs = true := by
  rw [rOkB_all]
  · exact btw_t h1.1 h1.2
  · intro j hj
    have hm := srt_mem hs xs[j] (List.getElem_mem hj)
    have h3 := hh xs[j] (List.getElem_mem hj)
    have hin : rInB pages (xs[j].1, xs[j].2) = true := by
      simp only [rInB, Bool.and_eq_true]
      exact ⟨btw_t (by omega) (by omega), btw_t (by omega) (by omega)⟩
    cases j with
    | zero => rw [okAt_zero hj]; exact hin
    | succ j =>
      rw [okAt_succ hj, hin]
      have := srt_next hs hj
      simp [this]
theorem hi_of_cov {ys : List Rg} {lo hi : Int} (hs : srt lo ys) (h : ∀ q, cov ys q → q < hi) : ∀ y ∈ ys, y.1 + y.2 ≤ hi := by
  intro y hy
  have h1 := srt_mem hs y hy
  have := h (y.1 + y.2 - 1) ⟨y, hy, by omega, by omega⟩
  omega
/-- All pages are there: one range. -/
theorem cov_full {xs : List Rg} {n : Int} (hn : 1 ≤ n) (hs : srt (-1) xs) (h : ∀ q, cov xs q ↔ 0 ≤ q ∧ q < n) : xs = [(0, n)] := by
  cases xs with
  | nil =>
    have := (h 0).2 (by omega)
    simp [cov] at this
  | cons x l =>
    obtain ⟨h1, h2, h3⟩ := hs
    have hl := srt_mem h3
    have hx0 : x.1 = 0 := by
      obtain ⟨y, hy, h4⟩ := (h 0).2 (by omega)
      rcases List.mem_cons.1 hy with rfl | hy
      · omega
      · have := hl y hy
        omega
    have hnil : l = [] := by
      cases l with
      | nil => rfl
      | cons y t =>
        exfalso
        have hy := hl y (by simp)
        have hyc := (h y.1).1 ⟨y, by simp, by omega, by omega⟩
        obtain ⟨z, hz, h4⟩ := (h (x.1 + x.2)).2 (by omega)
        rcases List.mem_cons.1 hz with rfl | hz
        · omega
        · have := hl z hz
          omega
    subst hnil
    have hxn : x.2 = n := by
      have a := (h (x.1 + x.2 - 1)).1 ⟨x, by simp, by omega, by omega⟩
      rcases (by omega : x.2 = n ∨ x.2 < n) with h5 | h5
      · exact h5
      · obtain ⟨z, hz, h4⟩ := (h x.2).2 (by omega)
        simp at hz
        subst hz
        omega
    obtain ⟨a, b⟩ := x
    simp only at hx0 hxn
    subst hx0 hxn
    rfl
end Go.Proofs.Ytfdpplamebmdhaa
