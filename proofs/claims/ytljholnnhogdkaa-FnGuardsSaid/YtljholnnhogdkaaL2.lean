/- A slice of slices that a call makes: the outer row and the rows are the call's own. For copyCache, copyMail and their like, and for what is stored into such a slice. -/
import Derived.Test.YtljholnnhogdkaaSet
import Derived.Test.YtljholnnhogdkaaApp
namespace Go.Proofs.Ytljholnnhogdkaa
open Go.ChangeShapes Go.WideShapes Go.ChangeAt Go.RowKit
set_option linter.unusedVariables false

/-- The block of a slice's head. -/
def At (A : Option Addr) (x : Nat) : Prop := ∃ o, A = some ⟨x, o, none⟩
theorem own_lo' {w : World} {lo : Nat} {e : TypeId} {size n c m : Nat} {A : Option Addr} {xs : List Value} (h : w.ownsRow lo e size (.slice A n c) m xs) {x : Nat} (hx : At A x) : lo ≤ x ∧ x < w.heap.size := by
  obtain ⟨o, rfl⟩ := hx
  rcases h.2 with ⟨hv, _⟩ | ⟨g, cap, cur, h1, h2, h3, h4⟩
  · cases hv
  · injection h1 with h1
    injection h1 with h1
    injection h1 with h1
    subst h1
    exact ⟨h2, (Array.getElem?_eq_some_iff.1 h3).1⟩
theorem own_outS {S : Nat → Prop} {w w1 : World} {lo : Nat} {e : TypeId} {size n c m : Nat} {A : Option Addr} {xs : List Value} (h : w.ownsRow lo e size (.slice A n c) m xs) (ho : OutS S w w1) (hd : ∀ x, At A x → ¬ S x) : w1.ownsRow lo e size (.slice A n c) m xs := by
  refine ⟨h.1, ?_⟩
  rcases h.2 with h' | ⟨g, cap, cur, h1, h2, h3, h4⟩
  · exact .inl h'
  · have hA : A = some ⟨g, 0, none⟩ := by injection h1
    have hg : g < w.heap.size := (Array.getElem?_eq_some_iff.1 h3).1
    exact .inr ⟨g, cap, cur, h1, h2, (ho.block g hg (hd g ⟨0, hA⟩)).trans h3, h4⟩
theorem own_wr {w : World} {lo : Nat} {e : TypeId} {size n c : Nat} {A : Option Addr} {xs : List Value} (h : w.ownsRow lo e size (.slice A n c) n xs) : Wr w (At A) A xs := (Ow.mk' h).wr1
theorem own_mono {w : World} {lo lo' : Nat} {e : TypeId} {size n c m : Nat} {A : Option Addr} {xs : List Value} (h : w.ownsRow lo e size (.slice A n c) m xs) (hl : lo' ≤ lo) : w.ownsRow lo' e size (.slice A n c) m xs := by
  refine ⟨h.1, ?_⟩
  rcases h.2 with h' | ⟨g, cap, cur, h1, h2, h3⟩
  · exact .inl h'
  · exact .inr ⟨g, cap, cur, h1, Nat.le_trans hl h2, h3⟩
theorem own_nil {w : World} {lo : Nat} {e : TypeId} {size : Nat} : w.ownsRow lo e size (.slice none 0 0) 0 [] := ⟨by simp, .inl ⟨rfl, rfl⟩⟩

theorem Wr.pre {w : World} {S : Nat → Prop} {A : Option Addr} {xs ys : List Value} (h : Wr w S A (xs ++ ys)) : Wr w S A xs := by
  rcases h with h | ⟨b, off, rfl, hb, h⟩
  · exact .inl (List.append_eq_nil_iff.1 h).1
  · refine .inr ⟨b, off, rfl, hb, fun k v hk => h k v ?_⟩
    rw [List.getElem?_append_left (List.getElem?_eq_some_iff.1 hk).1, hk]
theorem Wr.post {w : World} {S : Nat → Prop} {b off : Nat} {xs ys : List Value} (h : Wr w S (some ⟨b, off, none⟩) (xs ++ ys)) : Wr w S (some ⟨b, off + xs.length, none⟩) ys := by
  rcases h with h | ⟨b', off', hA, hb, h⟩
  · exact .inl (List.append_eq_nil_iff.1 h).2
  · injection hA with e
    injection e with e1 e2
    subst e1 e2
    refine .inr ⟨b, off + xs.length, rfl, hb, fun k v hk => ?_⟩
    have := h (xs.length + k) v (by rw [List.getElem?_append_right (by omega), Nat.add_sub_cancel_left, hk])
    rwa [← Nat.add_assoc] at this
theorem iv_take (xs : List Int) (k : Nat) : iv xs = iv (xs.take k) ++ iv (xs.drop k) := by simp only [iv, ← List.map_append, List.take_append_drop]
theorem set_other {w : World} {b o b' o' : Nat} {v u : Value} (h : w.cell? ⟨b, o, none⟩ = some v) (hne : b' ≠ b) : (w.setCell ⟨b', o', none⟩ u).cell? ⟨b, o, none⟩ = some v :=
  (World.cell?_setCell_other _ _ _ _ (by intro e; injection e with e; exact hne e)).trans h
structure L2 {α : Type} (enc : List α → List Value) (e1 : TypeId) (s1 : Nat) (w : World) (lo b off : Nat) (hd : Nat → Option Addr × Nat) (xss : List (List α)) : Prop where
  cell : ∀ k (hk : k < xss.length), Cl w ⟨b, off + k, none⟩ (.slice (hd k).1 xss[k].length (hd k).2)
  row : ∀ k (hk : k < xss.length), w.ownsRow lo e1 s1 (.slice (hd k).1 xss[k].length (hd k).2) xss[k].length (enc xss[k])
  out : ∀ k, k < xss.length → ¬ At (hd k).1 b
  apart : ∀ k j x, k < xss.length → j < xss.length → At (hd k).1 x → At (hd j).1 x → j = k
/-- A slice of slices of the call's own, in blocks from `lo` on and below `hi`. -/
def Own2 {α : Type} (enc : List α → List Value) (e1 : TypeId) (s1 : Nat) (w : World) (lo hi : Nat) (A : Option Addr) (xss : List (List α)) : Prop :=
  xss = [] ∨ ∃ b off hd, A = some ⟨b, off, none⟩ ∧ lo ≤ b ∧ b < hi ∧ (∀ k x, k < xss.length → At (hd k).1 x → x < hi) ∧ hi ≤ w.heap.size ∧ L2 enc e1 s1 w lo b off hd xss
section
variable {α : Type} {enc : List α → List Value} {e1 : TypeId} {s1 : Nat} {w w1 : World} {lo hi b off : Nat} {hd : Nat → Option Addr × Nat} {xss : List (List α)} {A : Option Addr} {S : Nat → Prop}
theorem L2.outS (h : L2 enc e1 s1 w lo b off hd xss) (ho : OutS S w w1) (hb : ¬ S b) (hs : ∀ k x, k < xss.length → At (hd k).1 x → ¬ S x) : L2 enc e1 s1 w1 lo b off hd xss :=
  ⟨fun k hk => (h.cell k hk).outS ho hb, fun k hk => own_outS (h.row k hk) ho fun x hx => hs k x hk hx, h.out, h.apart⟩
theorem L2.below (h : L2 enc e1 s1 w lo b off hd xss) (hb : Below w.heap.size w w1) : L2 enc e1 s1 w1 lo b off hd xss :=
  h.outS (S := fun _ => False) (OutS.of_below hb) (fun h => h) (fun _ _ _ _ h => h)
theorem Own2.nil : Own2 enc e1 s1 w lo hi A ([] : List (List α)) := .inl rfl
theorem Own2.outS (h : Own2 enc e1 s1 w lo hi A xss) (ho : OutS S w w1) (hs : ∀ x, lo ≤ x → x < hi → ¬ S x) : Own2 enc e1 s1 w1 lo hi A xss := by
  rcases h with h | ⟨b, off, hd, h1, h2, h3, h4, h5, h6⟩
  · exact .inl h
  · exact .inr ⟨b, off, hd, h1, h2, h3, h4, Nat.le_trans h5 ho.size, h6.outS ho (hs b h2 h3) fun k x hk hx => hs x (own_lo' (h6.row k hk) hx).1 (h4 k x hk hx)⟩
theorem Own2.below (h : Own2 enc e1 s1 w lo hi A xss) (hb : Below w.heap.size w w1) : Own2 enc e1 s1 w1 lo hi A xss :=
  h.outS (S := fun _ => False) (OutS.of_below hb) (fun _ _ _ h => h)
theorem Own2.alloc (h : Own2 enc e1 s1 w lo hi A xss) (o : Obj) : Own2 enc e1 s1 (w.alloc o) lo hi A xss := h.below ((Below.refl _ _).alloc (Nat.le_refl _) o)
theorem Own2.drewN (h : Own2 enc e1 s1 w lo hi A xss) (n : Nat) : Own2 enc e1 s1 (w.drewN n) lo hi A xss := h.below (below_drewN (Below.refl _ _) n)
theorem Own2.drew (h : Own2 enc e1 s1 w lo hi A xss) : Own2 enc e1 s1 w.drew lo hi A xss := h.below (Below.drew (Below.refl _ _))
theorem Own2.setOut (h : Own2 enc e1 s1 w lo hi A xss) {g o : Nat} (v : Value) (hg : g < lo ∨ hi ≤ g) : Own2 enc e1 s1 (w.setCell ⟨g, o, none⟩ v) lo hi A xss :=
  h.outS (S := fun x => x = g) (OutS.set w v rfl) (fun x h1 h2 e => by subst e; omega)
theorem Own2.wr2 (h : Own2 enc e1 s1 w lo hi A xss) : Wr2 enc w (fun x => lo ≤ x ∧ x < hi) A xss := by
  rcases h with h | ⟨b, off, hd, h1, h2, h3, h4, h5, h6⟩
  · exact .inl h
  · exact .inr ⟨b, off, fun k => At (hd k).1, hd, h1, ⟨h2, h3⟩, fun k x hk hx => ⟨(own_lo' (h6.row k hk) hx).1, h4 k x hk hx⟩, ⟨fun k hk => (h6.cell k hk).1, fun k hk => own_wr (h6.row k hk), fun k x hk hx e => h6.out k hk (by rw [← e]; exact hx), h6.apart⟩⟩
theorem Own2.rd2 (h : Own2 enc e1 s1 w lo hi A xss) : Rd2 enc w w.heap.size A xss := h.wr2.rd
theorem Own2.hi_le (h : Own2 enc e1 s1 w lo hi A xss) (hn : 0 < xss.length) : hi ≤ w.heap.size := by
  rcases h with rfl | ⟨b, off, hd, h1, h2, h3, h4, h5, h6⟩
  · simp at hn
  · exact h5
theorem Own2.mono {lo' : Nat} (h : Own2 enc e1 s1 w lo hi A xss) (hl : lo' ≤ lo) : Own2 enc e1 s1 w lo' hi A xss := by
  rcases h with h | ⟨b, off, hd, h1, h2, h3, h4, h5, h6⟩
  · exact .inl h
  · exact .inr ⟨b, off, hd, h1, Nat.le_trans hl h2, h3, h4, h5, ⟨h6.cell, fun k hk => own_mono (h6.row k hk) hl, h6.out, h6.apart⟩⟩
theorem Own2.mono2 {hi' : Nat} (h : Own2 enc e1 s1 w lo hi A xss) (hl : hi ≤ hi') (hs : hi' ≤ w.heap.size) : Own2 enc e1 s1 w lo hi' A xss := by
  rcases h with h | ⟨b, off, hd, h1, h2, h3, h4, h5, h6⟩
  · exact .inl h
  · exact .inr ⟨b, off, hd, h1, h2, by omega, fun k x hk hx => by have := h4 k x hk hx; omega, hs, h6⟩
theorem Own2.open_ (h : Own2 enc e1 s1 w lo hi A xss) (hn : 0 < xss.length) : ∃ b off hd, A = some ⟨b, off, none⟩ ∧ lo ≤ b ∧ b < hi ∧ (∀ k x, k < xss.length → At (hd k).1 x → lo ≤ x ∧ x < hi) ∧ hi ≤ w.heap.size ∧ L2 enc e1 s1 w lo b off hd xss := by
  rcases h with rfl | ⟨b, off, hd, h1, h2, h3, h4, h5, h6⟩
  · simp at hn
  · exact ⟨b, off, hd, h1, h2, h3, fun k x hk hx => ⟨(own_lo' (h6.row k hk) hx).1, h4 k x hk hx⟩, h5, h6⟩
/-- One row is put in the place of another: its header is stored; what has turned ahead of that is the old row's block alone. -/
theorem L2.upd (h : L2 enc e1 s1 w lo b off hd xss) (hb : lo ≤ b) (hbl : b < hi) (hR : ∀ k x, k < xss.length → At (hd k).1 x → lo ≤ x ∧ x < hi) (hi_le : hi ≤ w.heap.size) {k : Nat} (hk : k < xss.length) (ho : OutS (At (hd k).1) w w1) {A' : Option Addr} {c' n' : Nat} {xs' : List α} {T : Nat → Prop} (hn : n' = xs'.length)
    (hW : Wr w1 T A' (enc xs')) (hT : ∀ x, T x → (At (hd k).1 x ∨ w.heap.size ≤ x) ∧ x < w1.heap.size) :
    Wr2 enc (w1.setCell ⟨b, off + k, none⟩ (.slice A' n' c')) (fun x => (lo ≤ x ∧ x < hi) ∨ (w.heap.size ≤ x ∧ x < w1.heap.size)) (some ⟨b, off, none⟩) (xss.set k xs') := by
  subst hn
  have hz := ho.size
  have hkb : ¬ At (hd k).1 b := h.out k hk
  have hck : Cl w1 ⟨b, off + k, none⟩ (.slice (hd k).1 xss[k].length (hd k).2) := (h.cell k hk).outS ho hkb
  have hTb : ∀ x, T x → x ≠ b := fun x hx e => by
    subst e
    rcases (hT x hx).1 with h1 | h1
    · exact hkb h1
    · omega
  refine .inr ⟨b, off, fun j x => if j = k then T x else At (hd j).1 x, fun j => if j = k then (A', c') else hd j, rfl, .inl ⟨hb, hbl⟩, fun j x hj hx => ?_, ⟨fun j hj => ?_, fun j hj => ?_, fun j x hj hx => ?_, fun i j x hi hj h1 h2 => ?_⟩⟩
  · rw [List.length_set] at hj
    try dsimp only at hx
    split at hx
    · have := hT x hx
      rcases this.1 with h1 | h1
      · exact .inl (hR k x hk h1)
      · exact .inr ⟨h1, this.2⟩
    · exact .inl (hR j x hj hx)
  · rw [List.length_set] at hj
    rw [List.getElem_set]
    try dsimp only
    by_cases e : j = k
    · subst e
      simp only [if_true]
      exact (hck.same _).1
    · rw [if_neg e, if_neg (fun e' => e e'.symm)]
      exact (((h.cell j hj).outS ho hkb).other _ (by simp; first | done | omega)).1
  · rw [List.length_set] at hj
    try dsimp only
    by_cases e : j = k
    · subst e
      simp only [if_true, List.getElem_set_self]
      exact hW.setOut _ (fun hx => hTb _ hx rfl)
    · rw [List.getElem_set_ne (fun e' => e e'.symm)]
      simp only [e, if_false]
      have h1 : Wr w1 (At (hd j).1) (hd j).1 (enc xss[j]) := (own_wr (h.row j hj)).outS ho (fun x hx hx2 => e (h.apart k j x hk hj hx2 hx))
      exact h1.setOut _ (h.out j hj)
  · rw [List.length_set] at hj
    try dsimp only at hx
    split at hx
    · exact hTb x hx
    · exact fun e' => h.out j hj (by rw [← e']; exact hx)
  · rw [List.length_set] at hi hj
    try dsimp only at h1 h2
    have key : ∀ m, m < xss.length → m ≠ k → T x → At (hd m).1 x → False := fun m hm hmk ht ha => by
      rcases (hT x ht).1 with h3 | h3
      · exact hmk (h.apart k m x hk hm h3 ha)
      · have := own_lo' (h.row m hm) ha
        omega
    by_cases ei : i = k <;> by_cases ej : j = k
    · omega
    · rw [if_pos ei] at h1
      rw [if_neg ej] at h2
      exact (key j hj ej h1 h2).elim
    · rw [if_neg ei] at h1
      rw [if_pos ej] at h2
      exact (key i hi ei h2 h1).elim
    · rw [if_neg ei] at h1
      rw [if_neg ej] at h2
      exact h.apart i j x hi hj h1 h2
end

theorem Wr2.new {α : Type} {enc : List α → List Value} {w : World} {S : Nat → Prop} {A : Option Addr} {xss : List (List α)} (h : Wr2 enc w S A xss) {lo hi : Nat} (hS : ∀ b, S b → lo ≤ b ∧ b < hi) : Wr2 enc w (fun x => lo ≤ x ∧ x < hi) A xss := h.mono hS
/-- The same while it is built by appends. -/
structure O2 {α : Type} (enc : List α → List Value) (e e1 : TypeId) (s1 : Nat) (w : World) (lo : Nat) (A : Option Addr) (c : Nat) (cur : List Value) (hd : Nat → Option Addr × Nat) (xss : List (List α)) : Prop where
  own : w.ownsRow lo e 1 (.slice A xss.length c) xss.length cur
  cur : ∀ j (hj : j < xss.length), cur[j]? = some (.slice (hd j).1 xss[j].length (hd j).2)
  row : ∀ j (hj : j < xss.length), w.ownsRow lo e1 s1 (.slice (hd j).1 xss[j].length (hd j).2) xss[j].length (enc xss[j])
  out : ∀ j x, j < xss.length → At (hd j).1 x → ¬ At A x
  apart : ∀ k j x, k < xss.length → j < xss.length → At (hd k).1 x → At (hd j).1 x → j = k
section
variable {α : Type} {enc : List α → List Value} {e e1 : TypeId} {s1 : Nat} {w w' : World} {lo : Nat} {A A' : Option Addr} {c c' : Nat} {cur : List Value} {hd : Nat → Option Addr × Nat} {xss : List (List α)}
theorem O2.nil : O2 enc e e1 s1 w lo none 0 [] hd ([] : List (List α)) :=
  ⟨own_nil, fun j hj => absurd hj (by simp), fun j hj => absurd hj (by simp), fun j x hj => absurd hj (by simp), fun k j x hk => absurd hk (by simp)⟩
theorem O2.own2 (h : O2 enc e e1 s1 w lo A c cur hd xss) : Own2 enc e1 s1 w lo w.heap.size A xss := by
  rcases Nat.eq_zero_or_pos xss.length with h0 | h0
  · exact .inl (List.eq_nil_of_length_eq_zero h0)
  have ho := Ow.mk' h.own
  obtain ⟨g, hA, h1, h2⟩ := ho.some_ h0
  refine .inr ⟨g, 0, hd, hA, h1, h2, fun k x hk hx => (own_lo' (h.row k hk) hx).2, Nat.le_refl _, ⟨fun k hk => ⟨?_, ?_⟩, h.row, fun k hk hx => h.out k g hk hx ⟨0, hA⟩, h.apart⟩⟩
  · have := ho.1
    subst hA
    rw [Nat.zero_add, this.cellAt k (by omega)]
    exact h.cur k hk
  · have := ho.1
    subst hA
    exact this.frozenAt _
theorem O2.cap (h : O2 enc e e1 s1 w lo A c cur hd xss) : xss.length ≤ c ∧ c ≤ maxLen := (Ow.mk' h.own).cap
/-- One row more. -/
theorem O2.snoc (h : O2 enc e e1 s1 w lo A c cur hd xss) {xs : List α} {R : Option Addr} {cr : Nat} (hr : w'.ownsRow lo e1 s1 (.slice R xs.length cr) xs.length (enc xs))
    (hR : ∀ x, At R x → w.heap.size ≤ x ∧ ¬ At A' x) (hown : w'.ownsRow lo e 1 (.slice A' (xss.length + 1) c') (xss.length + 1) (cur ++ [.slice R xs.length cr])) (hout : OutS (fun x => At A x ∨ x < lo) w w') (hA : ∀ x, At A' x → At A x ∨ w.heap.size ≤ x) :
    O2 enc e e1 s1 w' lo A' c' (cur ++ [.slice R xs.length cr]) (fun j => if j < xss.length then hd j else (R, cr)) (xss ++ [xs]) := by
  have hl : (xss ++ [xs]).length = xss.length + 1 := by simp
  have hcl : cur.length = xss.length := by have := h.own.1; simpa using this
  refine ⟨by rw [hl]; exact hown, fun j hj => ?_, fun j hj => ?_, fun j x hj ht => ?_, fun k j x hk hj h1 h2 => ?_⟩
  · by_cases hjl : j < xss.length
    · rw [List.getElem?_append_left (by omega), h.cur j hjl, List.getElem_append_left hjl]
      simp [hjl]
    · obtain rfl : j = xss.length := by omega
      rw [List.getElem?_append_right (by omega)]
      simp [hcl]
  · by_cases hjl : j < xss.length
    · rw [List.getElem_append_left hjl]
      simp only [hjl, if_true]
      refine own_outS (h.row j hjl) hout fun x hx hs => ?_
      rcases hs with hs | hs
      · exact h.out j x hjl hx hs
      · have := own_lo' (h.row j hjl) hx
        omega
    · obtain rfl : j = xss.length := by omega
      simp
      exact hr
  · by_cases hjl : j < xss.length
    · simp only [hjl, if_true] at ht
      intro ha
      rcases hA x ha with h3 | h3
      · exact h.out j x hjl ht h3
      · have := own_lo' (h.row j hjl) ht
        omega
    · simp only [hjl, if_false] at ht
      exact (hR x ht).2
  · by_cases hkl : k < xss.length <;> by_cases hjl : j < xss.length <;> simp only [hkl, hjl, if_true, if_false] at h1 h2
    · exact h.apart k j x hkl hjl h1 h2
    · have h3 := own_lo' (h.row k hkl) h1; have := hR x h2; omega
    · have h3 := own_lo' (h.row j hjl) h2; have := hR x h1; omega
    · rw [hl] at hk hj; omega
theorem at_of {A' A0 : Option Addr} {w : World} (h : A' = A0 ∨ ∃ b, A' = some ⟨b, 0, none⟩ ∧ w.heap.size ≤ b) {x : Nat} (hx : At A' x) : At A0 x ∨ w.heap.size ≤ x := by
  rcases h with h | ⟨b, h, hb⟩
  · rw [h] at hx
    exact .inl hx
  · obtain ⟨o, ho⟩ := hx
    rw [h] at ho
    injection ho with ho
    injection ho with ho
    exact .inr (by omega)
end
end Go.Proofs.Ytljholnnhogdkaa
