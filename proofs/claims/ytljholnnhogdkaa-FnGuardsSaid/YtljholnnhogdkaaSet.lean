/- Words for memory, with sets of blocks: only blocks of a set have turned (OutS); a slice whose cells may be written (Wr); slices of slices, read (Rd2) and written (W2, Wr2). -/
import Derived.Test.YtljholnnhogdkaaFlat
namespace Go.Proofs.Ytljholnnhogdkaa
open Go.ChangeShapes Go.WideShapes Go.ChangeAt Go.RowKit
set_option linter.unusedVariables false

/-- Only blocks of the set have turned. -/
structure OutS (S : Nat → Prop) (w w' : World) : Prop where
  os : w'.os = w.os
  tape : w'.tape = w.tape
  output : w'.output = w.output
  size : w.heap.size ≤ w'.heap.size
  block : ∀ k, k < w.heap.size → ¬ S k → w'.heap[k]? = w.heap[k]?
section
variable {S T : Nat → Prop} {w w1 w2 a : World}
theorem OutS.refl : OutS S w w := ⟨rfl, rfl, rfl, Nat.le_refl _, fun _ _ _ => rfl⟩
theorem OutS.of_below (hb : Below w.heap.size w w1) : OutS S w w1 := ⟨hb.os, hb.tape, hb.output, hb.size, fun k hk _ => hb.block k hk⟩
theorem OutS.of_out {lo hi : Nat} (h : Out lo hi w w1) (hs : ∀ b, lo ≤ b → b < hi → S b) : OutS S w w1 :=
  ⟨h.os, h.tape, h.output, h.size, fun k hk hn => h.block k hk (fun e => hn (hs k e.1 e.2))⟩
theorem OutS.of_grown {row : Option Nat} (h : w.grownBy w1 row) (hr : ∀ g, row = some g → S g) : OutS S w w1 :=
  ⟨h.os, h.tape, h.output, h.size, fun k hk hn => h.block k hk (fun e => hn (hr k e.symm))⟩
theorem OutS.mono (h : OutS S w w1) (hs : ∀ b, S b → T b) : OutS T w w1 := ⟨h.os, h.tape, h.output, h.size, fun k hk hn => h.block k hk (fun e => hn (hs k e))⟩
theorem OutS.trans (h : OutS S w w1) (k : OutS S w1 w2) : OutS S w w2 :=
  ⟨k.os.trans h.os, k.tape.trans h.tape, k.output.trans h.output, Nat.le_trans h.size k.size, fun i h1 h2 => (k.block i (Nat.lt_of_lt_of_le h1 h.size) h2).trans (h.block i h1 h2)⟩
theorem OutS.below (h : OutS S w w1) (hb : Below w1.heap.size w1 w2) : OutS S w w2 := h.trans (OutS.of_below hb)
theorem OutS.alloc (h : OutS S w w1) (o : Obj) : OutS S w (w1.alloc o) := h.below ((Below.refl _ _).alloc (Nat.le_refl _) o)
theorem OutS.drewN (h : OutS S w w1) (n : Nat) : OutS S w (w1.drewN n) := ⟨h.os, h.tape, h.output, h.size, h.block⟩
theorem OutS.cell (h : OutS S w w1) {p : Addr} {v : Value} (hc : w.cell? p = some v) (hp : ¬ S p.block) : w1.cell? p = some v :=
  (World.cell?_of_block (h.block p.block (lt_of_cell hc) hp)).trans hc
theorem OutS.frozen (h : OutS S w w1) {p : Addr} (hl : p.block < w.heap.size) (hp : ¬ S p.block) : w1.frozen? p = w.frozen? p :=
  World.frozen?_of_block (h.block p.block hl hp)
theorem OutS.set (w : World) {b o : Nat} (v : Value) (hb : S b) : OutS S w (w.setCell ⟨b, o, none⟩ v) :=
  ⟨rfl, rfl, rfl, by simp, fun k hk hn => Below.heap_setCell w ⟨b, o, none⟩ v k (fun e => hn (by rw [show k = b from e]; exact hb))⟩
theorem bel_outS {B : Nat} (ho : OutS S w w1) (hl : ∀ b, S b → B ≤ b) (h : Below B a w) (hB : B ≤ a.heap.size) : Below B a w1 :=
  h.trans ⟨ho.os, ho.tape, ho.output, ho.size, fun k hk => ho.block k (Nat.lt_of_lt_of_le hk (Nat.le_trans hB h.size)) (fun e => by have := hl k e; omega)⟩
theorem Rd.outS {B : Nat} {A : Option Addr} {xs : List Value} (h : Rd w B A xs) (ho : OutS S w w1) (hl : ∀ b, S b → B ≤ b) : Rd w1 B A xs :=
  h.keep' fun p v hp hc => ho.cell hc (fun e => by have := hl _ e; omega)
theorem Rd.drew {B : Nat} {A : Option Addr} {xs : List Value} (h : Rd w B A xs) : Rd w.drew B A xs := h
theorem Ow.drew {lo hi : Nat} {e : TypeId} {size n c : Nat} {A : Option Addr} {xs : List Value} (h : Ow w lo hi e size A n c xs) : Ow w.drew lo hi e size A n c xs := h
theorem Cl.outS {p : Addr} {v : Value} (h : Cl w p v) (ho : OutS S w w1) (hp : ¬ S p.block) : Cl w1 p v := ⟨ho.cell h.1 hp, (ho.frozen (lt_of_cell h.1) hp).trans h.2⟩
end

theorem Rd.pre {w : World} {B : Nat} {A : Option Addr} {xs ys : List Value} (h : Rd w B A (xs ++ ys)) : Rd w B A xs := by
  rcases h with h | ⟨b, off, rfl, hb, h⟩
  · exact .inl (List.append_eq_nil_iff.1 h).1
  · refine .inr ⟨b, off, rfl, hb, fun k v hk => h k v ?_⟩
    rw [List.getElem?_append_left (List.getElem?_eq_some_iff.1 hk).1, hk]
theorem Rd.post {w : World} {B b off : Nat} {xs ys : List Value} (h : Rd w B (some ⟨b, off, none⟩) (xs ++ ys)) : Rd w B (some ⟨b, off + xs.length, none⟩) ys := by
  rcases h with h | ⟨b', off', hA, hb, h⟩
  · exact .inl (List.append_eq_nil_iff.1 h).2
  · injection hA with e
    injection e with e1 e2
    subst e1 e2
    refine .inr ⟨b, off + xs.length, rfl, hb, fun k v hk => ?_⟩
    have := h (xs.length + k) v (by rw [List.getElem?_append_right (by omega), Nat.add_sub_cancel_left, hk])
    rwa [← Nat.add_assoc] at this
/-- All blocks of the set are new. -/
def New (S : Nat → Prop) (w w' : World) : Prop := ∀ b, S b → w.heap.size ≤ b ∧ b < w'.heap.size
/-- The slice with this head holds these cells, which may be written, in a block of the set. -/
def Wr (w : World) (S : Nat → Prop) (A : Option Addr) (xs : List Value) : Prop :=
  xs = [] ∨ ∃ b off, A = some ⟨b, off, none⟩ ∧ S b ∧ ∀ (k : Nat) (v : Value), xs[k]? = some v → Cl w ⟨b, off + k, none⟩ v
section
variable {S T : Nat → Prop} {w w1 w2 : World} {A : Option Addr} {xs : List Value}
theorem Wr.nil : Wr w S A [] := .inl rfl
theorem Wr.keep' (h : Wr w S A xs) (hk : ∀ p v, S p.block → Cl w p v → Cl w1 p v) : Wr w1 S A xs := by
  rcases h with rfl | ⟨b, off, rfl, hb, h⟩
  · exact .inl rfl
  · exact .inr ⟨b, off, rfl, hb, fun k v hv => hk _ _ hb (h k v hv)⟩
theorem Wr.below (h : Wr w S A xs) (hb : Below w.heap.size w w1) : Wr w1 S A xs := h.keep' fun _ _ _ hp => hp.below hb
theorem Wr.alloc (h : Wr w S A xs) (o : Obj) : Wr (w.alloc o) S A xs := h.keep' fun _ _ _ hp => hp.alloc o
theorem Wr.drewN (h : Wr w S A xs) (n : Nat) : Wr (w.drewN n) S A xs := h
theorem Wr.drew (h : Wr w S A xs) : Wr w.drew S A xs := h
theorem Wr.outS (h : Wr w S A xs) (ho : OutS T w w1) (hd : ∀ b, S b → ¬ T b) : Wr w1 S A xs := h.keep' fun _ _ hs hp => hp.outS ho (hd _ hs)
theorem Wr.mono (h : Wr w S A xs) (hs : ∀ b, S b → T b) : Wr w T A xs := by
  rcases h with rfl | ⟨b, off, rfl, hb, h⟩
  · exact .inl rfl
  · exact .inr ⟨b, off, rfl, hs _ hb, h⟩
theorem Wr.rd (h : Wr w S A xs) : Rd w w.heap.size A xs := by
  rcases h with rfl | ⟨b, off, rfl, hb, h⟩
  · exact .inl rfl
  · cases xs with
    | nil => exact .inl rfl
    | cons x l => exact .inr ⟨b, off, rfl, lt_of_cell' (h 0 x rfl).1, fun k v hv => (h k v hv).1⟩
theorem Wr.at_ (h : Wr w S A xs) {k : Nat} {v : Value} (hk : xs[k]? = some v) : ∃ b off, A = some ⟨b, off, none⟩ ∧ S b ∧ Cl w ⟨b, off + k, none⟩ v := by
  rcases h with rfl | ⟨b, off, rfl, hb, h⟩
  · simp at hk
  · exact ⟨b, off, rfl, hb, h k v hk⟩
theorem Wr.set (h : Wr w S A xs) {b off k : Nat} (hA : A = some ⟨b, off, none⟩) (v : Value) : Wr (w.setCell ⟨b, off + k, none⟩ v) S A (xs.set k v) := by
  rcases h with rfl | ⟨b', off', hA', hb, h⟩
  · exact .inl (by simp)
  · rw [hA] at hA'
    injection hA' with e
    injection e with e1 e2
    subst e1 e2
    refine .inr ⟨b, off, hA, hb, fun j u hj => ?_⟩
    rw [List.getElem?_set] at hj
    split at hj
    · rename_i e
      subst e
      split at hj
      · rename_i hlt
        injection hj with hj
        subst hj
        exact (h k _ (List.getElem?_eq_getElem hlt)).same _
      · cases hj
    · rename_i e
      exact (h j u hj).other _ (by simp; first | done | omega)
end
theorem Ow.wr {w : World} {lo hi : Nat} {e : TypeId} {size n c : Nat} {A : Option Addr} {xs : List Value} (h : Ow w lo hi e size A n c xs) : Wr w (fun b => lo ≤ b ∧ b < hi) A xs := by
  rcases h.1.2 with ⟨hv, hn⟩ | ⟨g, cap, cur, hv, hb, hg, h1, h2, hsz, ht⟩
  · left
    have := h.1.1
    rw [hn] at this
    exact List.eq_nil_of_length_eq_zero (by simpa using this)
  · have hA : A = some ⟨g, 0, none⟩ := by injection hv
    refine .inr ⟨g, 0, hA, ⟨hb, h.2 _ hA⟩, fun k v hk => ⟨?_, ?_⟩⟩
    · rw [cell_of_row w g (0 + k) cur e (0, 0) hg, ← Array.getElem?_toList, Nat.zero_add]
      rw [← ht, List.getElem?_take] at hk
      split at hk
      · exact hk
      · cases hk
    · exact frozen_of_row w g (0 + k) cur e hg
theorem Ow.apart {w : World} {lo hi : Nat} {e : TypeId} {size n c : Nat} {A : Option Addr} {xs : List Value} (h : Ow w lo hi e size A n c xs) {b : Nat} (hb : b < lo ∨ hi ≤ b) : ¬ ∃ o, A = some ⟨b, o, none⟩ := by
  rintro ⟨o, rfl⟩
  have h2 := h.2 _ rfl
  rcases h.1.2 with ⟨hv, _⟩ | ⟨g, cap, cur, hv, hg, _⟩
  · cases hv
  · injection hv with hv
    injection hv with hv
    injection hv with hv
    subst hv
    simp at h2
    omega
theorem Ow.outS {S : Nat → Prop} {w w1 : World} {lo hi : Nat} {e : TypeId} {size n c : Nat} {A : Option Addr} {xs : List Value} (h : Ow w lo hi e size A n c xs) (ho : OutS S w w1) (hd : ∀ b, S b → b < lo ∨ hi ≤ b) : Ow w1 lo hi e size A n c xs := by
  refine ⟨⟨h.1.1, ?_⟩, h.2⟩
  rcases h.1.2 with h' | ⟨g, cap, cur, h1, h2, h3, h4⟩
  · exact .inl h'
  · have hA : A = some ⟨g, 0, none⟩ := by injection h1
    have hg := h.2 _ hA
    have hl : g < w.heap.size := by
      rcases Nat.lt_or_ge g w.heap.size with hl | hl
      · exact hl
      · rw [Array.getElem?_eq_none hl] at h3
        cases h3
    exact .inr ⟨g, cap, cur, h1, h2, (ho.block g hl (fun e => by have := hd g e; simp at hg; omega)).trans h3, h4⟩
/-- A row of the call's own has its block alone. -/
theorem Ow.wr1 {w : World} {lo hi : Nat} {e : TypeId} {size n c : Nat} {A : Option Addr} {xs : List Value} (h : Ow w lo hi e size A n c xs) : Wr w (fun b => ∃ o, A = some ⟨b, o, none⟩) A xs := by
  rcases h.wr with rfl | ⟨b, off, rfl, hb, hc⟩
  · exact .inl rfl
  · exact .inr ⟨b, off, rfl, ⟨off, rfl⟩, hc⟩

/-- A slice of slices, read: the rows' elements by `enc`. -/
def Rd2 {α : Type} (enc : List α → List Value) (w : World) (B : Nat) (A : Option Addr) (xss : List (List α)) : Prop :=
  xss = [] ∨ ∃ b off, A = some ⟨b, off, none⟩ ∧ b < B ∧ ∀ k (hk : k < xss.length), ∃ A' c', w.cell? ⟨b, off + k, none⟩ = some (.slice A' xss[k].length c') ∧ Rd w B A' (enc xss[k])
section
variable {α : Type} {enc : List α → List Value} {S T : Nat → Prop} {w w1 w2 : World} {B : Nat} {A : Option Addr} {xss : List (List α)}
theorem Rd2.nil : Rd2 enc w B A [] := .inl rfl
theorem Rd2.row (h : Rd2 enc w B A xss) {k : Nat} (hk : k < xss.length) :
    ∃ b off A' c', A = some ⟨b, off, none⟩ ∧ b < B ∧ w.cell? ⟨b, off + k, none⟩ = some (.slice A' xss[k].length c') ∧ Rd w B A' (enc xss[k]) := by
  rcases h with rfl | ⟨b, off, rfl, hb, h⟩
  · simp at hk
  · obtain ⟨A', c', h1, h2⟩ := h k hk
    exact ⟨b, off, A', c', rfl, hb, h1, h2⟩
theorem Rd2.keep' (h : Rd2 enc w B A xss) (hk : ∀ p v, p.block < B → w.cell? p = some v → w1.cell? p = some v) : Rd2 enc w1 B A xss := by
  rcases h with rfl | ⟨b, off, rfl, hb, h⟩
  · exact .inl rfl
  · refine .inr ⟨b, off, rfl, hb, fun k hl => ?_⟩
    obtain ⟨A', c', h1, h2⟩ := h k hl
    exact ⟨A', c', hk _ _ hb h1, h2.keep' hk⟩
theorem Rd2.below (h : Rd2 enc w B A xss) (hb : Below w.heap.size w w1) : Rd2 enc w1 B A xss := h.keep' fun _ _ _ hp => keep hb hp
theorem Rd2.alloc (h : Rd2 enc w B A xss) (o : Obj) : Rd2 enc (w.alloc o) B A xss := h.keep' fun _ _ _ hp => cell_al hp o
theorem Rd2.drewN (h : Rd2 enc w B A xss) (n : Nat) : Rd2 enc (w.drewN n) B A xss := h
theorem Rd2.drew (h : Rd2 enc w B A xss) : Rd2 enc w.drew B A xss := h
theorem Rd2.outS (h : Rd2 enc w B A xss) (ho : OutS S w w1) (hl : ∀ b, S b → B ≤ b) : Rd2 enc w1 B A xss :=
  h.keep' fun p v hp hc => ho.cell hc (fun e => by have := hl _ e; omega)
theorem Rd2.out {lo hi : Nat} (h : Rd2 enc w B A xss) (ho : Out lo hi w w1) (hl : B ≤ lo) : Rd2 enc w1 B A xss :=
  h.keep' fun p v hp hc => ho.cell hc (by omega)
theorem Rd2.lt (h : Rd2 enc w B A xss) : Rd2 enc w w.heap.size A xss := by
  rcases h with rfl | ⟨b, off, rfl, hb, h⟩
  · exact .inl rfl
  · rcases Nat.eq_zero_or_pos xss.length with h0 | h0
    · exact .inl (List.eq_nil_of_length_eq_zero h0)
    · refine .inr ⟨b, off, rfl, ?_, fun k hk => ?_⟩
      · obtain ⟨A', c', h1, _⟩ := h 0 h0
        exact lt_of_cell' h1
      · obtain ⟨A', c', h1, h2⟩ := h k hk
        exact ⟨A', c', h1, h2.lt⟩
theorem Rd2.more {B' : Nat} (h : Rd2 enc w B A xss) (hB : B ≤ B') : Rd2 enc w B' A xss := by
  rcases h with rfl | ⟨b, off, rfl, hb, h⟩
  · exact .inl rfl
  · refine .inr ⟨b, off, rfl, by omega, fun k hk => ?_⟩
    obtain ⟨A', c', h1, h2⟩ := h k hk
    exact ⟨A', c', h1, h2.more hB⟩
end

/-- A slice of slices whose rows may be written: the outer row at `⟨b, off⟩`, row `k` with head `hd k` in blocks of `T k`. -/
structure W2 {α : Type} (enc : List α → List Value) (w : World) (b off : Nat) (T : Nat → Nat → Prop) (hd : Nat → Option Addr × Nat) (xss : List (List α)) : Prop where
  cell : ∀ k (hk : k < xss.length), w.cell? ⟨b, off + k, none⟩ = some (.slice (hd k).1 xss[k].length (hd k).2)
  row : ∀ k (hk : k < xss.length), Wr w (T k) (hd k).1 (enc xss[k])
  out : ∀ k x, k < xss.length → T k x → x ≠ b
  apart : ∀ k j x, k < xss.length → j < xss.length → T k x → T j x → j = k
def Wr2 {α : Type} (enc : List α → List Value) (w : World) (S : Nat → Prop) (A : Option Addr) (xss : List (List α)) : Prop :=
  xss = [] ∨ ∃ b off T hd, A = some ⟨b, off, none⟩ ∧ S b ∧ (∀ k x, k < xss.length → T k x → S x) ∧ W2 enc w b off T hd xss
section
variable {α : Type} {enc : List α → List Value} {S T : Nat → Prop} {w w1 w2 : World} {A : Option Addr} {xss : List (List α)}
theorem Wr2.nil : Wr2 enc w S A [] := .inl rfl
theorem Wr2.keep' (h : Wr2 enc w S A xss) (hk : ∀ p v, S p.block → w.cell? p = some v → w1.cell? p = some v) (hf : ∀ p v, S p.block → Cl w p v → Cl w1 p v) : Wr2 enc w1 S A xss := by
  rcases h with rfl | ⟨b, off, T, hd, rfl, hb, hT, h⟩
  · exact .inl rfl
  · exact .inr ⟨b, off, T, hd, rfl, hb, hT, fun k hl => hk _ _ hb (h.cell k hl), fun k hl => (h.row k hl).keep' fun p v ht => hf p v (hT k _ hl ht), h.out, h.apart⟩
theorem Wr2.below (h : Wr2 enc w S A xss) (hb : Below w.heap.size w w1) : Wr2 enc w1 S A xss := h.keep' (fun _ _ _ hp => keep hb hp) (fun _ _ _ hp => hp.below hb)
theorem Wr2.alloc (h : Wr2 enc w S A xss) (o : Obj) : Wr2 enc (w.alloc o) S A xss := h.keep' (fun _ _ _ hp => cell_al hp o) (fun _ _ _ hp => hp.alloc o)
theorem Wr2.drewN (h : Wr2 enc w S A xss) (n : Nat) : Wr2 enc (w.drewN n) S A xss := h.keep' (fun _ _ _ hp => hp) (fun _ _ _ hp => hp)
theorem Wr2.drew (h : Wr2 enc w S A xss) : Wr2 enc w.drew S A xss := h.keep' (fun _ _ _ hp => hp) (fun _ _ _ hp => hp)
theorem Wr2.outS (h : Wr2 enc w S A xss) (ho : OutS T w w1) (hd : ∀ b, S b → ¬ T b) : Wr2 enc w1 S A xss :=
  h.keep' (fun _ _ hs hp => ho.cell hp (hd _ hs)) (fun _ _ hs hp => hp.outS ho (hd _ hs))
theorem Wr2.mono (h : Wr2 enc w S A xss) (hs : ∀ b, S b → T b) : Wr2 enc w T A xss := by
  rcases h with rfl | ⟨b, off, T', hd, rfl, hb, hT, h⟩
  · exact .inl rfl
  · exact .inr ⟨b, off, T', hd, rfl, hs _ hb, fun k x hk ht => hs _ (hT k x hk ht), h⟩
theorem Wr2.rd (h : Wr2 enc w S A xss) : Rd2 enc w w.heap.size A xss := by
  rcases h with rfl | ⟨b, off, T', hd, rfl, hb, hT, h⟩
  · exact .inl rfl
  · rcases Nat.eq_zero_or_pos xss.length with h0 | h0
    · exact .inl (List.eq_nil_of_length_eq_zero h0)
    · exact .inr ⟨b, off, rfl, lt_of_cell' (h.cell 0 h0), fun k hk => ⟨_, _, h.cell k hk, (h.row k hk).rd⟩⟩
end
theorem Wr2.setOut {α : Type} {enc : List α → List Value} {w : World} {S : Nat → Prop} {A : Option Addr} {xss : List (List α)} (h : Wr2 enc w S A xss) {b o : Nat} (v : Value) (hb : ¬ S b) : Wr2 enc (w.setCell ⟨b, o, none⟩ v) S A xss :=
  h.outS (OutS.set (S := fun x => x = b) w v rfl) (fun x hx e => hb (by rw [← show x = b from e]; exact hx))
/-- The same, and each row's capacity holds its length. -/
def Wr2c {α : Type} (enc : List α → List Value) (w : World) (S : Nat → Prop) (A : Option Addr) (xss : List (List α)) : Prop :=
  xss = [] ∨ ∃ b off T hd, A = some ⟨b, off, none⟩ ∧ S b ∧ (∀ k x, k < xss.length → T k x → S x) ∧ W2 enc w b off T hd xss ∧ ∀ k (hk : k < xss.length), xss[k].length ≤ (hd k).2 ∧ (hd k).2 ≤ maxLen
def Rd2c {α : Type} (enc : List α → List Value) (w : World) (B : Nat) (A : Option Addr) (xss : List (List α)) : Prop :=
  xss = [] ∨ ∃ b off, A = some ⟨b, off, none⟩ ∧ b < B ∧ ∀ k (hk : k < xss.length), ∃ A' c', w.cell? ⟨b, off + k, none⟩ = some (.slice A' xss[k].length c') ∧ Rd w B A' (enc xss[k]) ∧ xss[k].length ≤ c' ∧ c' ≤ maxLen
section
variable {α : Type} {enc : List α → List Value} {S T : Nat → Prop} {w w1 w2 : World} {B : Nat} {A : Option Addr} {xss : List (List α)}
theorem Wr2c.wr2 (h : Wr2c enc w S A xss) : Wr2 enc w S A xss := by
  rcases h with h | ⟨b, off, T, hd, h1, h2, h3, h4, _⟩
  · exact .inl h
  · exact .inr ⟨b, off, T, hd, h1, h2, h3, h4⟩
theorem Wr2c.keep' (h : Wr2c enc w S A xss) (hk : ∀ p v, S p.block → w.cell? p = some v → w1.cell? p = some v) (hf : ∀ p v, S p.block → Cl w p v → Cl w1 p v) : Wr2c enc w1 S A xss := by
  rcases h with rfl | ⟨b, off, T, hd, rfl, hb, hT, h, hc⟩
  · exact .inl rfl
  · exact .inr ⟨b, off, T, hd, rfl, hb, hT, ⟨fun k hl => hk _ _ hb (h.cell k hl), fun k hl => (h.row k hl).keep' fun p v ht => hf p v (hT k _ hl ht), h.out, h.apart⟩, hc⟩
theorem Wr2c.below (h : Wr2c enc w S A xss) (hb : Below w.heap.size w w1) : Wr2c enc w1 S A xss := h.keep' (fun _ _ _ hp => keep hb hp) (fun _ _ _ hp => hp.below hb)
theorem Wr2c.alloc (h : Wr2c enc w S A xss) (o : Obj) : Wr2c enc (w.alloc o) S A xss := h.keep' (fun _ _ _ hp => cell_al hp o) (fun _ _ _ hp => hp.alloc o)
theorem Wr2c.drewN (h : Wr2c enc w S A xss) (n : Nat) : Wr2c enc (w.drewN n) S A xss := h.keep' (fun _ _ _ hp => hp) (fun _ _ _ hp => hp)
theorem Wr2c.drew (h : Wr2c enc w S A xss) : Wr2c enc w.drew S A xss := h.keep' (fun _ _ _ hp => hp) (fun _ _ _ hp => hp)
theorem Wr2c.outS (h : Wr2c enc w S A xss) (ho : OutS T w w1) (hd : ∀ b, S b → ¬ T b) : Wr2c enc w1 S A xss :=
  h.keep' (fun _ _ hs hp => ho.cell hp (hd _ hs)) (fun _ _ hs hp => hp.outS ho (hd _ hs))
theorem Wr2c.setOut (h : Wr2c enc w S A xss) {b o : Nat} (v : Value) (hb : ¬ S b) : Wr2c enc (w.setCell ⟨b, o, none⟩ v) S A xss :=
  h.outS (OutS.set (S := fun x => x = b) w v rfl) (fun x hx e => hb (by rw [← show x = b from e]; exact hx))
theorem Wr2c.rd (h : Wr2c enc w S A xss) : Rd2 enc w w.heap.size A xss := h.wr2.rd
theorem Wr2c.rdc (h : Wr2c enc w S A xss) : Rd2c enc w w.heap.size A xss := by
  rcases h with rfl | ⟨b, off, T', hd, rfl, hb, hT, h, hc⟩
  · exact .inl rfl
  · rcases Nat.eq_zero_or_pos xss.length with h0 | h0
    · exact .inl (List.eq_nil_of_length_eq_zero h0)
    · exact .inr ⟨b, off, rfl, lt_of_cell' (h.cell 0 h0), fun k hk => ⟨_, _, h.cell k hk, (h.row k hk).rd, hc k hk⟩⟩
theorem Rd2c.rd (h : Rd2c enc w B A xss) : Rd2 enc w B A xss := by
  rcases h with h | ⟨b, off, h1, h2, h3⟩
  · exact .inl h
  · exact .inr ⟨b, off, h1, h2, fun k hk => by obtain ⟨A', c', h4, h5, _⟩ := h3 k hk; exact ⟨A', c', h4, h5⟩⟩
theorem Rd2c.row (h : Rd2c enc w B A xss) {k : Nat} (hk : k < xss.length) :
    ∃ b off A' c', A = some ⟨b, off, none⟩ ∧ b < B ∧ w.cell? ⟨b, off + k, none⟩ = some (.slice A' xss[k].length c') ∧ Rd w B A' (enc xss[k]) ∧ xss[k].length ≤ c' ∧ c' ≤ maxLen := by
  rcases h with rfl | ⟨b, off, rfl, hb, h⟩
  · simp at hk
  · obtain ⟨A', c', h1, h2, h3⟩ := h k hk
    exact ⟨b, off, A', c', rfl, hb, h1, h2, h3⟩
theorem Rd2c.keep' (h : Rd2c enc w B A xss) (hk : ∀ p v, p.block < B → w.cell? p = some v → w1.cell? p = some v) : Rd2c enc w1 B A xss := by
  rcases h with rfl | ⟨b, off, rfl, hb, h⟩
  · exact .inl rfl
  · refine .inr ⟨b, off, rfl, hb, fun k hl => ?_⟩
    obtain ⟨A', c', h1, h2, h3⟩ := h k hl
    exact ⟨A', c', hk _ _ hb h1, h2.keep' hk, h3⟩
theorem Rd2c.below (h : Rd2c enc w B A xss) (hb : Below w.heap.size w w1) : Rd2c enc w1 B A xss := h.keep' fun _ _ _ hp => keep hb hp
theorem Rd2c.alloc (h : Rd2c enc w B A xss) (o : Obj) : Rd2c enc (w.alloc o) B A xss := h.keep' fun _ _ _ hp => cell_al hp o
theorem Rd2c.drew (h : Rd2c enc w B A xss) : Rd2c enc w.drew B A xss := h
theorem Rd2c.outS (h : Rd2c enc w B A xss) (ho : OutS S w w1) (hl : ∀ b, S b → B ≤ b) : Rd2c enc w1 B A xss :=
  h.keep' fun p v hp hc => ho.cell hc (fun e => by have := hl _ e; omega)
theorem Rd2c.lt (h : Rd2c enc w B A xss) : Rd2c enc w w.heap.size A xss := by
  rcases h with rfl | ⟨b, off, rfl, hb, h⟩
  · exact .inl rfl
  · rcases Nat.eq_zero_or_pos xss.length with h0 | h0
    · exact .inl (List.eq_nil_of_length_eq_zero h0)
    · refine .inr ⟨b, off, rfl, ?_, fun k hk => ?_⟩
      · obtain ⟨A', c', h1, _⟩ := h 0 h0
        exact lt_of_cell' h1
      · obtain ⟨A', c', h1, h2, h3⟩ := h k hk
        exact ⟨A', c', h1, h2.lt, h3⟩
end
theorem Wr.new {w' : World} {S : Nat → Prop} {A : Option Addr} {xs : List Value} (h : Wr w' S A xs) (lo : Nat) (hn : ∀ b, S b → lo ≤ b) : ∃ T, Wr w' T A xs ∧ ∀ b, T b → lo ≤ b ∧ b < w'.heap.size := by
  rcases h with rfl | ⟨b, off, rfl, hb, h⟩
  · exact ⟨fun _ => False, .inl rfl, fun _ h => h.elim⟩
  · cases xs with
    | nil => exact ⟨fun _ => False, .inl rfl, fun _ h => h.elim⟩
    | cons x l => exact ⟨fun y => y = b, .inr ⟨b, off, rfl, rfl, h⟩, fun y hy => by subst hy; exact ⟨hn _ hb, lt_of_cell' (h 0 x rfl).1⟩⟩
theorem Wr.setOut {w : World} {S : Nat → Prop} {A : Option Addr} {xs : List Value} (h : Wr w S A xs) {b o : Nat} (v : Value) (hb : ¬ S b) : Wr (w.setCell ⟨b, o, none⟩ v) S A xs :=
  h.outS (OutS.set (S := fun x => x = b) w v rfl) (fun x hx e => hb (by rw [← show x = b from e]; exact hx))
theorem New.mk {S : Nat → Prop} {w w' : World} {lo hi : Nat} (h : ∀ b, S b → lo ≤ b ∧ b < hi) (h1 : w.heap.size ≤ lo) (h2 : hi ≤ w'.heap.size) : New S w w' := fun b hb => by have := h b hb; omega
end Go.Proofs.Ytljholnnhogdkaa
