/- Words for memory: a slice that reads as a list; rows of the call's own; how they are kept. -/
import Derived.Test.YtljholnnhogdkaaKit
import Derived.Maps.AppendAt
namespace Go.Proofs.Ytljholnnhogdkaa
open Go.ChangeShapes Go.WideShapes Go.ChangeAt Go.RowKit
set_option linter.unusedVariables false

/-- The slice with this head holds these cells, below block `B` (nothing is asked of the head where there are none). -/
def Rd (w : World) (B : Nat) (A : Option Addr) (xs : List Value) : Prop :=
  xs = [] ∨ ∃ b off, A = some ⟨b, off, none⟩ ∧ b < B ∧ ∀ (k : Nat) (v : Value), xs[k]? = some v → w.cell? ⟨b, off + k, none⟩ = some v
section
variable {w w1 : World} {B : Nat} {A : Option Addr} {xs : List Value}
theorem Rd.nil : Rd w B A [] := .inl rfl
theorem Rd.at_ (h : Rd w B A xs) {k : Nat} {v : Value} (hk : xs[k]? = some v) :
    ∃ b off, A = some ⟨b, off, none⟩ ∧ b < B ∧ w.cell? ⟨b, off + k, none⟩ = some v := by
  rcases h with rfl | ⟨b, off, rfl, hb, h⟩
  · simp at hk
  · exact ⟨b, off, rfl, hb, h k v hk⟩
theorem Rd.keep' (h : Rd w B A xs) (hk : ∀ p v, p.block < B → w.cell? p = some v → w1.cell? p = some v) : Rd w1 B A xs := by
  rcases h with rfl | ⟨b, off, rfl, hb, h⟩
  · exact .inl rfl
  · exact .inr ⟨b, off, rfl, hb, fun k v hv => hk _ _ hb (h k v hv)⟩
theorem Rd.below (h : Rd w B A xs) (hb : Below w.heap.size w w1) : Rd w1 B A xs := h.keep' fun _ _ _ hp => keep hb hp
theorem Rd.alloc (h : Rd w B A xs) (o : Obj) : Rd (w.alloc o) B A xs := h.keep' fun _ _ _ hp => cell_al hp o
theorem Rd.drewN (h : Rd w B A xs) (n : Nat) : Rd (w.drewN n) B A xs := h
theorem Rd.more {B' : Nat} (h : Rd w B A xs) (hB : B ≤ B') : Rd w B' A xs := by
  rcases h with rfl | ⟨b, off, rfl, hb, h⟩
  · exact .inl rfl
  · exact .inr ⟨b, off, rfl, by omega, h⟩
theorem Rd.lt (h : Rd w B A xs) : Rd w w.heap.size A xs := by
  rcases h with rfl | ⟨b, off, rfl, hb, h⟩
  · exact .inl rfl
  · cases xs with
    | nil => exact .inl rfl
    | cons x l => exact .inr ⟨b, off, rfl, lt_of_cell' (h 0 x rfl), h⟩
theorem Rd.own {base : Nat} {e : TypeId} {n c size : Nat} (h : w.ownsRow base e size (.slice A n c) n xs) : Rd w w.heap.size A xs := by
  rcases h.2 with ⟨hv, hn⟩ | ⟨g, cap, cur, hv, _, hg, _, _, _, ht⟩
  · left
    have := h.1
    rw [hn] at this
    exact List.eq_nil_of_length_eq_zero (by simpa using this)
  · have hA : A = some ⟨g, 0, none⟩ := by injection hv
    refine .inr ⟨g, 0, hA, ?_, fun k v hk => ?_⟩
    · rcases Nat.lt_or_ge g w.heap.size with hl | hl
      · exact hl
      · rw [Array.getElem?_eq_none hl] at hg
        cases hg
    rw [cell_of_row w g (0 + k) cur e (0, 0) hg, ← Array.getElem?_toList, Nat.zero_add]
    rw [← ht, List.getElem?_take] at hk
    split at hk
    · exact hk
    · cases hk
end

theorem below_grown {w w1 : World} (hb : Below w.heap.size w w1) (row : Option Nat) : w.grownBy w1 row := ⟨hb.os, hb.tape, hb.output, hb.size, fun k hk _ => hb.block k hk⟩
theorem grown_trans {w w1 w2 : World} {row : Option Nat} (h : w.grownBy w1 row) (k : w1.grownBy w2 row) : w.grownBy w2 row :=
  ⟨k.os.trans h.os, k.tape.trans h.tape, k.output.trans h.output, Nat.le_trans h.size k.size, fun i hi hne => (k.block i (Nat.lt_of_lt_of_le hi h.size) hne).trans (h.block i hi hne)⟩
theorem grown_drewN {w w1 : World} {row : Option Nat} (h : w.grownBy w1 row) (n : Nat) : w.grownBy (w1.drewN n) row := ⟨h.os, h.tape, h.output, h.size, h.block⟩
theorem grown_set {w w1 : World} {g o : Nat} (h : w.grownBy w1 (some g)) (v : Value) : w.grownBy (w1.setCell ⟨g, o, none⟩ v) (some g) :=
  ⟨h.os, h.tape, h.output, by simpa [World.setCell] using h.size, fun i hi hne => (Below.heap_setCell w1 ⟨g, o, none⟩ v i (fun e => hne (by rw [e]))).trans (h.block i hi hne)⟩
/-- A write to a row that is new since `a` leaves `a`'s blocks alone. -/
theorem bel_grown {B : Nat} {a w w1 : World} {row : Option Nat} (hg : w.grownBy w1 row) (h : Below B a w) (hB : B ≤ a.heap.size) (hr : ∀ g, row = some g → B ≤ g) : Below B a w1 :=
  h.grown hg (Nat.le_trans hB h.size) hr

theorem own_below' {w w1 : World} {base : Nat} {e : TypeId} {n size : Nat} {v : Value} {xs : List Value} (h : w.ownsRow base e size v n xs) (hb : Below w.heap.size w w1) : w1.ownsRow base e size v n xs :=
  h.kept (below_grown hb none) (by
    cases hv : v.ownBlock with
    | none => exact .inl rfl
    | some g => exact .inr (by simp))
/-- Only blocks from `lo` on and below `hi` have turned. -/
structure Out (lo hi : Nat) (w w' : World) : Prop where
  os : w'.os = w.os
  tape : w'.tape = w.tape
  output : w'.output = w.output
  size : w.heap.size ≤ w'.heap.size
  block : ∀ k, k < w.heap.size → ¬ (lo ≤ k ∧ k < hi) → w'.heap[k]? = w.heap[k]?
section
variable {lo hi : Nat} {w w1 w2 a : World}
theorem Out.refl : Out lo hi w w := ⟨rfl, rfl, rfl, Nat.le_refl _, fun _ _ _ => rfl⟩
theorem Out.of_below (hb : Below w.heap.size w w1) : Out lo hi w w1 := ⟨hb.os, hb.tape, hb.output, hb.size, fun k hk _ => hb.block k hk⟩
theorem Out.of_grown {row : Option Nat} (h : w.grownBy w1 row) (hr : ∀ g, row = some g → lo ≤ g ∧ g < hi) : Out lo hi w w1 :=
  ⟨h.os, h.tape, h.output, h.size, fun k hk hn => h.block k hk (fun e => hn (hr k e.symm))⟩
theorem Out.trans (h : Out lo hi w w1) (k : Out lo hi w1 w2) : Out lo hi w w2 :=
  ⟨k.os.trans h.os, k.tape.trans h.tape, k.output.trans h.output, Nat.le_trans h.size k.size, fun i h1 h2 => (k.block i (Nat.lt_of_lt_of_le h1 h.size) h2).trans (h.block i h1 h2)⟩
theorem Out.alloc (h : Out lo hi w w1) (o : Obj) : Out lo hi w (w1.alloc o) := h.trans (Out.of_below ((Below.refl _ _).alloc (Nat.le_refl _) o))
theorem Out.cell (h : Out lo hi w w1) {p : Addr} {v : Value} (hc : w.cell? p = some v) (hp : ¬ (lo ≤ p.block ∧ p.block < hi)) : w1.cell? p = some v :=
  (World.cell?_of_block (h.block p.block (lt_of_cell hc) hp)).trans hc
theorem Out.frozen (h : Out lo hi w w1) {p : Addr} (hl : p.block < w.heap.size) (hp : ¬ (lo ≤ p.block ∧ p.block < hi)) : w1.frozen? p = w.frozen? p :=
  World.frozen?_of_block (h.block p.block hl hp)
/-- What turns only new blocks leaves the old ones alone. -/
theorem bel_out {B : Nat} (ho : Out lo hi w w1) (h : Below B a w) (hB : B ≤ a.heap.size) (hl : B ≤ lo) : Below B a w1 :=
  h.trans ⟨ho.os, ho.tape, ho.output, ho.size, fun k hk => ho.block k (Nat.lt_of_lt_of_le hk (Nat.le_trans hB h.size)) (by omega)⟩
theorem Rd.out {B : Nat} {A : Option Addr} {xs : List Value} (h : Rd w B A xs) (ho : Out lo hi w w1) (hl : B ≤ lo) : Rd w1 B A xs :=
  h.keep' fun p v hp hc => ho.cell hc (by omega)
end

/-- A row of the call's own, in a block from `lo` on and below `hi`: `n` elements of type `e`, their cells `xs`. -/
def Ow (w : World) (lo hi : Nat) (e : TypeId) (size : Nat) (A : Option Addr) (n c : Nat) (xs : List Value) : Prop :=
  w.ownsRow lo e size (.slice A n c) n xs ∧ ∀ ad, A = some ad → ad.block < hi
section
variable {w w1 : World} {lo hi : Nat} {e : TypeId} {size n c : Nat} {A : Option Addr} {xs : List Value}
theorem Ow.rd (h : Ow w lo hi e size A n c xs) : Rd w hi A xs := by
  rcases Rd.own h.1 with rfl | ⟨b, off, rfl, _, hc⟩
  · exact .inl rfl
  · exact .inr ⟨b, off, rfl, h.2 _ rfl, hc⟩
theorem Ow.out {lo' hi' : Nat} (h : Ow w lo hi e size A n c xs) (ho : Out lo' hi' w w1) (hd : hi ≤ lo' ∨ hi' ≤ lo) : Ow w1 lo hi e size A n c xs := by
  refine ⟨⟨h.1.1, ?_⟩, h.2⟩
  rcases h.1.2 with h' | ⟨g, cap, cur, h1, h2, h3, h4⟩
  · exact .inl h'
  · have hA : A = some ⟨g, 0, none⟩ := by injection h1
    have hg := h.2 _ hA
    have hl : g < w.heap.size := by
      rcases Nat.lt_or_ge g w.heap.size with hl | hl
      · exact hl
      · rw [Array.getElem?_eq_none hl] at h3
        cases h3
    exact .inr ⟨g, cap, cur, h1, h2, (ho.block g hl (by simp at hg; omega)).trans h3, h4⟩
theorem Ow.below (h : Ow w lo hi e size A n c xs) (hb : Below w.heap.size w w1) : Ow w1 lo hi e size A n c xs :=
  h.out (lo' := 0) (hi' := 0) (Out.of_below hb) (.inr (Nat.zero_le _))
theorem Ow.alloc (h : Ow w lo hi e size A n c xs) (o : Obj) : Ow (w.alloc o) lo hi e size A n c xs := h.below ((Below.refl _ _).alloc (Nat.le_refl _) o)
theorem Ow.len (h : Ow w lo hi e size A n c xs) : xs.length = n * size := h.1.1
theorem Ow.some_ (h : Ow w lo hi e size A n c xs) (hn : 0 < n) : ∃ g, A = some ⟨g, 0, none⟩ ∧ lo ≤ g ∧ g < hi := by
  rcases h.1.2 with ⟨_, h0⟩ | ⟨g, cap, cur, hv, hb, _⟩
  · omega
  · have hA : A = some ⟨g, 0, none⟩ := by injection hv
    exact ⟨g, hA, hb, h.2 _ hA⟩
theorem Ow.mk' (h : w.ownsRow lo e size (.slice A n c) n xs) : Ow w lo w.heap.size e size A n c xs :=
  ⟨h, fun ad hA => (h.lt ad.block (by rw [hA]; rfl)).2⟩
theorem Ow.mono {lo' hi' : Nat} (h : Ow w lo hi e size A n c xs) (h1 : lo' ≤ lo) (h2 : hi ≤ hi') : Ow w lo' hi' e size A n c xs := by
  refine ⟨⟨h.1.1, ?_⟩, fun ad hA => Nat.lt_of_lt_of_le (h.2 ad hA) h2⟩
  rcases h.1.2 with h' | ⟨g, cap, cur, a1, a2, a3⟩
  · exact .inl h'
  · exact .inr ⟨g, cap, cur, a1, Nat.le_trans h1 a2, a3⟩
theorem Ow.cap (h : Ow w lo hi e size A n c xs) : n ≤ c ∧ c ≤ maxLen := by
  rcases h.1.2 with ⟨hv, rfl⟩ | ⟨g, cap, cur, hv, _, _, h1, h2, _⟩
  · simp at hv
    omega
  · have : c = cap := by injection hv
    omega
end
theorem Out.set (w : World) (b o : Nat) (v : Value) : Out b (b + 1) w (w.setCell ⟨b, o, none⟩ v) :=
  ⟨rfl, rfl, rfl, by simp, fun k hk hn => Below.heap_setCell w ⟨b, o, none⟩ v k (fun e => hn (by simp at e; omega))⟩
theorem Ow.set {w : World} {lo hi : Nat} {e : TypeId} {size n c : Nat} {A : Option Addr} {xs : List Value} (h : Ow w lo hi e size A n c xs) {b o : Nat} (v : Value) (hb : b < lo ∨ hi ≤ b) :
    Ow (w.setCell ⟨b, o, none⟩ v) lo hi e size A n c xs := h.out (Out.set w b o v) (by omega)
/-- A cell that may be written. -/
def Cl (w : World) (p : Addr) (v : Value) : Prop := w.cell? p = some v ∧ w.frozen? p = false
theorem Cl.below {w w1 : World} {p : Addr} {v : Value} (h : Cl w p v) (hb : Below w.heap.size w w1) : Cl w1 p v := ⟨keep hb h.1, keepf hb (lt_of_cell h.1) h.2⟩
theorem Cl.alloc {w : World} {p : Addr} {v : Value} (h : Cl w p v) (o : Obj) : Cl (w.alloc o) p v := h.below ((Below.refl _ _).alloc (Nat.le_refl _) o)
theorem Cl.out {w w1 : World} {lo hi : Nat} {p : Addr} {v : Value} (h : Cl w p v) (ho : Out lo hi w w1) (hp : ¬ (lo ≤ p.block ∧ p.block < hi)) : Cl w1 p v := ⟨ho.cell h.1 hp, (ho.frozen (lt_of_cell h.1) hp).trans h.2⟩
theorem Cl.new {w : World} {cs : Array Value} {t : TypeId} {n i : Nat} {v : Value} (hn : n = w.heap.size) (h : cs[i]? = some v) : Cl (w.alloc (.cells cs t)) ⟨n, i, none⟩ v := by
  subst hn
  constructor
  · rw [cell_of_row (w.alloc (.cells cs t)) w.heap.size i cs t (0, 0) (heap_alloc_new w _)]
    exact h
  · exact frozen_of_row (w.alloc (.cells cs t)) w.heap.size i cs t (heap_alloc_new w _)
theorem Cl.same {w : World} {p : Addr} {v : Value} (h : Cl w p v) (u : Value) : Cl (w.setCell p u) p u :=
  ⟨World.cell?_setCell_same' w p u (by rw [h.1]; rfl), (World.frozen?_setCell ..).trans h.2⟩
theorem Cl.other {w : World} {p q : Addr} {v : Value} (h : Cl w p v) (u : Value) (hne : q ≠ p) : Cl (w.setCell q u) p v :=
  ⟨(World.cell?_setCell_other _ _ _ _ hne).trans h.1, (World.frozen?_setCell ..).trans h.2⟩
theorem Cl.drewN {w : World} {p : Addr} {v : Value} (h : Cl w p v) (n : Nat) : Cl (w.drewN n) p v := h
theorem Out.drewN {lo hi : Nat} {w w1 : World} (h : Out lo hi w w1) (n : Nat) : Out lo hi w (w1.drewN n) := ⟨h.os, h.tape, h.output, h.size, h.block⟩
theorem own_form {w : World} {base : Nat} {e : TypeId} {n size : Nat} {v : Value} {xs : List Value} (h : w.ownsRow base e size v n xs) : ∃ A c, v = .slice A n c := by
  rcases h.2 with ⟨rfl, rfl⟩ | ⟨g, cap, cur, rfl, _⟩
  · exact ⟨none, 0, rfl⟩
  · exact ⟨_, cap, rfl⟩

theorem own_empty {w : World} {base g : Nat} {e : TypeId} {size : Nat} (hg : g = w.heap.size) (hb : base ≤ g) : (w.alloc (.cells #[] e)).ownsRow base e size (.slice (some ⟨g, 0, none⟩) 0 0) 0 [] := by
  subst hg
  exact World.ownsRow_lit w #[] 0 hb (by decide) (by simp)

/-- A literal's cells. -/
theorem Rd.lit {w : World} {g : Nat} {cs : Array Value} {t : TypeId} (hg : g = w.heap.size) : Rd (w.alloc (.cells cs t)) (w.heap.size + 1) (some ⟨g, 0, none⟩) cs.toList := by
  subst hg
  refine .inr ⟨w.heap.size, 0, rfl, by omega, fun k v hk => ?_⟩
  rw [cell_of_row (w.alloc (.cells cs t)) w.heap.size (0 + k) cs t (0, 0) (heap_alloc_new w _), Nat.zero_add, ← Array.getElem?_toList]
  exact hk

/-- Ints, as cells. -/
abbrev iv (xs : List Int) : List Value := xs.map (Value.int .i64)
theorem iv_at {xs : List Int} {k : Nat} (h : k < xs.length) : (iv xs)[k]? = some (.int .i64 xs[k]) := by simp [iv, h]
theorem iv_one (xs : List Int) : ∀ u ∈ iv xs, u.oneCell' = true := ints_oneCell _ _
theorem Rd.int {w : World} {B : Nat} {A : Option Addr} {xs : List Int} (h : Rd w B A (iv xs)) {k : Nat} (hk : k < xs.length) :
    ∃ b off, A = some ⟨b, off, none⟩ ∧ b < B ∧ w.cell? ⟨b, off + k, none⟩ = some (.int .i64 xs[k]) := h.at_ (iv_at hk)

section
variable {P : Program}
/-- append of a slice that reads as `news`, nil or not, onto a row of the call's own. -/
theorem run_append_rd (w : World) (base : Nat) (t ty e : TypeId) (i : TypeInfo) (z : Value) (size bytes : Nat) (ht : P.underlying t = some (.slice e)) (hi : P.info? e = some i) (hz : i.zero = some z)
    (hsize : i.size = size) (hby : i.bytes = bytes) (hzs : z.cells.size = size) (hsz : 0 < size)
    (v : Value) (n : Nat) (xs : List Value) (hown : w.ownsRow base e size v n xs) {B : Nat}
    (A : Option Addr) (m c : Nat) (news : List Value) (hl : news.length = m * size) (hr : Rd w B A news) (h1 : ∀ u ∈ news, u.oneCell' = true)
    (h63 : n + m ≤ maxLen) (hbytes : (n + m) * bytes ≤ 140737488355328) (hbase : base ≤ w.heap.size) :
    ∃ v' w', (Builtin.append_ #[t, t] ty #[v, .slice A m c]).run P w = .ok v' w' ∧ w'.ownsRow base e size v' (n + m) (xs ++ news) ∧ w.grownBy w' v.ownBlock ∧ (v'.ownBlock = v.ownBlock ∨ v'.ownBlock = some w.heap.size) := by
  cases A with
  | none =>
    have hnews : news = [] := by
      rcases hr with h | ⟨b, off, h, _⟩
      · exact h
      · cases h
    subst hnews
    have hm : m = 0 := by
      rcases Nat.eq_zero_or_pos m with h | h
      · exact h
      · have := Nat.mul_pos h hsz
        simp at hl
        omega
    subst hm
    refine ⟨v, w, ?_, by simpa using hown, World.grownBy.refl _ _, .inl rfl⟩
    rcases hown.2 with ⟨rfl, rfl⟩ | ⟨g, cap, cur, rfl, _, _, hnc, _⟩
    · simp [Builtin.append_, run_underlying ht, sizeOf, typeInfo, hi, Builtin.lenOf, Builtin.firstCells]
    · simp [Builtin.append_, run_underlying ht, sizeOf, typeInfo, hi, Builtin.lenOf, Builtin.firstCells, hnc, storeCells]
  | some ad =>
    have hnews : ∀ j u, news[j]? = some u → w.cell? (ad.add j) = some u := by
      intro j u hj
      obtain ⟨b, off, h, _, hc⟩ := hr.at_ hj
      injection h with h
      subst h
      have : (⟨b, off, none⟩ : Addr).add j = ⟨b, off + j, none⟩ := by
        unfold Addr.add
        split <;> simp_all
      rw [this]
      exact hc
    obtain ⟨v', w', h2, h3, h4, _, h5⟩ := run_append_own_at (P := P) w base t ty e i z size bytes ht hi hz hsize hby hzs hsz v n xs hown ad m c news hl hnews h1 h63 hbytes hbase
    exact ⟨v', w', h2, h3, h4, h5⟩
theorem wpList_append_rd (w : World) {ops : Array Oper} {rest : List Oper} {o : Oper} {a : Act} {Q : Exit → Act → World → Prop} (hgd : o.guard = none) (s x : Operand) (t : TypeId)
    (ho : o.op = .call { callee := .builtin .append, args := #[s, x], argTypes := #[t, t] })
    (base : Nat) (e : TypeId) (i : TypeInfo) (z : Value) (size bytes : Nat) (ht : P.underlying t = some (.slice e)) (hi : P.info? e = some i) (hz : i.zero = some z)
    (hsize : i.size = size) (hby : i.bytes = bytes) (hzs : z.cells.size = size) (hsz : 0 < size)
    (v : Value) (n : Nat) (xs : List Value) (hs : a.eval s = v) (hown : w.ownsRow base e size v n xs) {B : Nat}
    (A : Option Addr) (m c : Nat) (news : List Value) (hx : a.eval x = .slice A m c) (hl : news.length = m * size) (hr : Rd w B A news) (h1 : ∀ u ∈ news, u.oneCell' = true)
    (h63 : n + m ≤ maxLen) (hbytes : (n + m) * bytes ≤ 140737488355328) (hbase : base ≤ w.heap.size)
    (h : ∀ v' w', w'.ownsRow base e size v' (n + m) (xs ++ news) → w.grownBy w' v.ownBlock → (v'.ownBlock = v.ownBlock ∨ v'.ownBlock = some w.heap.size) → wpList P ops Q rest (a.put o.dst v') w') :
    wpList P ops Q (o :: rest) a w := by
  refine wpList_plain hgd fun K hK => ?_
  obtain ⟨v', w', hrun, h2, h3, h4⟩ := run_append_rd (P := P) w base t o.type e i z size bytes ht hi hz hsize hby hzs hsz v n xs hown A m c news hl hr h1 h63 hbytes hbase
  unfold Oper.wp execOp
  simp only [ho, resolve, invoke, builtin, Sem.run_bind, Sem.run_pure, Result.andThen_ok, List.map_toArray, List.map_cons, List.map_nil, hs, hx, hrun]
  exact hK _ _ (h v' w' h2 h3 h4)
end
end Go.Proofs.Ytljholnnhogdkaa
