/- append, onto a new literal and onto a row of the call's own, at a plain region and at a step of a region that draws its order. -/
import Derived.Test.YtljholnnhogdkaaSet
import Derived.Deep.AppendLies
namespace Go.Proofs.Ytljholnnhogdkaa
open Go.ChangeShapes Go.WideShapes Go.ChangeAt Go.RowKit
set_option linter.unusedVariables false

section
variable {P : Program} {w : World}
theorem wp_append_ow {o : Oper} {a : Act} {K : Act → World → Prop} {Q : Exit → Act → World → Prop} (s x : Operand) (t : TypeId)
    (ho : o.op = .call { callee := .builtin .append, args := #[s, x], argTypes := #[t, t] })
    (e : TypeId) (i : TypeInfo) (z : Value) (size bytes : Nat) (ht : P.underlying t = some (.slice e)) (hi : P.info? e = some i) (hz : i.zero = some z)
    (hsize : i.size = size) (hby : i.bytes = bytes) (hzs : z.cells.size = size) (hsz : 0 < size)
    (lo : Nat) (A0 : Option Addr) (n c0 : Nat) (xs : List Value) (hs : a.eval s = .slice A0 n c0) (hown : w.ownsRow lo e size (.slice A0 n c0) n xs) {B : Nat}
    (A : Option Addr) (m c : Nat) (news : List Value) (hx : a.eval x = .slice A m c) (hl : news.length = m * size) (hr : Rd w B A news) (h1 : ∀ u ∈ news, u.oneCell' = true)
    (h63 : n + m ≤ maxLen) (hbytes : (n + m) * bytes ≤ 140737488355328) (hlo : lo ≤ w.heap.size)
    (h : ∀ A' c' w', w'.ownsRow lo e size (.slice A' (n + m) c') (n + m) (xs ++ news) → OutS (fun b => ∃ o, A0 = some ⟨b, o, none⟩) w w' → (A' = A0 ∨ ∃ b, A' = some ⟨b, 0, none⟩ ∧ w.heap.size ≤ b) → K (a.put o.dst (.slice A' (n + m) c')) w') : o.wp P a w K Q := by
  obtain ⟨v', w', hrun, h2, h3, h4⟩ := run_append_rd (P := P) w lo t o.type e i z size bytes ht hi hz hsize hby hzs hsz (.slice A0 n c0) n xs hown A m c news hl hr h1 h63 hbytes hlo
  obtain ⟨A', c', rfl⟩ := own_form h2
  unfold Oper.wp execOp
  simp only [ho, resolve, invoke, builtin, Sem.run_bind, Sem.run_pure, Result.andThen_ok, List.map_toArray, List.map_cons, List.map_nil, hs, hx, hrun]
  refine h A' c' w' h2 (OutS.of_grown h3 ?_) ?_
  · intro g hg
    cases A0 with
    | none => simp [Value.ownBlock] at hg
    | some ad =>
      rcases hown.2 with ⟨hv, _⟩ | ⟨g', cap, cur, hv, _⟩
      · cases hv
      · injection hv with hv
        injection hv with hv
        subst hv
        simp [Value.ownBlock] at hg
        exact ⟨0, by rw [hg]⟩
  · rcases h2.2 with ⟨hv, _⟩ | ⟨g', cap, cur, hv, _⟩
    · injection hv with hv
      subst hv
      cases A0 with
      | none => exact .inl rfl
      | some ad => simp [Value.ownBlock] at h4
    · have hA : A' = some ⟨g', 0, none⟩ := by injection hv
      subst hA
      rcases h4 with h4 | h4
      · cases A0 with
        | none => simp [Value.ownBlock] at h4
        | some ad =>
          rcases hown.2 with ⟨hv, _⟩ | ⟨g2, cap2, cur2, hv, _⟩
          · cases hv
          · injection hv with hv
            injection hv with hv
            subst hv
            simp [Value.ownBlock] at h4
            exact .inl (by rw [h4])
      · simp [Value.ownBlock] at h4
        exact .inr ⟨g', rfl, by omega⟩
theorem wpList_append_ow {ops : Array Oper} {rest : List Oper} {o : Oper} {a : Act} {Q : Exit → Act → World → Prop} (hgd : o.guard = none) (s x : Operand) (t : TypeId)
    (ho : o.op = .call { callee := .builtin .append, args := #[s, x], argTypes := #[t, t] })
    (e : TypeId) (i : TypeInfo) (z : Value) (size bytes : Nat) (ht : P.underlying t = some (.slice e)) (hi : P.info? e = some i) (hz : i.zero = some z)
    (hsize : i.size = size) (hby : i.bytes = bytes) (hzs : z.cells.size = size) (hsz : 0 < size)
    (lo : Nat) (A0 : Option Addr) (n c0 : Nat) (xs : List Value) (hs : a.eval s = .slice A0 n c0) (hown : w.ownsRow lo e size (.slice A0 n c0) n xs) {B : Nat}
    (A : Option Addr) (m c : Nat) (news : List Value) (hx : a.eval x = .slice A m c) (hl : news.length = m * size) (hr : Rd w B A news) (h1 : ∀ u ∈ news, u.oneCell' = true)
    (h63 : n + m ≤ maxLen) (hbytes : (n + m) * bytes ≤ 140737488355328) (hlo : lo ≤ w.heap.size)
    (h : ∀ A' c' w', w'.ownsRow lo e size (.slice A' (n + m) c') (n + m) (xs ++ news) → OutS (fun b => ∃ o, A0 = some ⟨b, o, none⟩) w w' → (A' = A0 ∨ ∃ b, A' = some ⟨b, 0, none⟩ ∧ w.heap.size ≤ b) → wpList P ops Q rest (a.put o.dst (.slice A' (n + m) c')) w') :
    wpList P ops Q (o :: rest) a w :=
  wpList_plain hgd fun K hK => wp_append_ow s x t ho e i z size bytes ht hi hz hsize hby hzs hsz lo A0 n c0 xs hs hown A m c news hx hl hr h1 h63 hbytes hlo fun A' c' w' a1 a2 a3 => hK _ _ (h A' c' w' a1 a2 a3)
theorem step_append_ow {ops : Array Oper} {o : Oper} {a : Act} {K : Act → World → Prop} {Q : Exit → Act → World → Prop} {E : Prop} (hgd : o.guard = none) (s x : Operand) (t : TypeId)
    (ho : o.op = .call { callee := .builtin .append, args := #[s, x], argTypes := #[t, t] })
    (e : TypeId) (i : TypeInfo) (z : Value) (size bytes : Nat) (ht : P.underlying t = some (.slice e)) (hi : P.info? e = some i) (hz : i.zero = some z)
    (hsize : i.size = size) (hby : i.bytes = bytes) (hzs : z.cells.size = size) (hsz : 0 < size)
    (lo : Nat) (A0 : Option Addr) (n c0 : Nat) (xs : List Value) (hs : a.eval s = .slice A0 n c0) (hown : w.ownsRow lo e size (.slice A0 n c0) n xs) {B : Nat}
    (A : Option Addr) (m c : Nat) (news : List Value) (hx : a.eval x = .slice A m c) (hl : news.length = m * size) (hr : Rd w B A news) (h1 : ∀ u ∈ news, u.oneCell' = true)
    (h63 : n + m ≤ maxLen) (hbytes : (n + m) * bytes ≤ 140737488355328) (hlo : lo ≤ w.heap.size)
    (h : ∀ A' c' w', w'.ownsRow lo e size (.slice A' (n + m) c') (n + m) (xs ++ news) → OutS (fun b => ∃ o, A0 = some ⟨b, o, none⟩) w w' → (A' = A0 ∨ ∃ b, A' = some ⟨b, 0, none⟩ ∧ w.heap.size ≤ b) → K (a.put o.dst (.slice A' (n + m) c')) w') :
    if Region.wanted o (yielded ops a.tmps) = true then Oper.wp P o a w K Q else E := by
  have hw : Region.wanted o (yielded ops a.tmps) = true := by simp [Region.wanted, hgd]
  rw [if_pos hw]
  exact wp_append_ow s x t ho e i z size bytes ht hi hz hsize hby hzs hsz lo A0 n c0 xs hs hown A m c news hx hl hr h1 h63 hbytes hlo h

/-- onto a new empty literal -/
theorem wp_append_new {o : Oper} {a : Act} {K : Act → World → Prop} {Q : Exit → Act → World → Prop} (s x : Operand) (t : TypeId)
    (ho : o.op = .call { callee := .builtin .append, args := #[s, x], argTypes := #[t, t] })
    (e : TypeId) (i : TypeInfo) (z : Value) (size bytes : Nat) (ht : P.underlying t = some (.slice e)) (hi : P.info? e = some i) (hz : i.zero = some z)
    (hsize : i.size = size) (hby : i.bytes = bytes) (hzs : z.cells.size = size) (hsz : 0 < size)
    (g : Nat) (hs : a.eval s = .slice (some ⟨g, 0, none⟩) 0 0) (hown : w.ownsRow g e size (.slice (some ⟨g, 0, none⟩) 0 0) 0 []) {B : Nat}
    (A : Option Addr) (m c : Nat) (news : List Value) (hx : a.eval x = .slice A m c) (hl : news.length = m * size) (hr : Rd w B A news) (h1 : ∀ u ∈ news, u.oneCell' = true)
    (h63 : m ≤ maxLen) (hbytes : m * bytes ≤ 140737488355328) (hlo : g ≤ w.heap.size)
    (h : ∀ A' c' w', Ow w' g w'.heap.size e size A' m c' news → OutS (fun b => b = g) w w' → (∀ b o, A' = some ⟨b, o, none⟩ → b = g ∨ w.heap.size ≤ b) → K (a.put o.dst (.slice A' m c')) w') : o.wp P a w K Q :=
  wp_append_ow s x t ho e i z size bytes ht hi hz hsize hby hzs hsz g (some ⟨g, 0, none⟩) 0 0 [] hs hown A m c news hx hl hr h1 (by omega) (by rw [Nat.zero_add]; exact hbytes) hlo fun A' c' w' a1 a2 a3 => by
    rw [Nat.zero_add, List.nil_append] at a1
    rw [Nat.zero_add]
    exact h A' c' w' (Ow.mk' a1) (a2.mono fun b hb => by obtain ⟨o, ho⟩ := hb; injection ho with ho; injection ho with ho; exact ho.symm) (by
      intro b o hb
      rcases a3 with h3 | ⟨b', h3, h4⟩
      · rw [h3] at hb; injection hb with hb; injection hb with hb; exact .inl hb.symm
      · rw [h3] at hb; injection hb with hb; injection hb with hb; exact .inr (by omega))
theorem wpList_append_new {ops : Array Oper} {rest : List Oper} {o : Oper} {a : Act} {Q : Exit → Act → World → Prop} (hgd : o.guard = none) (s x : Operand) (t : TypeId)
    (ho : o.op = .call { callee := .builtin .append, args := #[s, x], argTypes := #[t, t] })
    (e : TypeId) (i : TypeInfo) (z : Value) (size bytes : Nat) (ht : P.underlying t = some (.slice e)) (hi : P.info? e = some i) (hz : i.zero = some z)
    (hsize : i.size = size) (hby : i.bytes = bytes) (hzs : z.cells.size = size) (hsz : 0 < size)
    (g : Nat) (hs : a.eval s = .slice (some ⟨g, 0, none⟩) 0 0) (hown : w.ownsRow g e size (.slice (some ⟨g, 0, none⟩) 0 0) 0 []) {B : Nat}
    (A : Option Addr) (m c : Nat) (news : List Value) (hx : a.eval x = .slice A m c) (hl : news.length = m * size) (hr : Rd w B A news) (h1 : ∀ u ∈ news, u.oneCell' = true)
    (h63 : m ≤ maxLen) (hbytes : m * bytes ≤ 140737488355328) (hlo : g ≤ w.heap.size)
    (h : ∀ A' c' w', Ow w' g w'.heap.size e size A' m c' news → OutS (fun b => b = g) w w' → (∀ b o, A' = some ⟨b, o, none⟩ → b = g ∨ w.heap.size ≤ b) → wpList P ops Q rest (a.put o.dst (.slice A' m c')) w') :
    wpList P ops Q (o :: rest) a w :=
  wpList_plain hgd fun K hK => wp_append_new s x t ho e i z size bytes ht hi hz hsize hby hzs hsz g hs hown A m c news hx hl hr h1 h63 hbytes hlo fun A' c' w' a1 a2 a3 => hK _ _ (h A' c' w' a1 a2 a3)
theorem step_append_new {ops : Array Oper} {o : Oper} {a : Act} {K : Act → World → Prop} {Q : Exit → Act → World → Prop} {E : Prop} (hgd : o.guard = none) (s x : Operand) (t : TypeId)
    (ho : o.op = .call { callee := .builtin .append, args := #[s, x], argTypes := #[t, t] })
    (e : TypeId) (i : TypeInfo) (z : Value) (size bytes : Nat) (ht : P.underlying t = some (.slice e)) (hi : P.info? e = some i) (hz : i.zero = some z)
    (hsize : i.size = size) (hby : i.bytes = bytes) (hzs : z.cells.size = size) (hsz : 0 < size)
    (g : Nat) (hs : a.eval s = .slice (some ⟨g, 0, none⟩) 0 0) (hown : w.ownsRow g e size (.slice (some ⟨g, 0, none⟩) 0 0) 0 []) {B : Nat}
    (A : Option Addr) (m c : Nat) (news : List Value) (hx : a.eval x = .slice A m c) (hl : news.length = m * size) (hr : Rd w B A news) (h1 : ∀ u ∈ news, u.oneCell' = true)
    (h63 : m ≤ maxLen) (hbytes : m * bytes ≤ 140737488355328) (hlo : g ≤ w.heap.size)
    (h : ∀ A' c' w', Ow w' g w'.heap.size e size A' m c' news → OutS (fun b => b = g) w w' → (∀ b o, A' = some ⟨b, o, none⟩ → b = g ∨ w.heap.size ≤ b) → K (a.put o.dst (.slice A' m c')) w') :
    if Region.wanted o (yielded ops a.tmps) = true then Oper.wp P o a w K Q else E := by
  have hw : Region.wanted o (yielded ops a.tmps) = true := by simp [Region.wanted, hgd]
  rw [if_pos hw]
  exact wp_append_new s x t ho e i z size bytes ht hi hz hsize hby hzs hsz g hs hown A m c news hx hl hr h1 h63 hbytes hlo h
end
/-- The new literal, still empty. -/
theorem own_lit {w : World} {g : Nat} {e : TypeId} {size : Nat} (hg : g = w.heap.size) : (w.alloc (.cells #[] e)).ownsRow g e size (.slice (some ⟨g, 0, none⟩) 0 0) 0 [] := own_empty hg (Nat.le_refl _)
end Go.Proofs.Ytljholnnhogdkaa
