/- A machine of two frames with one page: plain laws. -/
import Derived.Test.YtljholnnhogdkaaGSt
import Derived.Test.YtljholnnhogdkaaGuardC
namespace Go.Proofs.Ytljholnnhogdkaa
open Go.ChangeShapes Go.WideShapes Go.ChangeAt Go.RowKit
set_option linter.unusedVariables false
set_option linter.unusedSimpArgs false

def z16 : List Int := List.replicate 16 0
def us0 : List Bool := [true, false]
def es0 : List En := [(2, 0), (0, 0)]
abbrev m2 (row : List Int) : List (List Int) := [row, z16]
def RowOk (row : List Int) : Prop := row.length = 16 ∧ ∀ v ∈ row, btw v 0 999 = true
theorem RowOk.z : RowOk z16 := ⟨by decide, by decide⟩
theorem RowOk.set {row : List Int} {t : Nat} {v : Int} (h : RowOk row) (hv : btw v 0 999 = true) : RowOk (row.set t v) :=
  ⟨by rw [List.length_set]; exact h.1, fun x hx => by
    rcases List.mem_or_eq_of_mem_set hx with h1 | h1
    · exact h.2 x h1
    · rw [h1]; exact hv⟩
theorem mk2 {row : List Int} (h : RowOk row) : mkOkB (m2 row) us0 es0 = true := by
  refine mk_all (fOk_all (by rfl) rfl fun k hk hk2 => ?_) (by decide) fun k hk => ?_
  · have hk' : k < 2 := hk
    rcases (by omega : k = 0 ∨ k = 1) with rfl | rfl
    · refine fRow_all h.1 fun j hj => ?_
      have := h.2 row[j] (List.getElem_mem hj)
      show (btw row[j] 0 999 && (decide (row[j] = 0) || true)) = true
      rw [this]; simp
    · show fRow false z16 = true
      decide
  · have hk' : k < 2 := hk
    rcases (by omega : k = 0 ∨ k = 1) with rfl | rfl
    · show true = onB es0 ((0 : Nat) : Int); decide
    · show false = onB es0 ((1 : Nat) : Int); decide
theorem rows2 {row : List Int} (h : RowOk row) : MRows (m2 row) us0 es0 := by
  refine ⟨⟨by show 2 ≤ _; omega, fun l hl => ?_⟩, by show 2 ≤ _; omega, by show 2 ≤ _; omega⟩
  have hl' : l = row ∨ l = z16 := by simpa using hl
  rcases hl' with rfl | rfl
  · rw [h.1]; omega
  · show 16 ≤ _; omega
theorem pe2 {a : Int} (h0 : 0 ≤ a) (h1 : a < 16) : peA es0 a = (2, 0) := by
  have e : a / 16 = 0 := by omega
  unfold peA
  rw [if_pos h0, e]
  decide
theorem en2 {row : List Int} (h : RowOk row) {a : Int} (h0 : 0 ≤ a) (h1 : a < 16) : enOf (m2 row) us0 es0 a = (2, ((0 : Nat) : Int)) := by
  unfold enOf
  rw [if_pos (mk2 h)]
  exact pe2 h0 h1
theorem brk2 {row : List Int} (h : RowOk row) {a : Int} (h0 : 0 ≤ a) (h1 : a < 16) : brk (m2 row) us0 es0 a = decide (row.getD a.toNat 0 ≠ 777) := by
  have e : a / 16 = 0 := by omega
  have e2 : a % 16 = a := by omega
  have hp : peOf es0 0 = (2, 0) := by decide
  have hl : ldOf (m2 row) us0 es0 a = (row.getD a.toNat 0, 0) := by
    unfold ldOf
    rw [e, e2, hp, if_pos ⟨mk2 h, h0, by decide⟩]
    rfl
  unfold brk
  rw [hl]
  simp
/-- All the cells of a list hold the guard's value. -/
def Grd (row : List Int) (l : List Int) : Prop := ∀ a ∈ l, row.getD a.toNat 0 = 777
theorem Grd.set {row : List Int} (h : RowOk row) {l : List Int} {a : Int} (hl : ∀ x ∈ l, 0 ≤ x ∧ x < 16) (h0 : 0 ≤ a) (h1 : a < 16) (hg : Grd row l) : Grd (row.set a.toNat 777) (l ++ [a]) := by
  intro x hx
  have h16 := h.1
  rw [List.getD_eq_getElem?_getD, List.getElem?_set]
  rcases List.mem_append.1 hx with hx | hx
  · split
    · rw [if_pos (by omega)]; rfl
    · rw [← List.getD_eq_getElem?_getD]; exact hg x hx
  · have e : x = a := by simpa using hx
    subst e
    rw [if_pos rfl, if_pos (by omega)]; rfl
theorem Grd.ok {row : List Int} (h : RowOk row) {l : List Int} (hl : ∀ x ∈ l, 0 ≤ x ∧ x < 16) (hg : Grd row l) : firstB (m2 row) us0 es0 l = -1 :=
  firstB_no fun j hj => by
    have hm := List.getElem_mem hj
    rw [brk2 h (hl _ hm).1 (hl _ hm).2, hg _ hm]
    decide
theorem Grd.broken {row : List Int} (h : RowOk row) {l : List Int} (hl : ∀ x ∈ l, 0 ≤ x ∧ x < 16) (hi : ∀ i j (hi : i < l.length) (hj : j < l.length), l[i] = l[j] → i = j) (hg : Grd row l) {k : Nat} (hk : k < l.length) {v : Int} (hv : btw v 0 999 = true) (hne : v ≠ 777) :
    firstB (m2 (row.set (l[k]).toNat v)) us0 es0 l = l[k] := by
  have h16 := h.1
  refine firstB_at hk (fun j hj hjk => ?_) ?_
  · have hm := List.getElem_mem hj
    have hmk := List.getElem_mem hk
    have b1 := hl _ hm
    have b2 := hl _ hmk
    have hd : l[k] ≠ l[j] := fun e => by have := hi k j hk hj e; omega
    rw [brk2 (h.set hv) b1.1 b1.2, List.getD_eq_getElem?_getD, List.getElem?_set_ne (by omega), ← List.getD_eq_getElem?_getD, hg _ hm]
    decide
  · have hmk := List.getElem_mem hk
    have b2 := hl _ hmk
    rw [brk2 (h.set hv) b2.1 b2.2, List.getD_eq_getElem?_getD, List.getElem?_set_self (by omega)]
    simpa using hne
end Go.Proofs.Ytljholnnhogdkaa
