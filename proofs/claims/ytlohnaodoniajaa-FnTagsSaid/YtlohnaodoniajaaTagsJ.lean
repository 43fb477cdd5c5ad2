/- FnTags: what one address' tag is after each step. -/
import Derived.Test.YtlohnaodoniajaaTagsN
import Derived.Test.YtlohnaodoniajaaPlaces
import Derived.Lib.QuietBelow
namespace Go.Proofs.Ytlohnaodoniajaa
open Go.ChangeShapes Go.WideShapes Go.ChangeAt Go.RowKit
set_option linter.unusedVariables false

/-- Twenty tags, one of which is not 0. -/
def st (a : Nat) (v : Int) : List Int := (List.replicate 20 0).set a v
@[simp] theorem st_length (a : Nat) (v : Int) : (st a v).length = 20 := by simp [st]
theorem st_get {a : Nat} {v : Int} (h : a < 20) : (st a v).getD a 0 = v := by simp [st, h]
theorem st_bump {a : Nat} {v : Int} (h : a < 20) : bump (st a v) a = st a ((v + 1) % 8) := by
  rw [bump, st_get h, st, st, List.set_set]
theorem st_zero (a : Nat) : List.replicate 20 (0 : Int) = st a 0 := by
  apply List.ext_getElem?
  intro i
  rw [st, List.getElem?_set, List.getElem?_replicate, List.length_replicate]
  by_cases h1 : a = i
  · subst h1
    simp
  · simp [h1]
theorem st_ok {a : Nat} {v : Int} (h0 : 0 ≤ v) (h1 : v ≤ 7) : tOkB (st a v) = true := by
  simp only [tOkB, Bool.and_eq_true, List.all_eq_true]
  refine ⟨fun x hx => ?_, by rw [st_length]; rfl⟩
  rcases List.mem_or_eq_of_mem_set hx with h | h
  · rw [List.eq_of_mem_replicate h]; rfl
  · subst h; exact btw_t h0 h1
theorem st_has {a : Nat} {v : Int} (h : a < 20) (h0 : 0 ≤ v) (h1 : v ≤ 7) : hasB (st a v) a = true := by
  simp [hasB, st_ok h0 h1]
  exact btw_t (by omega) (by omega)
theorem st_ptr {a : Nat} {v : Int} (h : a < 20) (h0 : 0 ≤ v) (h1 : v ≤ 7) : ptrI (st a v) a = a + 512 * v := by
  rw [ptrI, if_pos (st_has h h0 h1), Int.toNat_natCast, st_get h]
theorem st_fits {a : Nat} {v u : Int} (h : a < 20) (h0 : 0 ≤ v) (h1 : v ≤ 7) (h2 : 0 ≤ u) (h3 : u ≤ 7) : fitsB (st a v) (a + 512 * u) = (v == u) := by
  have e1 : ((a : Int) + 512 * u) % 512 = a := by omega
  have e2 : ((a : Int) + 512 * u) / 512 = u := by omega
  have e3 : btw ((a : Int) + 512 * u) 0 4095 = true := btw_t (by omega) (by omega)
  rw [fitsB, e1, e2, e3, st_has h h0 h1, Int.toNat_natCast, st_get h]
  simp
  rfl

def NextTags (a : Nat) (v : Int) (w : World) (e : Ending) (w' : World) : Prop :=
  ∃ A c, e = .returned (.tuple #[.agg #[.slice A 20 c], .bool true]) ∧ Ow w' w.heap.size w'.heap.size 3 1 A 20 c (iv (st a v)) ∧ Below w.heap.size w w'
theorem retag_st (A : Option Addr) (c a : Nat) (v : Int) (w : World) {B : Nat} (hr : Rd w B A (iv (st a v))) (ha : a < 20) (h0 : 0 ≤ v) (h1 : v ≤ 7) :
    Calls Try.prog 22 #[.agg #[.slice A 20 c], .int .i64 a] w (NextTags a ((v + 1) % 8) w) := by
  have h := retag_i_yes A c (st a v) a w hr (by simp) (st_has ha h0 h1)
  rw [st_length, st_bump ha] at h
  refine h.mono ?_
  rintro e w' ⟨A', c', rfl, ho, hb⟩
  unfold OwI at ho
  rw [st_length] at ho ⊢
  exact ⟨A', c', rfl, ho, hb⟩
theorem ptr_st (A : Option Addr) (c a : Nat) (v : Int) (w : World) {B : Nat} (hr : Rd w B A (iv (st a v))) (ha : a < 20) (h0 : 0 ≤ v) (h1 : v ≤ 7) :
    Calls Try.prog 19 #[.agg #[.slice A 20 c], .int .i64 a] w fun e w' => e = .returned (.int .i64 (a + 512 * v)) ∧ Below w.heap.size w w' := by
  have h := pointerTo_i A c (st a v) a w hr (by simp)
  rw [st_length, st_ptr ha h0 h1] at h
  exact h
theorem fits_st (A : Option Addr) (c a : Nat) (v u : Int) (w : World) {B : Nat} (hr : Rd w B A (iv (st a v))) (ha : a < 20) (h0 : 0 ≤ v) (h1 : v ≤ 7) (h2 : 0 ≤ u) (h3 : u ≤ 7) :
    Calls Try.prog 23 #[.agg #[.slice A 20 c], .int .i64 (a + 512 * u)] w fun e w' => e = .returned (.bool (v == u)) ∧ Below w.heap.size w w' := by
  have h := tagFits_i A c (st a v) (a + 512 * u) w hr (by simp)
  rw [st_length, st_fits ha h0 h1 h2 h3] at h
  exact h
theorem ok_st (A : Option Addr) (c a : Nat) (v : Int) (w : World) {B : Nat} (hr : Rd w B A (iv (st a v))) (h0 : 0 ≤ v) (h1 : v ≤ 7) :
    Calls Try.prog 17 #[.agg #[.slice A 20 c]] w fun e w' => e = .returned (.bool true) ∧ Below w.heap.size w w' := by
  have h := tagsOk_i A c (st a v) w hr (by simp)
  rw [st_length, st_ok h0 h1] at h
  exact h
theorem new_st (a : Nat) (w : World) : Calls Try.prog 10 #[.int .i64 20] w (NextTags a 0 w) := by
  refine (tagsNew_i_yes 20 w rfl).mono ?_
  rintro e w' ⟨A', c', rfl, ho, hb⟩
  unfold OwI at ho
  rw [List.length_replicate] at ho ⊢
  rw [st_zero a] at ho
  exact ⟨A', c', rfl, ho, hb⟩
end Go.Proofs.Ytlohnaodoniajaa
