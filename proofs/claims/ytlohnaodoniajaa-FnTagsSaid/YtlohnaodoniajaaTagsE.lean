/- Retag, of the program and of the reference. -/
import Derived.Test.YtlohnaodoniajaaTagsD
import Derived.BigRegion
namespace Go.Proofs.Ytlohnaodoniajaa
open Go.ChangeShapes Go.WideShapes Go.ChangeAt Go.RowKit
set_option linter.unusedVariables false

def MadeTagsB (xs : List Int) (ok : Bool) (w : World) (e : Ending) (w' : World) : Prop :=
  ∃ A c, e = .returned (.tuple #[.agg #[.slice A xs.length c], .bool ok]) ∧ OwI w' w.heap.size w'.heap.size A c xs ∧ Below w.heap.size w w'

set_option maxHeartbeats 1000000 in
theorem retag_i_no (A : Option Addr) (c : Nat) (xs : List Int) (a : Int) (w : World) {B : Nat} (hr : Rd w B A (iv xs)) (hn : xs.length ≤ 1048576) (hb : hasB xs a = false) :
    Calls Try.prog 22 #[.agg #[.slice A xs.length c], .int .i64 a] w (MadeTagsB xs false w) := by
  go_enter Try.func22, Try.ntmps22
  go_wp2_with fail
  refine (copyInts_any _ _ _ _ ((hr.alloc _).alloc _) hn).mono ?_
  rintro e w1 ⟨A', c', rfl, ho, hb1⟩
  have b0 : w1.cell? ⟨w.heap.size, 0, none⟩ = some (.slice A xs.length c) := keep hb1 (by simp [go_sem])
  have hb0 := lt_of_cell' b0
  go_wp2_with fail
  refine (hasTag_i _ _ _ _ _ (((hr.alloc _).alloc _).below hb1 |>.alloc _) hn).mono ?_
  rintro e w2 ⟨rfl, hb2⟩
  have d0 : w2.cell? ⟨w1.heap.size, 0, none⟩ = some (.slice A' xs.length c') := keep hb2 (by simp [go_sem])
  have hd0 := lt_of_cell' d0
  have F : Cl w2 ⟨w.heap.size + 1, 0, none⟩ (.slice none 0 0) := ((((Cl.new (by simp) rfl).below hb1).alloc _).below hb2)
  obtain ⟨f0, ff0⟩ := F
  go_wp2
  refine bodyPost_ret (v := .tuple #[.agg #[.slice A' xs.length c'], .bool false]) (by simp [results, Try.results22, go_sem, f0]) rfl ⟨A', c', rfl, ?_, ?_⟩
  · simp only [World.size_setCell]
    exact (((ho.alloc _).below hb2).set _ (.inl (by simp))).mono (by simp; omega) (by have := hb2.size; simp at this; omega)
  · (repeat' (first | (with_reducible exact Below.refl _ _) | (with_reducible refine bel_alloc ?_ ?_ _) | (with_reducible refine Below.setCell ?_ ?_ _) | (with_reducible refine below_drewN ?_ _) | (with_reducible refine Below.drew ?_) | (with_reducible refine bel_step hb1 ?_ ?_) | (with_reducible refine bel_step hb2 ?_ ?_) | (with_reducible exact Nat.le_refl _) | (with_reducible assumption) | omega | (simp only [World.size_alloc, World.size_setCell, World.size_drew]; omega) | (simp; omega) | (simp; done)))

def bump (xs : List Int) (k : Nat) : List Int := xs.set k ((xs.getD k 0 + 1) % 8)
@[simp] theorem bump_length (xs : List Int) (k : Nat) : (bump xs k).length = xs.length := by simp [bump]

set_option maxHeartbeats 2000000 in
theorem retag_i_yes (A : Option Addr) (c : Nat) (xs : List Int) (k : Nat) (w : World) {B : Nat} (hr : Rd w B A (iv xs)) (hn : xs.length ≤ 1048576) (hb : hasB xs k = true) :
    Calls Try.prog 22 #[.agg #[.slice A xs.length c], .int .i64 k] w (MadeTagsB (bump xs k) true w) := by
  obtain ⟨k', hke, hk, hx0, hx1, hl, -⟩ := hasB_yes hb
  obtain rfl : k' = k := by omega
  clear hke
  obtain ⟨x, hx⟩ : ∃ x, x = xs[k'] := ⟨_, rfl⟩
  rw [← hx] at hx0 hx1
  have HB := Lib.hid (show iv (bump xs k') = (iv xs).set k' (.int .i64 ((x + 1) % 8)) by simp [bump, iv, List.map_set, hx, hk])
  have HX := Lib.hid (show (iv xs)[k']? = some (.int .i64 x) by rw [iv_at hk, hx])
  clear hx
  unfold MadeTagsB
  rw [bump_length]
  go_enter Try.func22, Try.ntmps22
  go_wp2_with fail
  refine (copyInts_any _ _ _ _ ((hr.alloc _).alloc _) hn).mono ?_
  rintro e w1 ⟨A', c', rfl, ho, hb1⟩
  have b0 : w1.cell? ⟨w.heap.size, 0, none⟩ = some (.slice A xs.length c) := keep hb1 (by simp [go_sem])
  have hb0 := lt_of_cell' b0
  go_wp2_with fail
  refine (hasTag_i _ _ _ _ _ (((hr.alloc _).alloc _).below hb1 |>.alloc _) hn).mono ?_
  rintro e w2 ⟨rfl, hb2⟩
  have d0 : w2.cell? ⟨w1.heap.size, 0, none⟩ = some (.slice A' xs.length c') := keep hb2 (by simp [go_sem])
  have hd0 := lt_of_cell' d0
  have F : Cl w2 ⟨w.heap.size + 1, 0, none⟩ (.slice none 0 0) := ((((Cl.new (by simp) rfl).below hb1).alloc _).below hb2)
  obtain ⟨f0, ff0⟩ := F
  have ho2 := (ho.alloc (.cells #[.slice A' xs.length c'] 24)).below hb2
  obtain ⟨g, rfl, hg1, hg2⟩ := ho2.some_ (by omega)
  have e0 : w2.cell? ⟨g, k', none⟩ = some (.int .i64 x) := by rw [ho2.1.cellAt k' (by omega)]; exact HX.out
  have ef0 := ho2.1.frozenAt k'
  have i0 : (0 : Int) ≤ (k' : Int) := by omega
  have i1 : (k' : Int) < (xs.length : Int) := by omega
  have hgw : w.heap.size ≤ g := by simp at hg1; omega
  have hne : g ≠ w.heap.size + 1 := by simp at hg1; omega
  have hne2 : g ≠ w1.heap.size := by omega
  have hm8 : IntKind.i64.wrap (x + 1) = x + 1 := IntWalk.i64_in _ (by omega)
  go_wp2
  go_region
  all_goals
    go_wp2
    refine bodyPost_ret (v := .tuple #[.agg #[.slice (some ⟨g, 0, none⟩) xs.length c'], .bool true]) (by simp [results, Try.results22, go_sem, f0, hne, hne2]) rfl ⟨some ⟨g, 0, none⟩, c', rfl, ?_, ?_⟩
    · have h3 : Ow (w2.setCell ⟨g, k', none⟩ (.int .i64 ((x + 1) % 8))) _ _ 3 1 (some ⟨g, 0, none⟩) xs.length c' _ := ⟨(ho2.1.stored k' _).1, ho2.2⟩
      show Ow _ _ _ _ _ _ (bump xs k').length _ _
      rw [bump_length, HB.out]
      exact (h3.set _ (.inl (by simp))).mono (by simp; omega) (by have := hb2.size; simp at this ⊢; omega)
    · (repeat' (first | (with_reducible exact Below.refl _ _) | (with_reducible refine bel_alloc ?_ ?_ _) | (with_reducible refine Below.setCell ?_ ?_ _) | (with_reducible refine below_drewN ?_ _) | (with_reducible refine Below.drew ?_) | (with_reducible refine bel_step hb1 ?_ ?_) | (with_reducible refine bel_step hb2 ?_ ?_) | (with_reducible exact Nat.le_refl _) | (with_reducible assumption) | omega | (simp only [World.size_alloc, World.size_setCell, World.size_drew]; omega) | (simp; omega) | (simp; done)))
end Go.Proofs.Ytlohnaodoniajaa
