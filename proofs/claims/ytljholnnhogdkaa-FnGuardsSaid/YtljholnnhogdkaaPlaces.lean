/- DrawPlaces: twelve numbers from 0 to 9999. -/
import Derived.Test.YtljholnnhogdkaaDraw
import Derived.Test.YtljholnnhogdkaaInfo
namespace Go.Proofs.Ytljholnnhogdkaa
open Go.ChangeShapes Go.WideShapes Go.ChangeAt Go.RowKit
set_option linter.unusedVariables false

theorem Cur.out {w w1 : World} {g B lo hi : Nat} {A : Option Addr} {c : Nat} {bs : List Int} (h : Cur w g B A c bs) (ho : Out lo hi w w1) (hg : g < lo) (hB : B ≤ lo) : Cur w1 g B A c bs := by
  obtain ⟨i, x, hi, c0, c1, c2, hr⟩ := h
  exact ⟨i, x, hi, c0.out ho (by simp; omega), c1.out ho (by simp; omega), c2.out ho (by simp; omega), hr.out ho hB⟩
theorem Cur.below {w w1 : World} {g B : Nat} {A : Option Addr} {c : Nat} {bs : List Int} (h : Cur w g B A c bs) (hb : Below w.heap.size w w1) : Cur w1 g B A c bs := by
  obtain ⟨i, x, hi, c0, c1, c2, hr⟩ := h
  exact ⟨i, x, hi, c0.below hb, c1.below hb, c2.below hb, hr.below hb⟩
theorem Cur.alloc {w : World} {g B : Nat} {A : Option Addr} {c : Nat} {bs : List Int} (h : Cur w g B A c bs) (o : Obj) : Cur (w.alloc o) g B A c bs := h.below ((Below.refl _ _).alloc (Nat.le_refl _) o)
theorem Cur.lt {w : World} {g B : Nat} {A : Option Addr} {c : Nat} {bs : List Int} (h : Cur w g B A c bs) : g < w.heap.size := by
  obtain ⟨i, x, hi, c0, c1, c2, hr⟩ := h
  exact lt_of_cell' c0.1

def Places (xs : List Int) : Prop := xs.length = 12 ∧ ∀ x ∈ xs, 0 ≤ x ∧ x < 10000
def PlacesOut (w : World) (e : Ending) (w' : World) : Prop :=
  ∃ A c xs, e = .returned (.slice A 12 c) ∧ Places xs ∧ Ow w' w.heap.size w'.heap.size 3 1 A 12 c (iv xs) ∧ Below w.heap.size w w'
set_option maxRecDepth 100000 in
set_option maxHeartbeats 4000000 in
theorem places_any (B : Nat) (A : Option Addr) (c : Nat) (bs : List Int) (w : World) (hb : Bytes bs) (hr : Rd w B A (bv bs)) (hB : B ≤ w.heap.size) :
    Calls Try.prog 14 #[.slice A bs.length c] w (PlacesOut w) := by
  obtain ⟨i0, hi, hz0, hz1, hz2⟩ := info_parts infoInt
  go_enter Try.func14, Try.ntmps14
  go_wp2_with fail
  refine (l01New_any B A c bs _ hb hr).mono ?_
  rintro e w1 ⟨g, rfl, hg0, hg1, hc, hb1⟩
  go_wp2_with fail
  go_loopw [4, 5] (fun v u wr => ∃ (k : Nat) (A1 : Option Addr) (c1 : Nat) (xs : List Int), k ≤ 12 ∧ u = .int .i64 k ∧ v = .slice A1 k c1 ∧ xs.length = k ∧ (∀ x ∈ xs, 0 ≤ x ∧ x < 10000) ∧ Ow wr (g + 1) wr.heap.size 3 1 A1 k c1 (iv xs) ∧ Cur wr g B A c bs ∧ Below w.heap.size w wr)
    (fun _ u _ => 12 - (intOf u).toNat)
  case atStart => exact ⟨0, _, _, [], by omega, rfl, rfl, rfl, by simp, Ow.mk' (own_empty rfl (by omega)), hc.alloc _, by (repeat' (first | (with_reducible exact Below.refl _ _) | (with_reducible refine bel_alloc ?_ ?_ _) | (with_reducible refine Below.setCell ?_ ?_ _) | (with_reducible refine below_drewN ?_ _) | (with_reducible refine Below.drew ?_) | (with_reducible refine bel_step hb1 ?_ ?_) | (with_reducible exact Nat.le_refl _) | (with_reducible assumption) | omega | (simp only [World.size_alloc, World.size_setCell, World.size_drew]; omega) | (simp; omega) | (simp; done)))⟩
  case round =>
    obtain ⟨k, A1, c1, xs, hk, rfl, rfl, hxl, hxs, ho, hcr, hbr⟩ := hrel
    clear hc hb1
    by_cases hlt : k < 12
    · go_wp2_with fail
      refine (l01Below_any 10000 g B A c bs _ hb (by omega) hcr (by omega)).mono ?_
      rintro e w2 ⟨x, rfl, hx0, hx1, -, hc2, ho2⟩
      have hx1 := hx1 (by omega)
      have hz := ho2.size
      have how := ho.out ho2 (.inr (Nat.le_refl _))
      have hw2 := bel_out (a := w) ho2 hbr (Nat.le_refl _) hg0
      have hgl := hc2.lt
      have HXL := Lib.hid hxl
      clear hxl
      go_wp2_with (at_builtin; refine wpList_append_rd _ rfl (.tmp 13) (.tmp 16) _ rfl (g + 1) 3 i0 (.int .i64 0) 1 8 Try.underlying22 hi hz0 hz1 hz2 rfl (by omega) (.slice A1 k c1) k (iv xs) rfl (how.alloc _).1 (some ⟨w2.heap.size, 0, none⟩) 1 1 [.int .i64 x] rfl rfl (Rd.lit rfl) (by simp [Value.oneCell']) (by unfold maxLen; omega) (by omega) (by simp; omega) ?_; intro v' w3 hown hgrow hat; obtain ⟨A2, c2, rfl⟩ := own_form hown)
      have hO := Out.of_grown (lo := g + 1) (hi := w2.heap.size + 1) hgrow (by intro q hq; have := (how.alloc (.cells #[.int .i64 x] 3)).1.lt q hq; simp at this; omega)
      have hz3 := hO.size
      simp only [World.size_alloc] at hz3
      go_roundw
      case rel =>
        refine ⟨k + 1, A2, c2, xs ++ [x], by omega, by go_num, rfl, by simp [HXL.out], ?_, ?_, ?_, ?_⟩
        · intro y hy
          rcases List.mem_append.1 hy with hy | hy
          · exact hxs y hy
          · simp at hy
            subst hy
            exact ⟨hx0, hx1⟩
        · have h := Ow.mk' hown
          simpa [iv] using h
        · exact (hc2.alloc _).out hO (by omega) (by omega)
        · exact bel_out (a := w) hO (bel_alloc hw2 (Nat.le_refl _) _) (Nat.le_refl _) (by omega)
      case measure => simp [intOf]; omega
    · obtain rfl : k = 12 := by omega
      have HXL := Lib.hid hxl
      clear hxl
      go_wp2
      go_ret
      exact ⟨A1, c1, xs, rfl, ⟨HXL.out, hxs⟩, ho.mono (by omega) (Nat.le_refl _), hbr⟩

theorem places_at {w : World} {lo hi : Nat} {A : Option Addr} {c : Nat} {xs : List Int} (ho : Ow w lo hi 3 1 A 12 c (iv xs)) (hp : Places xs) :
    ∃ g, A = some ⟨g, 0, none⟩ ∧ lo ≤ g ∧ g < hi ∧ ∃ P : Nat → Int, (∀ j, j < 12 → 0 ≤ P j ∧ P j < 10000) ∧ ∀ j, j < 12 → w.cell? ⟨g, j, none⟩ = some (.int .i64 (P j)) := by
  obtain ⟨g, rfl, h1, h2⟩ := ho.some_ (by omega)
  refine ⟨g, rfl, h1, h2, fun j => xs.getD j 0, fun j hj => ?_, fun j hj => ?_⟩
  · have hl : j < xs.length := by rw [hp.1]; exact hj
    simp only [List.getD_eq_getElem?_getD, List.getElem?_eq_getElem hl, Option.getD_some]
    exact hp.2 _ (List.getElem_mem hl)
  · have hl : j < xs.length := by rw [hp.1]; exact hj
    rw [ho.1.cellAt j (by omega), iv_at hl]
    simp [List.getElem?_eq_getElem hl]
theorem big_any (A : Option Addr) (n c : Nat) (w : World) : Calls Try.prog 13 #[.slice A n c] w fun e w' => e = .returned (.bool (decide ((1048576 : Int) < n))) ∧ w' = w := by
  go_enter Try.func13, Try.ntmps13
  go_wp2
  go_ret
  exact ⟨rfl, rfl⟩
end Go.Proofs.Ytljholnnhogdkaa
