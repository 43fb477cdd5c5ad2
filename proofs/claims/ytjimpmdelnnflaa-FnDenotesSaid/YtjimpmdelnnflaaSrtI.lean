/- slices.Sort on an own row of ints. -/
import Derived.Test.YtjimpmdelnnflaaLivA
import Derived.Test.YtjimpmdelnnflaaSrtL
import Derived.Sort.OwnSortedInts
import Derived.Sort.EveryDepth
namespace Go.Proofs.Ytjimpmdelnnflaa
open Go.Shelf Go.Sort Go.ChangeShapes Go.WideShapes Go.ChangeAt Go.RowKit
set_option linter.unusedVariables false
theorem sort_calls (blk cap : Nat) (zs : List Int) (w : World) (hH : Holds (Value.int .i64) w blk 0 zs.toArray) (hblk : blk < w.heap.size) (hsz : zs.length < 4611686018427387904) :
    Calls Try.prog 42 #[.slice (some ⟨blk, 0, none⟩) zs.length cap] w fun e w' =>
      e = .returned (.tuple #[]) ∧ ∃ n os, w' = grow (putRow (Value.int .i64) (Sort.ahead w n) blk 0 (zs.mergeSort fun x y => decide (x ≤ y)).toArray) os :=
  calls_of_every_depth fun D => AnyS.slices_Sort_int_in Try.lays189 D blk 0 cap zs w hH hblk hsz
theorem sort_own (lo : Nat) (zs : List Int) (A : Option Addr) (c : Nat) (w : World) (hown : w.ownsRow lo 3 1 (.slice A zs.length c) zs.length (iv zs)) (hA : Som A) (hsz : zs.length < 4611686018427387904) :
    Calls Try.prog 42 #[.slice A zs.length c] w fun e w' => e = .returned (.tuple #[]) ∧ w'.ownsRow lo 3 1 (.slice A zs.length c) zs.length (iv (srt zs)) ∧ Below lo w w' := by
  obtain ⟨b, rfl⟩ := hA
  rcases hown.2 with ⟨hv, _⟩ | ⟨g, cap, cur, hv, hg, hb, h1, h2, h3, h4⟩
  · cases hv
  · injection hv with hv1 hv2 hv3
    injection hv1 with hv1
    injection hv1 with hv1
    subst hv1 hv3
    rw [Nat.mul_one] at h4
    have hbs := (Array.getElem?_eq_some_iff.1 hb).1
    refine (sort_calls b c zs w (holds_of_blockI hb h4) hbs hsz).mono ?_
    rintro e w' ⟨rfl, n, os, rfl⟩
    refine ⟨rfl, ownsRow_sortedI (by simp [srt]) hg hb h1 h2 h3, ?_⟩
    have hgr := grownBy_sortedI (w := w) (g := b) (n := n) (os := os) (srt zs).toArray
    have := bel_grown (B := lo) hgr (Below.refl _ _) (by omega) (by intro g hg2; injection hg2 with hg2; omega)
    exact this
end Go.Proofs.Ytjimpmdelnnflaa
