/- The laws' functions on []int, with sets of blocks. -/
import Derived.Test.YtljholnnhogdkaaIntS
import Derived.Test.YtljholnnhogdkaaSet
import Derived.Test.YtljholnnhogdkaaSize
namespace Go.Proofs.Ytljholnnhogdkaa
open Go.ChangeShapes Go.WideShapes Go.ChangeAt Go.RowKit
set_option linter.unusedVariables false

theorem szIntS_sized (A : Option Addr) (n c : Nat) (left : Int) (w : World) (h0 : 0 ≤ left) (h1 : left ≤ 1048576) (hn : n ≤ maxLen) :
    Calls Try.prog 79 #[.slice A n c, .int .i64 left] w (Sized left ((n : Int) ≤ left) w) :=
  (szIntS_any A n c left w h0 h1 hn).mono fun e w' ⟨h1, h2⟩ => ⟨szN left n, h1, by unfold szN; split <;> omega, by unfold szN; split <;> omega, by rw [h2]; exact Below.refl _ _⟩
def MadeIntSW (xs : List Int) (w : World) (e : Ending) (w' : World) : Prop :=
  ∃ A c S, e = .returned (.slice A xs.length c) ∧ (xs.length ≤ c ∧ c ≤ maxLen) ∧ Wr w' S A (iv xs) ∧ New S w w' ∧ Below w.heap.size w w'
theorem toIntS_w (A : Option Addr) (c : Nat) (xs : List Int) (w : World) {B : Nat} (hr : Rd w B A (iv xs)) (hn : xs.length ≤ 1048576) :
    Calls Try.prog 80 #[.slice A xs.length c] w (MadeIntSW xs w) :=
  (toIntS_any A c xs w hr hn).mono fun e w' ⟨A', c', he, ho, hb⟩ => by
    obtain ⟨S, hW, hN⟩ := ho.wr.new w.heap.size (fun b h => h.1)
    exact ⟨A', c', S, he, ho.cap, hW, hN, hb⟩
theorem eqIntS_same (A B : Option Addr) (c d : Nat) (xs : List Int) (w : World) {B1 B2 : Nat} (hx : Rd w B1 A (iv xs)) (hy : Rd w B2 B (iv xs)) (hn : xs.length ≤ 1048576) :
    Calls Try.prog 10 #[.slice A xs.length c, .slice B xs.length d] w fun e w' => e = .returned (.bool true) ∧ Below w.heap.size w w' :=
  (eqIntS_any A B c d xs xs w hx hy (by omega) (by omega)).mono fun e w' ⟨h1, m, h2⟩ => ⟨by rw [h1]; simp, by rw [h2]; exact below_drewN (Below.refl _ _) m⟩
theorem heldIntS_b (A : Option Addr) (c n : Nat) (k : Int) (w : World) {B : Nat} (hr : Rd w B A (iv (marks k n))) (hn : n ≤ 1048576) (hk0 : 0 ≤ k) (hk1 : k ≤ 4611686018427387904) :
    Calls Try.prog 12 #[.slice A n c, .int .i64 k] w fun e w' => e = .returned (.int .i64 (k + n)) ∧ Below w.heap.size w w' :=
  (heldIntS_any A c n k w hr (by omega) hk0 hk1).mono fun e w' ⟨h1, h2⟩ => ⟨h1, by rw [h2]; exact Below.refl _ _⟩
set_option maxHeartbeats 2000000 in
theorem markIntS_w (A : Option Addr) (c : Nat) (xs : List Int) (k : Int) (w : World) {S : Nat → Prop} (ho : Wr w S A (iv xs)) (hn : xs.length ≤ 1048576) (hk0 : 0 ≤ k) (hk1 : k ≤ 4611686018427387904) :
    Calls Try.prog 11 #[.slice A xs.length c, .int .i64 k] w fun e w' => e = .returned (.int .i64 (k + xs.length)) ∧ Wr w' S A (iv (marks k xs.length)) ∧ OutS S w w' := by
  obtain ⟨n, hne⟩ : ∃ n, n = xs.length := ⟨_, rfl⟩
  have hl0 : (iv xs).length = n := by simp [hne]
  rw [← hne]
  rw [← hne] at hn
  generalize iv xs = cur0 at *
  have HN := Lib.hid hl0
  clear hne hl0
  go_enter Try.func11, Try.ntmps11
  go_wp2
  go_loopw [1, 5] (fun u v wr => ∃ j : Nat, j ≤ n ∧ v = .int .i64 j ∧ u = .int .i64 (k + j) ∧ OutS S w wr ∧ ∃ cur : List Value, cur.length = n ∧ (∀ t, t < j → cur[t]? = some (.int .i64 (k + (t : Nat)))) ∧ Wr wr S A cur)
    (fun _ v _ => n - (intOf v).toNat)
  case atStart => exact ⟨0, Nat.zero_le _, rfl, by simp, OutS.refl, _, HN.out, fun j hj => absurd hj (by omega), ho⟩
  case round =>
    obtain ⟨j, hj, rfl, rfl, hg, cur, hcl, hcur, hw⟩ := hrel
    have HC := Lib.hid hcur
    have HL := Lib.hid hcl
    clear hcur hcl ho
    by_cases hlt : j < n
    · obtain ⟨b, off, rfl, hS, c0, f0⟩ := hw.at_ (k := j) (List.getElem?_eq_getElem (by have := HL.out; omega))
      go_wp2
      have s0 := Wr.set (k := j) hw rfl (.int .i64 (k + j))
      go_roundw
      case rel =>
        refine ⟨j + 1, by omega, by go_num, by go_num, hg.trans (OutS.set _ _ hS), cur.set j (.int .i64 (k + j)), by simp; exact HL.out, fun t ht => ?_, s0⟩
        rw [List.getElem?_set]
        split
        · rename_i e
          rw [if_pos (by have := HL.out; omega), e]
        · exact HC.out t (by omega)
      case measure => simp [intOf]; omega
    · obtain rfl : j = n := by omega
      have hcu : cur = iv (marks k j) := by
        apply List.ext_getElem?
        intro t
        by_cases ht : t < j
        · rw [HC.out t ht]
          simp [marks, ht]
        · rw [List.getElem?_eq_none (by have := HL.out; omega), List.getElem?_eq_none (by simp; omega)]
      have HU := Lib.hid hcu
      clear hcu
      go_wp2
      go_ret
      exact ⟨rfl, by have h2 := hw; rw [HU.out] at h2; exact h2, hg⟩
end Go.Proofs.Ytljholnnhogdkaa
