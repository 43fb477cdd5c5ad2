/- The laws' functions on Cache. -/
import Derived.Test.YtmfomflmbhognaaSSInt
namespace Go.Proofs.Ytmfomflmbhognaa
open Go.ChangeShapes Go.WideShapes Go.ChangeAt Go.RowKit
set_option linter.unusedVariables false

abbrev Rows (xss : List (List Int)) : Prop := xss.length ≤ 1048576 ∧ ∀ l ∈ xss, l.length ≤ 1048576
theorem szCache_any (A : Option Addr) (c : Nat) (xss : List (List Int)) (left : Int) (w : World) {B : Nat} (hr : Rd2 iv w B A xss) (h0 : 0 ≤ left) (h1 : left ≤ 1048576) (hn : xss.length ≤ maxLen ∧ ∀ l ∈ xss, l.length ≤ maxLen) :
    Calls Try.prog 18 #[.agg #[.slice A xss.length c], .int .i64 left] w (Sized left (Rows xss) w) := by
  go_enter Try.func18, Try.ntmps18
  go_wp2_with fail
  refine (szIntSS_any _ _ _ _ _ (hr.alloc _) h0 h1 hn.1 hn.2).mono ?_
  rintro e w1 ⟨q, rfl, hq1, hq2, hb⟩
  by_cases h : q < 0
  · go_wp2
    go_ret
    exact ⟨_, rfl, by omega, by omega, by (repeat' (first | (with_reducible exact Below.refl _ _) | (with_reducible refine bel_alloc ?_ ?_ _) | (with_reducible refine Below.setCell ?_ ?_ _) | (with_reducible refine below_drewN ?_ _) | (with_reducible refine Below.drew ?_) | (with_reducible refine bel_step hb ?_ ?_) | (with_reducible exact Nat.le_refl _) | (with_reducible assumption) | omega | (simp only [World.size_alloc, World.size_setCell, World.size_drew]; omega) | (simp; omega) | (simp; done)))⟩
  · go_wp2
    go_ret
    exact ⟨_, rfl, by omega, fun h => hq2 (by omega), by (repeat' (first | (with_reducible exact Below.refl _ _) | (with_reducible refine bel_alloc ?_ ?_ _) | (with_reducible refine Below.setCell ?_ ?_ _) | (with_reducible refine below_drewN ?_ _) | (with_reducible refine Below.drew ?_) | (with_reducible refine bel_step hb ?_ ?_) | (with_reducible exact Nat.le_refl _) | (with_reducible assumption) | omega | (simp only [World.size_alloc, World.size_setCell, World.size_drew]; omega) | (simp; omega) | (simp; done)))⟩
def MadeCacheW (xss : List (List Int)) (w : World) (e : Ending) (w' : World) : Prop :=
  ∃ A c S, e = .returned (.agg #[.slice A xss.length c]) ∧ (xss.length ≤ c ∧ c ≤ maxLen) ∧ Wr2c iv w' S A xss ∧ New S w w' ∧ Below w.heap.size w w'
set_option maxHeartbeats 1000000 in
theorem toCache_w (A : Option Addr) (c : Nat) (xss : List (List Int)) (w : World) {B : Nat} (hr : Rd2 iv w B A xss) (hn : Rows xss) :
    Calls Try.prog 20 #[.agg #[.slice A xss.length c]] w (MadeCacheW xss w) := by
  go_enter Try.func20, Try.ntmps20
  go_wp2_with fail
  refine (toIntSS_w _ _ _ _ (((hr.alloc _).alloc _).alloc _) hn).mono ?_
  rintro e w1 ⟨A', c', S, rfl, hcap, ho, hN, hb⟩
  have b0 : w1.cell? ⟨w.heap.size + 1, 0, none⟩ = some (.slice none 0 0) := keep hb (by simp [go_sem])
  have bf0 : w1.frozen? ⟨w.heap.size + 1, 0, none⟩ = false := keepf hb (by simp [go_sem]) (by simp [go_sem])
  have d0 : w1.cell? ⟨w.heap.size + 1 + 1, 0, none⟩ = some (.slice none 0 0) := keep hb (by simp [go_sem])
  have df0 : w1.frozen? ⟨w.heap.size + 1 + 1, 0, none⟩ = false := keepf hb (by simp [go_sem]) (by simp [go_sem])
  have hN' : ∀ b, S b → w.heap.size + 3 ≤ b ∧ b < w1.heap.size := fun b hb => by have := hN b hb; simp only [World.size_alloc] at this; omega
  go_wp2
  refine bodyPost_ret (v := .agg #[.slice A' xss.length c']) (by simp [results, Try.results20, go_sem, b0, d0]) rfl ⟨A', c', S, rfl, hcap, (ho.setOut _ (fun h => by have := hN' _ h; omega)).setOut _ (fun h => by have := hN' _ h; omega), New.mk hN' (by omega) (by simp), ?_⟩
  (repeat' (first | (with_reducible exact Below.refl _ _) | (with_reducible refine bel_alloc ?_ ?_ _) | (with_reducible refine Below.setCell ?_ ?_ _) | (with_reducible refine below_drewN ?_ _) | (with_reducible refine Below.drew ?_) | (with_reducible refine bel_step hb ?_ ?_) | (with_reducible exact Nat.le_refl _) | (with_reducible assumption) | omega | (simp only [World.size_alloc, World.size_setCell, World.size_drew]; omega) | (simp; omega) | (simp; done)))
set_option maxHeartbeats 1000000 in
theorem eqCache_same (A B : Option Addr) (c d : Nat) (xss : List (List Int)) (w : World) {B1 B2 : Nat} (hx : Rd2 iv w B1 A xss) (hy : Rd2 iv w B2 B xss) (hn : Rows xss) :
    Calls Try.prog 22 #[.agg #[.slice A xss.length c], .agg #[.slice B xss.length d]] w fun e w' => e = .returned (.bool true) ∧ Below w.heap.size w w' := by
  go_enter Try.func22, Try.ntmps22
  go_wp2_with fail
  refine (eqIntSS_same _ _ _ _ _ _ ((hx.alloc _).alloc _) ((hy.alloc _).alloc _) hn).mono ?_
  rintro e w1 ⟨rfl, hb⟩
  go_wp2
  go_ret
  exact ⟨rfl, by (repeat' (first | (with_reducible exact Below.refl _ _) | (with_reducible refine bel_alloc ?_ ?_ _) | (with_reducible refine Below.setCell ?_ ?_ _) | (with_reducible refine below_drewN ?_ _) | (with_reducible refine Below.drew ?_) | (with_reducible refine bel_step hb ?_ ?_) | (with_reducible exact Nat.le_refl _) | (with_reducible assumption) | omega | (simp only [World.size_alloc, World.size_setCell, World.size_drew]; omega) | (simp; omega) | (simp; done)))⟩
set_option maxHeartbeats 1000000 in
theorem markCache_any (A : Option Addr) (c : Nat) (xss : List (List Int)) (k : Int) (w : World) {S : Nat → Prop} (ho : Wr2 iv w S A xss) (hn : Rows xss) (hk0 : 0 ≤ k) (hk1 : k ≤ 1099511627776) :
    Calls Try.prog 31 #[.agg #[.slice A xss.length c], .int .i64 k] w fun e w' => e = .returned (.int .i64 (k + (tot xss : Nat))) ∧ Wr2 iv w' S A (mkIntSS k xss) ∧ OutS S w w' := by
  go_enter Try.func31, Try.ntmps31
  go_wp2_with fail
  refine (markIntSS_any _ _ _ _ _ (ho.alloc _) hn hk0 (by omega)).mono ?_
  rintro e w1 ⟨rfl, ho1, hout⟩
  go_wp2
  go_ret
  exact ⟨rfl, ho1, (OutS.of_below ((Below.refl _ _).alloc (Nat.le_refl _) _)).trans hout⟩
set_option maxHeartbeats 1000000 in
theorem heldCache_b (A : Option Addr) (c : Nat) (xss : List (List Int)) (k : Int) (w : World) {B : Nat} (hr : Rd2 iv w B A (mkIntSS k xss)) (hn : Rows xss) (hk0 : 0 ≤ k) (hk1 : k ≤ 1099511627776) :
    Calls Try.prog 33 #[.agg #[.slice A xss.length c], .int .i64 k] w fun e w' => e = .returned (.int .i64 (k + (tot xss : Nat))) ∧ Below w.heap.size w w' := by
  have htb : (tot xss : Int) ≤ 1099511627776 := by
    have := tot_le hn.2
    have h2 : xss.length * 1048576 ≤ 1048576 * 1048576 := Nat.mul_le_mul_right _ hn.1
    omega
  go_enter Try.func33, Try.ntmps33
  go_wp2_with fail
  refine (heldIntSS_b _ _ _ _ _ (hr.alloc _) hn hk0 (by omega)).mono ?_
  rintro e w1 ⟨rfl, hb⟩
  have hk : ¬ k + (tot xss : Int) < 0 := by omega
  go_wp2
  go_ret
  exact ⟨rfl, by (repeat' (first | (with_reducible exact Below.refl _ _) | (with_reducible refine bel_alloc ?_ ?_ _) | (with_reducible refine Below.setCell ?_ ?_ _) | (with_reducible refine below_drewN ?_ _) | (with_reducible refine Below.drew ?_) | (with_reducible refine bel_step hb ?_ ?_) | (with_reducible exact Nat.le_refl _) | (with_reducible assumption) | omega | (simp only [World.size_alloc, World.size_setCell, World.size_drew]; omega) | (simp; omega) | (simp; done)))⟩
theorem markCache_c (A : Option Addr) (c : Nat) (xss : List (List Int)) (k : Int) (w : World) {S : Nat → Prop} (ho : Wr2c iv w S A xss) (hn : Rows xss) (hk0 : 0 ≤ k) (hk1 : k ≤ 1099511627776) :
    Calls Try.prog 31 #[.agg #[.slice A xss.length c], .int .i64 k] w fun e w' => e = .returned (.int .i64 (k + (tot xss : Nat))) ∧ Wr2 iv w' S A (mkIntSS k xss) ∧ OutS S w w' :=
  markCache_any A c xss k w ho.wr2 hn hk0 hk1
end Go.Proofs.Ytmfomflmbhognaa
