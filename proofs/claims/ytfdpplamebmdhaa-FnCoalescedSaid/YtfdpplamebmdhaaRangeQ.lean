/- copyRanges; RangePut, of the program. -/
import Derived.Test.YtfdpplamebmdhaaRangeP
import Derived.Test.YtfdpplamebmdhaaApp
namespace Go.Proofs.Ytfdpplamebmdhaa
open Go.ChangeShapes Go.WideShapes Go.ChangeAt Go.RowKit
set_option linter.unusedVariables false

theorem pv_app (a b : List Rg) : pv (a ++ b) = pv a ++ pv b := by simp [pv]
theorem own_lo' {w : World} {lo : Nat} {e : TypeId} {size n c m : Nat} {A : Option Addr} {xs : List Value} (h : w.ownsRow lo e size (.slice A n c) m xs) : ∀ y, (∃ o, A = some ⟨y, o, none⟩) → lo ≤ y := by
  rintro y ⟨o, rfl⟩
  rcases h.2 with ⟨hv, _⟩ | ⟨g, cap, cur, hv, hg, _⟩
  · cases hv
  · injection hv with hv
    injection hv with hv
    injection hv with hv
    omega
theorem copyRanges_any (A : Option Addr) (c : Nat) (xs : List Rg) (w : World) {B : Nat} (hr : Rd w B A (pv xs)) (hn : xs.length ≤ 1048576) :
    Calls Try.prog 45 #[.slice A xs.length c] w (MadeR xs w) := by
  obtain ⟨i0, hi, hz0, hz1, hz2⟩ := info_parts infoRange
  have HL := Lib.hid (pv_length xs)
  go_enter Try.func45, Try.ntmps45
  go_wp2_with (at_builtin; refine wpList_append_rd _ rfl (.tmp 3) (.tmp 4) _ rfl w.heap.size 42 i0 (.agg #[.int .i64 0, .int .i64 0]) 2 16 Try.underlying25 hi hz0 hz1 hz2 rfl (by omega) (.slice (some ⟨w.heap.size, 0, none⟩) 0 0) 0 [] rfl (own_empty rfl (Nat.le_refl _)) A xs.length c (pv xs) rfl HL.out (hr.alloc _) (pv_one _) (by unfold maxLen; omega) (by omega) (by simp) ?_; intro v' w1 hown hgrow hat)
  go_ret
  obtain ⟨A', c', rfl⟩ := own_form hown
  rw [Nat.zero_add, List.nil_append] at hown
  exact ⟨A', c', by rw [Nat.zero_add]; rfl, Ow.mk' hown, bel_grown hgrow (by (repeat' (first | (with_reducible exact Below.refl _ _) | (with_reducible refine bel_alloc ?_ ?_ _) | (with_reducible refine Below.setCell ?_ ?_ _) | (with_reducible refine below_drewN ?_ _) | (with_reducible refine Below.drew ?_) | (with_reducible exact Nat.le_refl _) | (with_reducible assumption) | omega | (simp only [World.size_alloc, World.size_setCell, World.size_drew]; omega) | (simp; omega) | (simp; done)))) (Nat.le_refl _) (by intro g hg; simp [Value.ownBlock] at hg; omega)⟩
def MadeRP (ys : List Rg) (ok : Bool) (w : World) (e : Ending) (w' : World) : Prop :=
  ∃ A c S, e = .returned (.tuple #[.slice A ys.length c, .bool ok]) ∧ Wr w' S A (pv ys) ∧ New S w w' ∧ Below w.heap.size w w' ∧ (ys.length ≤ c ∧ c ≤ maxLen)
theorem made_rp {w w' : World} {xs : List Rg} {lo : Nat} {A : Option Addr} {c n : Nat} {ok : Bool} (hn : n = xs.length) (h : w'.ownsRow lo 42 2 (.slice A n c) n (pv xs)) (hl : w.heap.size ≤ lo) (hb : Below w.heap.size w w') : MadeRP xs ok w (.returned (.tuple #[.slice A n c, .bool ok])) w' := by
  subst hn
  have ho := Ow.mk' h
  obtain ⟨S, hW, hN⟩ := ho.wr.new w.heap.size (fun b h => by omega)
  exact ⟨A, c, S, rfl, hW, hN, hb, ho.cap⟩
set_option maxHeartbeats 4000000 in
theorem rangePut_i_no (pages : Int) (A : Option Addr) (c : Nat) (xs : List Rg) (a b : Int) (w : World) {B : Nat} (hr : Rd w B A (pv xs)) (hn : xs.length ≤ 1048576) (hpg : -9223372036854775808 ≤ pages ∧ pages ≤ 9223372036854775807) (hno : rOkB pages xs = false ∨ rInB pages (a, b) = false) :
    Calls Try.prog 26 #[.int .i64 pages, .slice A xs.length c, .agg #[.int .i64 a, .int .i64 b]] w (MadeRP xs false w) := by
  have CO := fun W (h : Rd W W.heap.size A (pv xs)) => rangesOk_i pages A c xs W h hn hpg
  have CI := fun W => rangeIn_i pages a b W hpg
  cases hv : rOkB pages xs with
  | false =>
    rw [hv] at CO
    have CO := Lib.hid CO
    clear CI hno hv
    go_enter Try.func26, Try.ntmps26
    go_wp2_with fail
    refine (CO.out _ (hr.alloc _).lt).mono ?_
    rintro e w2 ⟨rfl, hb2⟩
    go_wp2_with fail
    refine (copyRanges_any _ _ _ _ ((hr.alloc _).below hb2) hn).mono ?_
    rintro e w3 ⟨A3, c3, rfl, ho, hb3⟩
    have HB := Lib.hid (show Below w.heap.size w w3 by (repeat' (first | (with_reducible exact Below.refl _ _) | (with_reducible refine bel_alloc ?_ ?_ _) | (with_reducible refine Below.setCell ?_ ?_ _) | (with_reducible refine below_drewN ?_ _) | (with_reducible refine Below.drew ?_) | (with_reducible refine bel_step hb2 ?_ ?_) | (with_reducible refine bel_step hb3 ?_ ?_) | (with_reducible exact Nat.le_refl _) | (with_reducible assumption) | omega | (simp only [World.size_alloc, World.size_setCell, World.size_drew]; omega) | (simp; omega) | (simp; done))))
    have hz := hb2.size
    simp only [World.size_alloc] at hz
    go_wp2
    go_ret2
    exact made_rp rfl ho.1 (by omega) HB.out
  | true =>
    have hi := hno.resolve_left (by rw [hv]; simp)
    rw [hv] at CO
    rw [hi] at CI
    have CO := Lib.hid CO
    have CI := Lib.hid CI
    clear hno hv hi
    go_enter Try.func26, Try.ntmps26
    go_wp2_with fail
    refine (CO.out _ (hr.alloc _).lt).mono ?_
    rintro e w2 ⟨rfl, hb2⟩
    have r0 : w2.cell? ⟨w.heap.size, 0, none⟩ = some (.int .i64 a) := keep hb2 (by simp [go_sem])
    have r1 : w2.cell? ⟨w.heap.size, 1, none⟩ = some (.int .i64 b) := keep hb2 (by simp [go_sem])
    go_wp2_with fail
    refine (CI.out _).mono ?_
    rintro e w4 ⟨rfl, hb4⟩
    go_wp2_with fail
    refine (copyRanges_any _ _ _ _ (((hr.alloc _).below hb2).below hb4) hn).mono ?_
    rintro e w3 ⟨A3, c3, rfl, ho, hb3⟩
    have HB := Lib.hid (show Below w.heap.size w w3 by (repeat' (first | (with_reducible exact Below.refl _ _) | (with_reducible refine bel_alloc ?_ ?_ _) | (with_reducible refine Below.setCell ?_ ?_ _) | (with_reducible refine below_drewN ?_ _) | (with_reducible refine Below.drew ?_) | (with_reducible refine bel_step hb2 ?_ ?_) | (with_reducible refine bel_step hb4 ?_ ?_) | (with_reducible refine bel_step hb3 ?_ ?_) | (with_reducible exact Nat.le_refl _) | (with_reducible assumption) | omega | (simp only [World.size_alloc, World.size_setCell, World.size_drew]; omega) | (simp; omega) | (simp; done))))
    have hz := hb2.size
    have hz4 := hb4.size
    simp only [World.size_alloc] at hz
    go_wp2
    go_ret2
    exact made_rp rfl ho.1 (by omega) HB.out
end Go.Proofs.Ytfdpplamebmdhaa
