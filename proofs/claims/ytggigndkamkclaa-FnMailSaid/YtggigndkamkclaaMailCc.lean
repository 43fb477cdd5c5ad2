/- What the reference's functions do to a valid mail of n threads. -/
import Derived.Test.YtggigndkamkclaaMailX
import Derived.Test.YtggigndkamkclaaMailCn
import Derived.Test.YtggigndkamkclaaMailCy
import Derived.Test.YtggigndkamkclaaMailCd
import Derived.Test.YtggigndkamkclaaMailCj
import Derived.Test.YtggigndkamkclaaMailCm
namespace Go.Proofs.Ytggigndkamkclaa
open Go.ChangeShapes Go.WideShapes Go.ChangeAt Go.RowKit
set_option linter.unusedVariables false

def MRes (n : Nat) (w : World) (e : Ending) (w' : World) : Prop :=
  ∃ (A : Option Addr) (c : Nat) (B : Option Addr) (d : Nat) (S T : Nat → Prop) (xs : List (List Po)) (ys : List (List Int)) (v : Value), e = .returned (.tuple #[.agg #[.slice A n c, .slice B n d], v]) ∧ xs.length = n ∧ mOkB xs ys = true ∧ Wr2c pv w' S A xs ∧ Wr2 iv w' T B ys ∧ New S w w' ∧ New T w w' ∧ Below w.heap.size w w'
theorem MRes.of {n : Nat} {xs : List (List Po)} {ys : List (List Int)} {ok : Bool} {w w' : World} {e : Ending} (hn : xs.length = n) (hok : mOkB xs ys = true) (h : MadeMBc xs ys ok w e w') : MRes n w e w' := by
  obtain ⟨A, c, B, d, S, T, he, h1, h2, h3, h4, _, h5⟩ := h
  have e2 := (mOk_parts.1 hok).2.1
  rw [e2, hn] at he
  exact ⟨A, c, B, d, S, T, xs, ys, _, he, hn, hok, h1, h2, h3, h4, h5⟩
theorem send_m {n : Nat} {xs : List (List Po)} {ys : List (List Int)} (hn : xs.length = n) (hok : mOkB xs ys = true) {κ : Nat} (hκ : κ < n) (px py : Int) (A : Option Addr) (c : Nat) (B : Option Addr) (d : Nat) (W : World) {B1 B2 : Nat} (hr : Rd2 pv W B1 A xs) (hs : Rd2 iv W B2 B ys) :
    Calls Try.prog 34 #[.agg #[.slice A n c, .slice B n d], .int .i64 κ, .agg #[.int .i64 px, .int .i64 py]] W (MRes n W) := by
  have e2 : ys.length = n := by rw [(mOk_parts.1 hok).2.1, hn]
  have hk : κ < xs.length := by omega
  have h30 : xs[κ].length ≤ 30 := by have := tot_row hk; have := (mOk_parts.1 hok).2.2.2; omega
  cases h : mOkB (xs.set κ (xs[κ] ++ [(px, py)])) ys with
  | false =>
    have hc := send_s_no2_c A c B d xs ys κ xs[κ] px py _ W hr hs (mOk_Rows hok) (has_th hok hk) hk rfl h30 rfl h
    rw [hn, e2] at hc
    exact hc.mono fun _ _ hm => MRes.of hn hok hm
  | true =>
    have hc := send_s_yes_c A c B d xs ys κ xs[κ] px py _ W hr hs (mOk_Rows hok) (has_th hok hk) hk rfl h30 rfl h
    rw [hn, e2] at hc
    exact hc.mono fun _ _ hm => MRes.of (by rw [List.length_set, hn]) h hm
theorem deliver_m {n : Nat} {xs : List (List Po)} {ys : List (List Int)} (hn : xs.length = n) (hok : mOkB xs ys = true) {κ : Nat} (hκ : κ < n) (A : Option Addr) (c : Nat) (B : Option Addr) (d : Nat) (W : World) {B1 B2 : Nat} (hr : Rd2c pv W B1 A xs) (hs : Rd2 iv W B2 B ys) :
    Calls Try.prog 33 #[.agg #[.slice A n c, .slice B n d], .int .i64 κ] W (MRes n W) := by
  have e2 : ys.length = n := by rw [(mOk_parts.1 hok).2.1, hn]
  have hk : κ < xs.length := by omega
  by_cases h0 : xs[κ].length = 0
  · have hc := deliver_s_no2_c A c B d xs ys κ W hr.rd hs (mOk_Rows hok) (has_th hok hk) hk h0
    rw [hn, e2] at hc
    exact hc.mono fun _ _ hm => MRes.of hn hok hm
  · obtain ⟨τ, a, hq0, ht⟩ := deliver_to (has_th hok hk) hk (by omega)
    have h30 : ys[τ].length ≤ 30 := by have := tot_row ht; have := (mOk_parts.1 hok).2.2.2; omega
    have hc := deliver_s_yes_c A c B d xs ys κ τ (xs[κ].length - 1) xs[κ] a ys[τ] W hr hs (mOk_Rows hok) (has_th hok hk) hk rfl (by omega) hq0 ht rfl h30
    rw [hn, e2] at hc
    exact hc.mono fun _ _ hm => MRes.of (by rw [List.length_set, hn]) (deliver_ok hok hk ht hq0) hm
theorem collect_m {n : Nat} {xs : List (List Po)} {ys : List (List Int)} (hn : xs.length = n) (hok : mOkB xs ys = true) {κ : Nat} (hκ : κ < n) (A : Option Addr) (c : Nat) (B : Option Addr) (d : Nat) (W : World) {B1 B2 : Nat} (hr : Rd2 pv W B1 A xs) (hs : Rd2 iv W B2 B ys) :
    Calls Try.prog 32 #[.agg #[.slice A n c, .slice B n d], .int .i64 κ] W (MRes n W) := by
  have e2 : ys.length = n := by rw [(mOk_parts.1 hok).2.1, hn]
  have hk : κ < xs.length := by omega
  have hk2 : κ < ys.length := by omega
  have hc := collect_s_yes_c A c B d xs ys κ ys[κ] W hr hs (mOk_Rows hok) (has_th hok hk) hk2 rfl
  rw [hn, e2] at hc
  refine hc.mono fun e w' hm => ?_
  obtain ⟨A, c, B, d, A', c', S, T, U, he, h1, h2, _, h3, h4, _, _, _, _, h5⟩ := hm
  rw [hn, List.length_set, e2] at he
  exact ⟨A, c, B, d, S, T, xs, _, _, he, hn, collect_ok hok hk2, h1, h2, h3, h4, h5⟩
theorem new_m {n : Nat} (h1 : 1 ≤ n) (h2 : n ≤ 4) (W : World) : Calls Try.prog 17 #[.int .i64 n] W (MRes n W) :=
  (mailNew_c (n : Int) W (btw_t (by omega) (by omega))).mono fun e w' hm => by
    rw [Int.toNat_natCast] at hm
    exact MRes.of (by simp) (new_ok h1 h2) hm
end Go.Proofs.Ytggigndkamkclaa
