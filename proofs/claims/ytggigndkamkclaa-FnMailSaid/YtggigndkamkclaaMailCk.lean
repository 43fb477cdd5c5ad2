/- The program's Deliver, Collect, InFlight, MailOk at a valid mail, with one count. -/
import Derived.Test.YtggigndkamkclaaMailX
import Derived.Test.YtggigndkamkclaaMailQiy
import Derived.Test.YtggigndkamkclaaMailQ
import Derived.Test.YtggigndkamkclaaMailQ2
import Derived.Test.YtggigndkamkclaaMailJi
import Derived.Test.YtggigndkamkclaaMailF
import Derived.Test.YtggigndkamkclaaMailB
namespace Go.Proofs.Ytggigndkamkclaa
open Go.ChangeShapes Go.WideShapes Go.ChangeAt Go.RowKit
set_option linter.unusedVariables false
set_option linter.unusedSimpArgs false

def MK (n : Nat) (xs : List (List Po)) (ys : List (List Int)) (ok : Bool) (w : World) (e : Ending) (w' : World) : Prop :=
  ∃ A c B d, e = .returned (.tuple #[.agg #[.slice A n c, .slice B n d], .bool ok]) ∧ Rd2 pv w' w'.heap.size A xs ∧ Rd2 iv w' w'.heap.size B ys ∧ Below w.heap.size w w'
theorem MK.of {n : Nat} {xs : List (List Po)} {ys : List (List Int)} {ok : Bool} {w w' : World} {e : Ending} (hn : xs.length = n) (hn2 : ys.length = n) (h : MadeMB xs ys ok w e w') : MK n xs ys ok w e w' := by
  obtain ⟨A, c, B, d, S, T, he, h1, h2, h3, h4, h5, h6⟩ := h
  rw [hn, hn2] at he
  exact ⟨A, c, B, d, he, h1.rd, h2.rd, h6⟩
theorem deliver_kn {n : Nat} {xs : List (List Po)} {ys : List (List Int)} (hn : xs.length = n) (hok : mOkB xs ys = true) {κ : Nat} (hk : κ < xs.length) (h0 : xs[κ].length = 0) (A : Option Addr) (c : Nat) (B : Option Addr) (d : Nat) (W : World) {B1 B2 : Nat} (hr : Rd2 pv W B1 A xs) (hs : Rd2 iv W B2 B ys) :
    Calls Try.prog 15 #[.agg #[.slice A n c, .slice B n d], .int .i64 κ] W (MK n xs ys false W) := by
  have e2 : ys.length = n := by rw [(mOk_parts.1 hok).2.1, hn]
  have hc := deliver_i_no2 A c B d xs ys κ W hr hs (mOk_Rows hok) (has_th hok hk) hk h0
  rw [hn, e2] at hc
  exact hc.mono fun _ _ hm => MK.of hn e2 hm
theorem deliver_ky {n : Nat} {xs : List (List Po)} {ys : List (List Int)} (hn : xs.length = n) (hok : mOkB xs ys = true) {κ τ m : Nat} {a : Int} (hk : κ < xs.length) (ht : τ < ys.length) (hm : xs[κ].length = m + 1) (h0 : (xs[κ])[0]? = some ((τ : Int), a)) (A : Option Addr) (c : Nat) (B : Option Addr) (d : Nat) (W : World) {B1 B2 : Nat} (hr : Rd2 pv W B1 A xs) (hs : Rd2 iv W B2 B ys) :
    Calls Try.prog 15 #[.agg #[.slice A n c, .slice B n d], .int .i64 κ] W (MK n (xs.set κ (xs[κ].drop 1)) (ys.set τ (ys[τ] ++ [a])) true W) := by
  have e2 : ys.length = n := by rw [(mOk_parts.1 hok).2.1, hn]
  have h30 : ys[τ].length ≤ 30 := by have := tot_row ht; have := (mOk_parts.1 hok).2.2.2; omega
  have hc := deliver_i_yes A c B d xs ys κ τ m xs[κ] a ys[τ] W hr hs (mOk_Rows hok) (has_th hok hk) hk rfl hm h0 ht rfl h30
  rw [hn, e2] at hc
  exact hc.mono fun _ _ h => MK.of (by rw [List.length_set]; exact hn) (by rw [List.length_set]; exact e2) h
theorem mailOk_k {n : Nat} {xs : List (List Po)} {ys : List (List Int)} (hn : xs.length = n) (hok : mOkB xs ys = true) (A : Option Addr) (c : Nat) (B : Option Addr) (d : Nat) (W : World) {B1 B2 : Nat} (hr : Rd2 pv W B1 A xs) (hs : Rd2 iv W B2 B ys) :
    Calls Try.prog 24 #[.agg #[.slice A n c, .slice B n d]] W fun e w' => e = .returned (.bool true) ∧ Below W.heap.size W w' := by
  have e2 : ys.length = n := by rw [(mOk_parts.1 hok).2.1, hn]
  have hc := mailOk_i A c B d xs ys W hr hs (mOk_Rows hok) true hok
  rw [hn, e2] at hc
  exact hc
def MKI (n l : Nat) (xs : List (List Po)) (ys : List (List Int)) (q : List Int) (w : World) (e : Ending) (w' : World) : Prop :=
  ∃ A c B d A' c', e = .returned (.tuple #[.agg #[.slice A n c, .slice B n d], .slice A' l c']) ∧ Rd2 pv w' w'.heap.size A xs ∧ Rd2 iv w' w'.heap.size B ys ∧ Rd w' w'.heap.size A' (iv q) ∧ Below w.heap.size w w'
theorem collect_k {n l : Nat} {xs : List (List Po)} {ys : List (List Int)} {q : List Int} (hn : xs.length = n) (hok : mOkB xs ys = true) {τ : Nat} (ht : τ < ys.length) (hq : ys[τ] = q) (hl : q.length = l) (A : Option Addr) (c : Nat) (B : Option Addr) (d : Nat) (W : World) {B1 B2 : Nat} (hr : Rd2 pv W B1 A xs) (hs : Rd2 iv W B2 B ys) :
    Calls Try.prog 16 #[.agg #[.slice A n c, .slice B n d], .int .i64 τ] W (MKI n l xs (ys.set τ []) q W) := by
  have e2 : ys.length = n := by rw [(mOk_parts.1 hok).2.1, hn]
  have hc := collect_i_yes A c B d xs ys τ q W hr hs (mOk_Rows hok) (has_th hok (by rw [hn]; omega)) ht hq.symm
  rw [hn, e2] at hc
  refine hc.mono fun e w' hm => ?_
  obtain ⟨A, c, B, d, A', c', S, T, U, he, h1, h2, h3, _, _, _, _, _, _, h5⟩ := hm
  rw [hn, List.length_set, e2, hl] at he
  exact ⟨A, c, B, d, A', c', he, h1.rd, h2.rd, h3.rd, h5⟩
def MKF (l : Nat) (w : World) (e : Ending) (w' : World) : Prop := ∃ A c, e = .returned (.slice A l c) ∧ Below w.heap.size w w'
theorem inFlight_k {n l : Nat} {xs : List (List Po)} {ys : List (List Int)} (hn : xs.length = n) (hok : mOkB xs ys = true) (hl : tot xs + tot ys = l) (A : Option Addr) (c : Nat) (B : Option Addr) (d : Nat) (W : World) {B1 B2 : Nat} (hr : Rd2 pv W B1 A xs) (hs : Rd2 iv W B2 B ys) :
    Calls Try.prog 27 #[.agg #[.slice A n c, .slice B n d]] W (MKF l W) := by
  have e2 : ys.length = n := by rw [(mOk_parts.1 hok).2.1, hn]
  have hc := inFlight_i_yes A c B d xs ys W hr hs (mOk_Rows hok) hok
  rw [hn, e2] at hc
  refine hc.mono fun e w' hm => ?_
  obtain ⟨A, c, S, he, h1, h2, h3⟩ := hm
  have hlen : (fa xs n ++ fb ys n).length = l := by
    rw [List.length_append, fa_len, fb_len, List.take_of_length_le (by omega), List.take_of_length_le (by omega)]
    exact hl
  rw [hlen] at he
  exact ⟨A, c, he, h3⟩
end Go.Proofs.Ytggigndkamkclaa
