/- The cursor of a draw: l01New, l01Byte, l01Below; DrawPlaces. -/
import Derived.Test.YtljholnnhogdkaaMem
namespace Go.Proofs.Ytljholnnhogdkaa
open Go.ChangeShapes Go.WideShapes Go.ChangeAt Go.RowKit
set_option linter.unusedVariables false

/-- Bytes, as cells. -/
abbrev bv (bs : List Int) : List Value := bs.map (Value.int .u8)
def Bytes (bs : List Int) : Prop := bs.length ≤ 1048576 ∧ ∀ b ∈ bs, 0 ≤ b ∧ b ≤ 255
/-- A cursor lies in block `g`. -/
def Cur (w : World) (g B : Nat) (A : Option Addr) (c : Nat) (bs : List Int) : Prop :=
  ∃ (i : Nat) (h : Int), i ≤ bs.length ∧ Cl w ⟨g, 0, none⟩ (.slice A bs.length c) ∧ Cl w ⟨g, 1, none⟩ (.int .i64 i) ∧ Cl w ⟨g, 2, none⟩ (.int .i64 h) ∧ Rd w B A (bv bs)

theorem and255 (a : Int) : 0 ≤ bits .and .i64 a 255 ∧ bits .and .i64 a 255 ≤ 255 := by
  have h : bits .and .i64 a 255 = IntKind.i64.wrap ((BitVec.ofInt 64 a &&& BitVec.ofInt 64 255).toNat : Int) := rfl
  rw [h, BitVec.toNat_and]
  have h2 : (BitVec.ofInt 64 a).toNat &&& (BitVec.ofInt 64 255).toNat ≤ 255 := Nat.and_le_right
  rw [IntKind.wrap_i64]
  omega
def ByteOut (g B : Nat) (A : Option Addr) (c : Nat) (bs : List Int) (w : World) (e : Ending) (w' : World) : Prop :=
  ∃ x : Int, e = .returned (.int .i64 x) ∧ 0 ≤ x ∧ x ≤ 255 ∧ Cur w' g B A c bs ∧ Out g (g + 1) w w'
set_option maxHeartbeats 2000000 in
theorem l01Byte_any (g B : Nat) (A : Option Addr) (c : Nat) (bs : List Int) (w : World) (hb : Bytes bs) (hB : B ≤ g) (hc : Cur w g B A c bs) :
    Calls Try.prog 55 #[.pointer (some ⟨g, 0, none⟩)] w (ByteOut g B A c bs w) := by
  obtain ⟨i, h, hi, ⟨c0, f0⟩, ⟨c1, f1⟩, ⟨c2, f2⟩, hr⟩ := hc
  have hbl := hb.1
  by_cases hlt : i < bs.length
  · obtain ⟨b, off, rfl, hbB, hcell⟩ := hr.at_ (k := i) (v := .int .u8 bs[i]) (by simp [hlt])
    have hb2 := hb.2 bs[i] (List.getElem_mem hlt)
    obtain ⟨y, hy⟩ : ∃ y, y = bs[i] := ⟨_, rfl⟩
    rw [← hy] at hcell hb2
    clear hy
    have hbg : b ≠ g := by omega
    have i0 : (0 : Int) ≤ (i : Int) := by omega
    have i1 : (i : Int) < (bs.length : Int) := by omega
    go_enter Try.func55, Try.ntmps55
    go_wp2
    go_quiet (fail)
    go_wp2
    go_quiet (fail)
    go_wp2
    go_quiet (fail)
    go_wp2
    go_ret
    exact ⟨_, rfl, (and255 _).1, (and255 _).2, ⟨i + 1, _, by omega, ((Cl.other ⟨c0, f0⟩ _ (by simp)).drewN _).other _ (by simp), by
      have := ((Cl.other (p := ⟨g, 1, none⟩) ⟨c1, f1⟩ (.int .i64 (wrap64 (wrap64 (h * 6364136223846793005) + 1442695040888963407))) (q := ⟨g, 2, none⟩) (by simp)).drewN (nq)).same (.int .i64 ((i + 1 : Nat) : Int))
      exact this, ((Cl.same ⟨c2, f2⟩ _).drewN _).other _ (by simp), ((hr.out (Out.set _ _ _ _) hB).drewN _).out (Out.set _ _ _ _) hB⟩, ((Out.set _ _ _ _).drewN _).trans (Out.set _ _ _ _)⟩
  · have i1 : ¬ (i : Int) < (bs.length : Int) := by omega
    go_enter Try.func55, Try.ntmps55
    go_wp2
    go_quiet (fail)
    go_wp2
    go_quiet (fail)
    go_wp2
    go_ret
    exact ⟨_, rfl, (and255 _).1, (and255 _).2, ⟨i, _, hi, ((Cl.other ⟨c0, f0⟩ _ (by simp)).drewN _).drewN _, ((Cl.other ⟨c1, f1⟩ _ (by simp)).drewN _).drewN _, ((Cl.same ⟨c2, f2⟩ _).drewN _).drewN _, ((hr.out (Out.set _ _ _ _) hB).drewN _).drewN _⟩, ((Out.set _ _ _ _).drewN _).drewN _⟩

def BelowOut (n : Int) (g B : Nat) (A : Option Addr) (c : Nat) (bs : List Int) (w : World) (e : Ending) (w' : World) : Prop :=
  ∃ x : Int, e = .returned (.int .i64 x) ∧ 0 ≤ x ∧ (0 < n → x < n) ∧ (n ≤ 0 → x = 0) ∧ Cur w' g B A c bs ∧ Out g (g + 1) w w'
set_option maxHeartbeats 2000000 in
theorem l01Below_any (n : Int) (g B : Nat) (A : Option Addr) (c : Nat) (bs : List Int) (w : World) (hb : Bytes bs) (hB : B ≤ g) (hc : Cur w g B A c bs) (hn : n ≤ 1000000000) :
    Calls Try.prog 35 #[.pointer (some ⟨g, 0, none⟩), .int .i64 n] w (BelowOut n g B A c bs w) := by
  by_cases h0 : n ≤ 0
  · go_enter Try.func35, Try.ntmps35
    go_wp2
    go_ret
    exact ⟨_, rfl, by omega, by omega, by omega, hc, Out.refl⟩
  · by_cases h1 : n ≤ 256
    · have hne : (n == 0) = false := by simp; omega
      go_enter Try.func35, Try.ntmps35
      go_wp2_with fail
      refine (l01Byte_any g B A c bs _ hb hB hc).mono ?_
      rintro e w1 ⟨x, rfl, hx0, hx1, hc1, ho1⟩
      go_wp2
      go_ret
      exact ⟨_, rfl, by first | exact Int.emod_nonneg _ (by omega) | exact Int.tmod_nonneg _ hx0, fun _ => by first | exact Int.emod_lt_of_pos _ (by omega) | exact Int.tmod_lt_of_pos _ (by omega), by omega, hc1, ho1⟩
    · have hne : (n == 0) = false := by simp; omega
      go_enter Try.func35, Try.ntmps35
      go_wp2_with fail
      refine (l01Byte_any g B A c bs _ hb hB hc).mono ?_
      rintro e w1 ⟨x1, rfl, hx0, hx1, hc1, ho1⟩
      go_wp2_with fail
      refine (l01Byte_any g B A c bs _ hb hB hc1).mono ?_
      rintro e w2 ⟨x2, rfl, hy0, hy1, hc2, ho2⟩
      go_wp2_with fail
      refine (l01Byte_any g B A c bs _ hb hB hc2).mono ?_
      rintro e w3 ⟨x3, rfl, hz0, hz1, hc3, ho3⟩
      go_wp2_with fail
      refine (l01Byte_any g B A c bs _ hb hB hc3).mono ?_
      rintro e w4 ⟨x4, rfl, hu0, hu1, hc4, ho4⟩
      go_wp2
      go_ret
      exact ⟨_, rfl, by first | exact Int.emod_nonneg _ (by omega) | exact Int.tmod_nonneg _ (by omega), fun _ => by first | exact Int.emod_lt_of_pos _ (by omega) | exact Int.tmod_lt_of_pos _ (by omega), by omega, hc4, ho1.trans (ho2.trans (ho3.trans ho4))⟩

def NewOut (B : Nat) (A : Option Addr) (c : Nat) (bs : List Int) (w : World) (e : Ending) (w' : World) : Prop :=
  ∃ g, e = .returned (.pointer (some ⟨g, 0, none⟩)) ∧ w.heap.size ≤ g ∧ g < w'.heap.size ∧ Cur w' g B A c bs ∧ Below w.heap.size w w'
set_option maxRecDepth 100000 in
set_option maxHeartbeats 2000000 in
theorem l01New_any (B : Nat) (A : Option Addr) (c : Nat) (bs : List Int) (w : World) (hb : Bytes bs) (hr : Rd w B A (bv bs)) :
    Calls Try.prog 34 #[.slice A bs.length c] w (NewOut B A c bs w) := by
  have hbl := hb.1
  go_enter Try.func34, Try.ntmps34
  go_wp2
  go_loop [3, 4] (fun h v => ∃ (k : Nat) (x : Int), k ≤ bs.length ∧ v = .int .i64 k ∧ h = .int .i64 x) (fun _ v => bs.length - (intOf v).toNat)
  case atStart => exact ⟨0, _, Nat.zero_le _, rfl, rfl⟩
  case round =>
    obtain ⟨k, x, hk, rfl, rfl⟩ := hrel
    by_cases hlt : k < bs.length
    · by_cases h4 : k < 4000
      · obtain ⟨b, off, rfl, hbB, hcell⟩ := hr.at_ (k := k) (v := .int .u8 bs[k]) (by simp [hlt])
        have hb2 := hb.2 bs[k] (List.getElem_mem hlt)
        obtain ⟨y, hy⟩ : ∃ y, y = bs[k] := ⟨_, rfl⟩
        rw [← hy] at hcell hb2
        clear hy
        go_wp2
        go_round
        case rel => exact ⟨k + 1, _, by omega, by go_num, rfl⟩
        case measure => simp [intOf]; omega
      · go_wp2
        go_ret
        exact ⟨_, rfl, Nat.le_refl _, by simp, ⟨0, _, Nat.zero_le _, Cl.new rfl rfl, Cl.new rfl rfl, Cl.new rfl rfl, hr.alloc _⟩, by (repeat' (first | (with_reducible exact Below.refl _ _) | (with_reducible refine bel_alloc ?_ ?_ _) | (with_reducible refine Below.setCell ?_ ?_ _) | (with_reducible refine below_drewN ?_ _) | (with_reducible refine Below.drew ?_) | (with_reducible exact Nat.le_refl _) | (with_reducible assumption) | omega | (simp only [World.size_alloc, World.size_setCell, World.size_drew]; omega) | (simp; omega) | (simp; done)))⟩
    · go_wp2
      go_ret
      exact ⟨_, rfl, Nat.le_refl _, by simp, ⟨0, _, Nat.zero_le _, Cl.new rfl rfl, Cl.new rfl rfl, Cl.new rfl rfl, hr.alloc _⟩, by (repeat' (first | (with_reducible exact Below.refl _ _) | (with_reducible refine bel_alloc ?_ ?_ _) | (with_reducible refine Below.setCell ?_ ?_ _) | (with_reducible refine below_drewN ?_ _) | (with_reducible refine Below.drew ?_) | (with_reducible exact Nat.le_refl _) | (with_reducible assumption) | omega | (simp only [World.size_alloc, World.size_setCell, World.size_drew]; omega) | (simp; omega) | (simp; done)))⟩
end Go.Proofs.Ytljholnnhogdkaa
