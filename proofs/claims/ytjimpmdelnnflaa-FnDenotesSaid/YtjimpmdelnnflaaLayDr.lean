/- A drawn span: l02Map, l09Span. -/
import Derived.Test.YtjimpmdelnnflaaSpanA
import Derived.Test.YtjimpmdelnnflaaDrawO
namespace Go.Proofs.Ytjimpmdelnnflaa
open Go.ChangeShapes Go.WideShapes Go.ChangeAt Go.RowKit
set_option linter.unusedVariables false
set_option linter.unusedSimpArgs false

theorem or_bd {b s : Int} {m : Nat} (hm : m ≤ 20) (hb : 0 ≤ b ∧ b < 2 ^ m) (hs : 0 ≤ s ∧ s < 2 ^ m) : 0 ≤ bits .or .i64 b s ∧ bits .or .i64 b s < 2 ^ m := by
  have h : bits .or .i64 b s = IntKind.i64.wrap ((BitVec.ofInt 64 b ||| BitVec.ofInt 64 s).toNat : Int) := rfl
  have h20 : (2 : Int) ^ m ≤ 2 ^ 20 := by
    have := Nat.pow_le_pow_right (show 0 < 2 by omega) hm
    exact_mod_cast this
  have e1 : (BitVec.ofInt 64 b).toNat = b.toNat := by rw [BitVec.toNat_ofInt]; omega
  have e2 : (BitVec.ofInt 64 s).toNat = s.toNat := by rw [BitVec.toNat_ofInt]; omega
  have hn : b.toNat < 2 ^ m := by have := hb.2; have : ((b.toNat : Nat) : Int) < ((2 ^ m : Nat) : Int) := by push_cast; omega
                                  exact_mod_cast this
  have hn2 : s.toNat < 2 ^ m := by have := hs.2; have : ((s.toNat : Nat) : Int) < ((2 ^ m : Nat) : Int) := by push_cast; omega
                                   exact_mod_cast this
  have ho := Nat.or_lt_two_pow hn hn2
  rw [h, BitVec.toNat_or, e1, e2, IntKind.wrap_i64]
  have ho2 : ((b.toNat ||| s.toNat : Nat) : Int) < 2 ^ m := by exact_mod_cast ho
  have ho3 : (0 : Int) ≤ ((b.toNat ||| s.toNat : Nat) : Int) := Int.natCast_nonneg _
  generalize ((b.toNat ||| s.toNat : Nat) : Int) = v at *
  generalize (2 : Int) ^ m = M at *
  omega
def MapOut (n : Nat) (g B : Nat) (A : Option Addr) (c : Nat) (bs : List Int) (w : World) (e : Ending) (w' : World) : Prop :=
  ∃ b : Int, e = .returned (.int .i64 b) ∧ 0 ≤ b ∧ b < 2 ^ n ∧ Cur w' g B A c bs ∧ Out g (g + 1) w w'
theorem pow_mono {i n : Nat} (h : i ≤ n) : (2 : Int) ^ i ≤ 2 ^ n := by
  have := Nat.pow_le_pow_right (show 0 < 2 by omega) h
  exact_mod_cast this
theorem pow_pos' (i : Nat) : (1 : Int) ≤ 2 ^ i := by
  have := Nat.one_le_two_pow (n := i)
  exact_mod_cast this
theorem pow_lt {i : Nat} : (2 : Int) ^ i < 2 ^ (i + 1) := by
  have := pow_pos' i
  rw [Int.pow_succ]
  omega
set_option maxHeartbeats 4000000 in
theorem l02Map_any (n : Nat) (g B : Nat) (A : Option Addr) (c : Nat) (bs : List Int) (w : World) (hb : Bytes bs) (hB : B ≤ g) (hc : Cur w g B A c bs) (hn : n ≤ 16) :
    Calls Try.prog 81 #[.pointer (some ⟨g, 0, none⟩), .int .i64 n] w (MapOut n g B A c bs w) := by
  have HP0 := Lib.hid (pow_pos' 0)
  go_enter Try.func81, Try.ntmps81
  go_wp2_with fail
  refine (l01Below_any 4 g B A c bs _ hb hB hc (by omega)).mono ?_
  rintro e w1 ⟨x, rfl, hx0, hx1, -, hc1, ho1⟩
  have hx1 := hx1 (by omega)
  go_wp2
  go_loopw [5, 7] (fun u v wr => ∃ (k : Nat) (b : Int), k ≤ n ∧ v = .int .i64 k ∧ u = .int .i64 b ∧ 0 ≤ b ∧ b < 2 ^ k ∧ Cur wr g B A c bs ∧ Out g (g + 1) w wr) (fun _ v _ => n - (intOf v).toNat)
  case atStart => exact ⟨0, 0, Nat.zero_le _, rfl, rfl, by omega, by decide, hc1, ho1⟩
  case round =>
    obtain ⟨k, b, hk, rfl, rfl, hb0, hb1, hcr, hor⟩ := hrel
    have HB1 := Lib.hid hb1
    clear hb1 hc1 ho1 hc
    by_cases hlt : k < n
    · go_wp2_with fail
      refine (l01Once_any _ g B A c bs _ hb hB hcr (by omega)).mono ?_
      rintro e w2 ⟨once, rfl, hc2, ho2⟩
      have hor2 := hor.trans ho2
      clear hcr ho2 hor
      cases once with
      | false =>
        go_wp2
        go_roundw
        case rel => exact ⟨k + 1, b, by omega, by go_num, rfl, hb0, Int.lt_trans HB1.out pow_lt, hc2, hor2⟩
        case measure => simp [intOf]; omega
      | true =>
        go_wp2
        go_roundw
        case rel =>
          have h16 : (2 : Int) ^ k ≤ 2 ^ 16 := pow_mono (by omega)
          have e16 : (2 : Int) ^ 16 = 65536 := by decide
          rw [e16] at h16
          have hp := pow_pos' k
          have hl := pow_lt (i := k)
          have hor3 := or_bd (m := k + 1) (by omega) (b := b) (s := 2 ^ k) ⟨hb0, Int.lt_trans HB1.out pow_lt⟩ ⟨by omega, hl⟩
          refine ⟨k + 1, _, by omega, by go_num, rfl, ?_, ?_, hc2, hor2⟩
          · rw [IntWalk.wrap64_in _ (by omega)]; exact hor3.1
          · rw [IntWalk.wrap64_in _ (by omega)]; exact hor3.2
        case measure => simp [intOf]; omega
    · obtain rfl : k = n := by omega
      go_wp2
      go_ret
      exact ⟨b, rfl, hb0, HB1.out, hcr, hor⟩
def SpanOut (g B : Nat) (A : Option Addr) (c : Nat) (bs : List Int) (w : World) (e : Ending) (w' : World) : Prop :=
  ∃ (p k b : Int), e = .returned (.agg #[.int .i64 p, .int .i64 k, .int .i64 b]) ∧ (0 ≤ p ∧ p < 8) ∧ bmOk k b = true ∧ Cur w' g B A c bs ∧ Out g (g + 1) w w'
theorem bm_of {k b : Int} (hk : 0 ≤ k ∧ k < 4) (hb : 0 ≤ b) (hb2 : b < 2 ^ (sl k).toNat) : bmOk k b = true := by
  simp only [bmOk, Bool.and_eq_true]
  refine ⟨btw_t (by omega) (by omega), btw_t hb ?_⟩
  have e16 : (2 : Int) ^ 16 = 65536 := by decide
  have e8 : (2 : Int) ^ 8 = 256 := by decide
  have e4 : (2 : Int) ^ 4 = 16 := by decide
  have e2 : (2 : Int) ^ 2 = 4 := by decide
  rcases (by omega : k = 0 ∨ k = 1 ∨ k = 2 ∨ k = 3) with rfl | rfl | rfl | rfl
  · have : sl 0 = 16 := rfl
    rw [this] at hb2
    have : mxb 0 = 65535 := rfl
    simp at hb2
    omega
  · have : sl 1 = 8 := rfl
    rw [this] at hb2
    have : mxb 1 = 255 := rfl
    simp at hb2
    omega
  · have : sl 2 = 4 := rfl
    rw [this] at hb2
    have : mxb 2 = 15 := rfl
    simp at hb2
    omega
  · have : sl 3 = 2 := rfl
    rw [this] at hb2
    have : mxb 3 = 3 := rfl
    simp at hb2
    omega
theorem sl_bd {k : Int} (hk : 0 ≤ k ∧ k < 4) : 2 ≤ sl k ∧ sl k ≤ 16 := by
  rcases (by omega : k = 0 ∨ k = 1 ∨ k = 2 ∨ k = 3) with rfl | rfl | rfl | rfl <;> decide
set_option maxHeartbeats 4000000 in
theorem l09Span_any (g B : Nat) (A : Option Addr) (c : Nat) (bs : List Int) (w : World) (hb : Bytes bs) (hB : B ≤ g) (hc : Cur w g B A c bs) :
    Calls Try.prog 62 #[.pointer (some ⟨g, 0, none⟩)] w (SpanOut g B A c bs w) := by
  have hgl := hc.lt
  go_enter Try.func62, Try.ntmps62
  go_wp2_with fail
  refine (l01Below_any 8 g B A c bs _ hb hB (hc.alloc _) (by omega)).mono ?_
  rintro e w1 ⟨p, rfl, hp0, hp1, -, hc1, ho1⟩
  have hp1 := hp1 (by omega)
  have r0 : Cl w1 ⟨w.heap.size, 0, none⟩ (.int .i64 0) := Cl.outS (Cl.new rfl rfl) ho1.setOf (by simp <;> omega)
  have r1 : Cl w1 ⟨w.heap.size, 1, none⟩ (.int .i64 0) := Cl.outS (Cl.new rfl rfl) ho1.setOf (by simp <;> omega)
  have r2 : Cl w1 ⟨w.heap.size, 2, none⟩ (.int .i64 0) := Cl.outS (Cl.new rfl rfl) ho1.setOf (by simp <;> omega)
  have hor1 : Out g (g + 1) w w1 := (Out.refl.alloc _).trans ho1
  have hz1 := ho1.size
  simp only [World.size_alloc] at hz1
  clear hc ho1
  go_wp2_with fail
  refine (l01Below_any 4 g B A c bs _ hb hB hc1 (by omega)).mono ?_
  rintro e w2 ⟨k, rfl, hk0, hk1, -, hc2, ho2⟩
  have hk1 := hk1 (by omega)
  replace r0 := r0.outS ho2.setOf (by simp <;> omega)
  replace r1 := r1.outS ho2.setOf (by simp <;> omega)
  replace r2 := r2.outS ho2.setOf (by simp <;> omega)
  have hor2 := hor1.trans ho2
  have hz2 := ho2.size
  have hslb := sl_bd ⟨hk0, hk1⟩
  obtain ⟨n, hn⟩ : ∃ n : Nat, sl k = (n : Int) := ⟨(sl k).toNat, by omega⟩
  have HC4 := Lib.hid (show n = 2 ∨ n = 4 ∨ n = 8 ∨ n = 16 by
    have e0 : sl 0 = 16 := rfl
    have e1 : sl 1 = 8 := rfl
    have e2 : sl 2 = 4 := rfl
    have e3 : sl 3 = 2 := rfl
    rcases (by omega : k = 0 ∨ k = 1 ∨ k = 2 ∨ k = 3) with rfl | rfl | rfl | rfl <;> omega)
  have HSL := Lib.hid (fun W => slotsOf_s k W)
  rw [hn] at HSL
  have HBM := Lib.hid (fun (b : Int) (h : 0 ≤ b) (h2 : b < 2 ^ n) => bm_of (k := k) ⟨hk0, hk1⟩ h (by rw [hn]; exact h2))
  have hn16 : n ≤ 16 := by omega
  have hn2 : 2 ≤ n := by omega
  clear hc1 ho2 hor1 hn hslb
  go_wp2_with fail
  refine (HSL.out _).mono ?_
  rintro e w2' ⟨rfl, rfl⟩
  have s0 : Cl (w2.alloc (.cells #[.int .i64 p, .int .i64 k, .int .i64 0] 50)) ⟨w2.heap.size, 0, none⟩ (.int .i64 p) := Cl.new rfl rfl
  have s1 : Cl (w2.alloc (.cells #[.int .i64 p, .int .i64 k, .int .i64 0] 50)) ⟨w2.heap.size, 1, none⟩ (.int .i64 k) := Cl.new rfl rfl
  have s2 : Cl (w2.alloc (.cells #[.int .i64 p, .int .i64 k, .int .i64 0] 50)) ⟨w2.heap.size, 2, none⟩ (.int .i64 0) := Cl.new rfl rfl
  go_wp2_with fail
  refine (l02Map_any n g B A c bs _ hb hB (hc2.alloc _) hn16).mono ?_
  rintro e w3 ⟨b, rfl, hb0, hb1, hc3, ho3⟩
  have HB1 := Lib.hid hb1
  replace s0 := s0.outS ho3.setOf (by simp <;> omega)
  replace s1 := s1.outS ho3.setOf (by simp <;> omega)
  replace s2 := s2.outS ho3.setOf (by simp <;> omega)
  replace r0 := (r0.alloc (.cells #[.int .i64 p, .int .i64 k, .int .i64 0] 50)).outS ho3.setOf (by simp <;> omega)
  replace r1 := (r1.alloc (.cells #[.int .i64 p, .int .i64 k, .int .i64 0] 50)).outS ho3.setOf (by simp <;> omega)
  replace r2 := (r2.alloc (.cells #[.int .i64 p, .int .i64 k, .int .i64 0] 50)).outS ho3.setOf (by simp <;> omega)
  have hor3 := (hor2.alloc (.cells #[.int .i64 p, .int .i64 k, .int .i64 0] 50)).trans ho3
  have hz3 := ho3.size
  simp only [World.size_alloc] at hz3
  clear hc2 ho3 hor2 hb1
  have s2c := s2.1
  have s2f := s2.2
  go_wp2_with fail
  have t0 := s0.other (q := ⟨w2.heap.size, 2, none⟩) (.int .i64 b) (by simp)
  have t1 := s1.other (q := ⟨w2.heap.size, 2, none⟩) (.int .i64 b) (by simp)
  have t2 := s2.same (.int .i64 b)
  have u0 := r0.other (q := ⟨w2.heap.size, 2, none⟩) (.int .i64 b) (by simp)
  have u1 := r1.other (q := ⟨w2.heap.size, 2, none⟩) (.int .i64 b) (by simp)
  have u2 := r2.other (q := ⟨w2.heap.size, 2, none⟩) (.int .i64 b) (by simp <;> omega)
  refine (l01Once_any 8 g B A c bs _ hb hB (hc3.out (Out.set _ w2.heap.size 2 _) (by omega) (by omega)) (by omega)).mono ?_
  rintro e w4 ⟨once, rfl, hc4, ho4⟩
  replace t0 := t0.outS ho4.setOf (by simp <;> omega)
  replace t1 := t1.outS ho4.setOf (by simp <;> omega)
  replace t2 := t2.outS ho4.setOf (by simp <;> omega)
  replace u0 := u0.outS ho4.setOf (by simp <;> omega)
  replace u1 := u1.outS ho4.setOf (by simp <;> omega)
  replace u2 := u2.outS ho4.setOf (by simp <;> omega)
  have hor4 : Out g (g + 1) w w4 := (out_new hor3 (OutS.set (S := fun b => b = w2.heap.size) _ _ rfl) (fun b h => by omega)).trans ho4
  obtain ⟨t0c, t0f⟩ := t0
  obtain ⟨t1c, t1f⟩ := t1
  obtain ⟨t2c, t2f⟩ := t2
  obtain ⟨u0c, u0f⟩ := u0
  obtain ⟨u1c, u1f⟩ := u1
  obtain ⟨u2c, u2f⟩ := u2
  have hne : w2.heap.size ≠ w.heap.size := by omega
  have lt2 := lt_of_cell' t0c
  clear s0 s1 s2 r0 r1 r2 s2c s2f hc3 ho4 hor3
  cases once with
  | false =>
    go_wp2
    refine bodyPost_ret (v := .agg #[.int .i64 p, .int .i64 k, .int .i64 b]) (by simp [results, Try.results62, go_sem, u0c, u1c, u2c, hne]) rfl ⟨p, k, b, rfl, ⟨hp0, hp1⟩, HBM.out b hb0 HB1.out, ?_, ?_⟩
    · exact ((hc4.out (Out.set _ w.heap.size 0 _) (by omega) (by omega)).out (Out.set _ w.heap.size 1 _) (by omega) (by omega)).out (Out.set _ w.heap.size 2 _) (by omega) (by omega)
    · exact out_new (out_new (out_new hor4 (OutS.set (S := fun b => b = w.heap.size) _ _ rfl) (fun b h => by omega)) (OutS.set (S := fun b => b = w.heap.size) _ _ rfl) (fun b h => by omega)) (OutS.set (S := fun b => b = w.heap.size) _ _ rfl) (fun b h => by omega)
  | true =>
    rcases HC4.out with rfl | rfl | rfl | rfl
    all_goals
      go_wp2_with fail
      refine (HSL.out _).mono ?_
      rintro e w4' ⟨rfl, rfl⟩
      go_wp2
    · refine bodyPost_ret (v := .agg #[.int .i64 p, .int .i64 k, .int .i64 3]) (by simp [results, Try.results62, go_sem, u0c, u1c, u2c, t2c, hne]) rfl ⟨p, k, 3, rfl, ⟨hp0, hp1⟩, HBM.out 3 (by omega) (by decide), ?_, ?_⟩
      · exact (((hc4.out (Out.set _ w2.heap.size 2 _) (by omega) (by omega)).out (Out.set _ w.heap.size 0 _) (by omega) (by omega)).out (Out.set _ w.heap.size 1 _) (by omega) (by omega)).out (Out.set _ w.heap.size 2 _) (by omega) (by omega)
      · exact out_new (out_new (out_new (out_new hor4 (OutS.set (S := fun b => b = w2.heap.size) _ _ rfl) (fun b h => by omega)) (OutS.set (S := fun b => b = w.heap.size) _ _ rfl) (fun b h => by omega)) (OutS.set (S := fun b => b = w.heap.size) _ _ rfl) (fun b h => by omega)) (OutS.set (S := fun b => b = w.heap.size) _ _ rfl) (fun b h => by omega)
    · refine bodyPost_ret (v := .agg #[.int .i64 p, .int .i64 k, .int .i64 15]) (by simp [results, Try.results62, go_sem, u0c, u1c, u2c, t2c, hne]) rfl ⟨p, k, 15, rfl, ⟨hp0, hp1⟩, HBM.out 15 (by omega) (by decide), ?_, ?_⟩
      · exact (((hc4.out (Out.set _ w2.heap.size 2 _) (by omega) (by omega)).out (Out.set _ w.heap.size 0 _) (by omega) (by omega)).out (Out.set _ w.heap.size 1 _) (by omega) (by omega)).out (Out.set _ w.heap.size 2 _) (by omega) (by omega)
      · exact out_new (out_new (out_new (out_new hor4 (OutS.set (S := fun b => b = w2.heap.size) _ _ rfl) (fun b h => by omega)) (OutS.set (S := fun b => b = w.heap.size) _ _ rfl) (fun b h => by omega)) (OutS.set (S := fun b => b = w.heap.size) _ _ rfl) (fun b h => by omega)) (OutS.set (S := fun b => b = w.heap.size) _ _ rfl) (fun b h => by omega)
    · refine bodyPost_ret (v := .agg #[.int .i64 p, .int .i64 k, .int .i64 255]) (by simp [results, Try.results62, go_sem, u0c, u1c, u2c, t2c, hne]) rfl ⟨p, k, 255, rfl, ⟨hp0, hp1⟩, HBM.out 255 (by omega) (by decide), ?_, ?_⟩
      · exact (((hc4.out (Out.set _ w2.heap.size 2 _) (by omega) (by omega)).out (Out.set _ w.heap.size 0 _) (by omega) (by omega)).out (Out.set _ w.heap.size 1 _) (by omega) (by omega)).out (Out.set _ w.heap.size 2 _) (by omega) (by omega)
      · exact out_new (out_new (out_new (out_new hor4 (OutS.set (S := fun b => b = w2.heap.size) _ _ rfl) (fun b h => by omega)) (OutS.set (S := fun b => b = w.heap.size) _ _ rfl) (fun b h => by omega)) (OutS.set (S := fun b => b = w.heap.size) _ _ rfl) (fun b h => by omega)) (OutS.set (S := fun b => b = w.heap.size) _ _ rfl) (fun b h => by omega)
    · refine bodyPost_ret (v := .agg #[.int .i64 p, .int .i64 k, .int .i64 65535]) (by simp [results, Try.results62, go_sem, u0c, u1c, u2c, t2c, hne]) rfl ⟨p, k, 65535, rfl, ⟨hp0, hp1⟩, HBM.out 65535 (by omega) (by decide), ?_, ?_⟩
      · exact (((hc4.out (Out.set _ w2.heap.size 2 _) (by omega) (by omega)).out (Out.set _ w.heap.size 0 _) (by omega) (by omega)).out (Out.set _ w.heap.size 1 _) (by omega) (by omega)).out (Out.set _ w.heap.size 2 _) (by omega) (by omega)
      · exact out_new (out_new (out_new (out_new hor4 (OutS.set (S := fun b => b = w2.heap.size) _ _ rfl) (fun b h => by omega)) (OutS.set (S := fun b => b = w.heap.size) _ _ rfl) (fun b h => by omega)) (OutS.set (S := fun b => b = w.heap.size) _ _ rfl) (fun b h => by omega)) (OutS.set (S := fun b => b = w.heap.size) _ _ rfl) (fun b h => by omega)
end Go.Proofs.Ytjimpmdelnnflaa
