/- Shuffled of the reference: the numbers below n, in some order. -/
import Derived.Test.YtfdpplamebmdhaaIntN
import Derived.Test.YtfdpplamebmdhaaNum
import Derived.Test.YtfdpplamebmdhaaInfo
namespace Go.Proofs.Ytfdpplamebmdhaa
open Go.ChangeShapes Go.WideShapes Go.ChangeAt Go.RowKit
set_option linter.unusedVariables false
set_option linter.unusedSimpArgs false

def SeedRes (w : World) (e : Ending) (w' : World) : Prop := ∃ s : Int, e = .returned (.int .i64 s) ∧ (0 ≤ s ∧ s ≤ 1073741823) ∧ w' = w
theorem nextSeed_s (s : Int) (w : World) (h : 0 ≤ s ∧ s ≤ 1073741823) : Calls Try.prog 51 #[.int .i64 s] w (SeedRes w) := by
  have hb := btw_t h.1 h.2
  go_enter Try.func51, Try.ntmps51
  go_wp2_with (go_at_call 39; refine (l01In_q _ _ _ _).mono ?_; rintro e w2 ⟨rfl, rfl⟩)
  go_ret
  exact ⟨_, rfl, by omega, rfl⟩
def ChooseRes (n : Int) (w : World) (e : Ending) (w' : World) : Prop := ∃ k s : Int, e = .returned (.tuple #[.int .i64 k, .int .i64 s]) ∧ (0 ≤ k ∧ k < n) ∧ (0 ≤ s ∧ s ≤ 1073741823) ∧ w' = w
theorem choose_s (s n : Int) (w : World) (h : 0 ≤ s ∧ s ≤ 1073741823) (hn : 1 ≤ n ∧ n ≤ 1000) : Calls Try.prog 44 #[.int .i64 s, .int .i64 n] w (ChooseRes n w) := by
  have hb := btw_t h.1 h.2
  have hb2 := btw_t hn.1 hn.2
  have hne : (n == 0) = false := by simp; omega
  go_enter Try.func44, Try.ntmps44
  go_wp2_with (first | (go_at_call 39; refine (l01In_q _ _ _ _).mono ?_; rintro e w2 ⟨rfl, rfl⟩) | (go_at_call 51; refine (nextSeed_s _ _ h).mono ?_; rintro e w2 ⟨s2, rfl, hs2, rfl⟩))
  go_ret2
  exact ⟨_, _, rfl, ⟨by first | exact Int.emod_nonneg _ (by omega) | exact Int.tmod_nonneg _ (by omega), by first | exact Int.emod_lt_of_pos _ (by omega) | exact Int.tmod_lt_of_pos _ (by omega)⟩, hs2, rfl⟩
def upTo (k : Nat) : List Int := (List.range k).map (fun i : Nat => (i : Int))
theorem upTo_succ (k : Nat) : upTo (k + 1) = upTo k ++ [(k : Int)] := by simp [upTo, List.range_succ]
theorem upTo_len (k : Nat) : (upTo k).length = k := by simp [upTo]
/-- The numbers below n, each once. -/
structure Ord (n : Nat) (xs : List Int) : Prop where
  len : xs.length = n
  bd : ∀ x ∈ xs, 0 ≤ x ∧ x < n
  inj : ∀ a b (ha : a < xs.length) (hb : b < xs.length), xs[a] = xs[b] → a = b
theorem ord_upTo (n : Nat) : Ord n (upTo n) := by
  refine ⟨upTo_len n, fun x hx => ?_, fun a b ha hb h => ?_⟩
  · simp only [upTo, List.mem_map, List.mem_range] at hx
    obtain ⟨i, hi, rfl⟩ := hx
    omega
  · simp only [upTo, List.getElem_map, List.getElem_range] at h
    omega
theorem Ord.swap {n : Nat} {xs : List Int} (h : Ord n xs) {i k : Nat} (hi : i < xs.length) (hk : k < xs.length) : Ord n ((xs.set i xs[k]).set k xs[i]) := by
  have key : ∀ a (ha : a < ((xs.set i xs[k]).set k xs[i]).length), ∃ s, ∃ hs : s < xs.length, ((xs.set i xs[k]).set k xs[i])[a] = xs[s] ∧ (s = if a = k then i else if a = i then k else a) := by
    intro a ha
    have ha' : a < xs.length := by simpa using ha
    by_cases h1 : a = k
    · subst h1
      exact ⟨i, hi, by simp, by simp⟩
    · by_cases h2 : a = i
      · subst h2
        refine ⟨k, hk, ?_, by simp [h1]⟩
        rw [List.getElem_set_ne (by omega)]
        simp
      · refine ⟨a, ha', ?_, by simp [h1, h2]⟩
        rw [List.getElem_set_ne (by omega), List.getElem_set_ne (by omega)]
  refine ⟨by simpa using h.len, fun x hx => ?_, fun a b ha hb e => ?_⟩
  · obtain ⟨a, ha, rfl⟩ := List.getElem_of_mem hx
    obtain ⟨s, hs, e, -⟩ := key a ha
    rw [e]
    exact h.bd _ (List.getElem_mem hs)
  · obtain ⟨s, hs, e1, h1⟩ := key a ha
    obtain ⟨t, ht, e2, h2⟩ := key b hb
    have h3 := h.inj s t hs ht (by rw [← e1, ← e2, e])
    subst h3
    rw [h1] at h2
    split at h2 <;> split at h2 <;> (try split at h2) <;> (try split at h2) <;> omega
theorem nodup_le : ∀ {xs ys : List Int}, xs.Nodup → (∀ x ∈ xs, x ∈ ys) → xs.length ≤ ys.length
  | [], _, _, _ => Nat.zero_le _
  | a :: l, ys, hn, h => by
    have ha := h a (by simp)
    have hn2 := List.nodup_cons.1 hn
    have ih := nodup_le (xs := l) (ys := ys.erase a) hn2.2 (fun x hx => (List.mem_erase_of_ne (fun e => hn2.1 (by rw [← e]; exact hx))).2 (h x (by simp [hx])))
    rw [List.length_erase_of_mem ha] at ih
    have := List.length_pos_of_mem ha
    simp only [List.length_cons]
    omega
/-- Each number below n is there. -/
theorem ord_full {n : Nat} {xs : List Int} (h : Ord n xs) (q : Int) (hq : 0 ≤ q ∧ q < n) : q ∈ xs := by
  have hnd : xs.Nodup := by
    rw [List.nodup_iff_pairwise_ne, List.pairwise_iff_getElem]
    intro a b ha hb hab e
    have := h.inj a b ha hb e
    omega
  refine Classical.byContradiction fun hc => ?_
  have hl := nodup_le (xs := q :: xs) (ys := upTo n) (List.nodup_cons.2 ⟨hc, hnd⟩) (fun x hx => by
    have hb : 0 ≤ x ∧ x < n := by
      rcases List.mem_cons.1 hx with rfl | hx
      · exact hq
      · exact h.bd x hx
    simp only [upTo, List.mem_map, List.mem_range]
    exact ⟨x.toNat, by omega, by omega⟩)
  rw [List.length_cons, h.len, upTo_len] at hl
  omega
def ShufRes (n : Nat) (w : World) (e : Ending) (w' : World) : Prop :=
  ∃ (A : Option Addr) (c : Nat) (xs : List Int) (s : Int), e = .returned (.tuple #[.slice A n c, .int .i64 s]) ∧ Ord n xs ∧ Rd w' w'.heap.size A (iv xs) ∧ Below w.heap.size w w'
set_option maxRecDepth 100000 in
set_option maxHeartbeats 4000000 in
theorem shuffled_s (s : Int) (n : Nat) (w : World) (h : 0 ≤ s ∧ s ≤ 1073741823) (hn : 2 ≤ n ∧ n ≤ 64) :
    Calls Try.prog 25 #[.int .i64 s, .int .i64 n] w (ShufRes n w) := by
  have hb := btw_t h.1 h.2
  have hb2 : btw (n : Int) 0 64 = true := btw_t (by omega) (by omega)
  obtain ⟨it, hit, iz0, iz1, iz2⟩ := info_parts infoInt
  have hO0 := own_lit (w := w) (g := w.heap.size) (e := 3) (size := 1) rfl
  go_enter Try.func25, Try.ntmps25
  go_wp2_with (go_at_call 39; refine (l01In_q _ _ _ _).mono ?_; rintro e w2 ⟨rfl, rfl⟩)
  go_loopw [6, 7] (fun u v wr => ∃ (k : Nat) (A2 : Option Addr) (c2 : Nat), k ≤ n ∧ v = .int .i64 k ∧ u = .slice A2 k c2 ∧ wr.ownsRow w.heap.size 3 1 (.slice A2 k c2) k (iv (upTo k)) ∧ Below w.heap.size w wr) (fun _ v _ => n - (intOf v).toNat)
  case atStart => exact ⟨0, some ⟨w.heap.size, 0, none⟩, 0, Nat.zero_le _, rfl, rfl, hO0, by (repeat' (first | (with_reducible exact Below.refl _ _) | (with_reducible refine bel_alloc ?_ ?_ _) | (with_reducible refine Below.setCell ?_ ?_ _) | (with_reducible refine below_drewN ?_ _) | (with_reducible refine Below.drew ?_) | (with_reducible exact Nat.le_refl _) | (with_reducible assumption) | omega | (simp only [World.size_alloc, World.size_setCell, World.size_drew]; omega) | (simp; omega) | (simp; done)))⟩
  case round =>
    obtain ⟨k, A2, c2, hk, rfl, rfl, hown, hbr⟩ := hrel
    clear hO0
    have hzr := hbr.size
    by_cases hlt : k < n
    · have hapt := own_lo hown
      go_wp2_with (at_builtin; refine wpList_append_ow rfl (.tmp 28) (.tmp 30) _ rfl 3 it (.int .i64 0) 1 8 Try.underlying35 hit iz0 iz1 iz2 rfl (by omega) w.heap.size A2 k c2 (iv (upTo k)) rfl (own_below' hown ((Below.refl _ _).alloc (Nat.le_refl _) _)) (some ⟨wr.heap.size, 0, none⟩) 1 1 (iv [(k : Int)]) rfl rfl (Rd.lit (by simp)) (iv_one _) (by unfold maxLen; omega) (by omega) (by simp; omega) ?_; intro A4 c4 w4 hO4 hS4 hA4)
      go_roundw
      case rel =>
        refine ⟨k + 1, A4, c4, by omega, by go_num, rfl, by rw [upTo_succ, iv_app]; exact hO4, ?_⟩
        exact bel_outS hS4 (fun y hy => hapt y hy) (by (repeat' (first | (with_reducible exact Below.refl _ _) | (with_reducible refine bel_alloc ?_ ?_ _) | (with_reducible refine Below.setCell ?_ ?_ _) | (with_reducible refine below_drewN ?_ _) | (with_reducible refine Below.drew ?_) | (with_reducible refine bel_step hbr ?_ ?_) | (with_reducible exact Nat.le_refl _) | (with_reducible assumption) | omega | (simp only [World.size_alloc, World.size_setCell, World.size_drew]; omega) | (simp; omega) | (simp; done)))) (Nat.le_refl _)
      case measure => simp [intOf]; omega
    · obtain rfl : k = n := by omega
      have hOW := Ow.mk' hown
      obtain ⟨gb, hgb, hg1, hg2⟩ := hOW.some_ (by omega)
      subst hgb
      have hW : Wr wr (fun b => b = gb) (some ⟨gb, 0, none⟩) (iv (upTo k)) := hOW.wr1.mono (fun b h => by obtain ⟨o, ho⟩ := h; injection ho with ho; injection ho with ho; exact ho.symm)
      have HOR := Lib.hid (ord_upTo k)
      clear hOW hown
      go_wp2
      go_loopw [0, 8] (fun u v wx => ∃ (i : Nat) (sd : Int) (xs : List Int), i < k ∧ v = .int .i64 i ∧ u = .int .i64 sd ∧ (0 ≤ sd ∧ sd ≤ 1073741823) ∧ Ord k xs ∧ Wr wx (fun b => b = gb) (some ⟨gb, 0, none⟩) (iv xs) ∧ Below w.heap.size w wx) (fun _ v _ => (intOf v).toNat)
      case atStart => exact ⟨k - 1, s, upTo k, by omega, by go_num, rfl, h, HOR.out, hW, hbr⟩
      case round =>
        obtain ⟨wx, hwx⟩ : ∃ wx : World, wx = wr := ⟨_, rfl⟩
        subst hwx
        obtain ⟨i, sd, xs, hi, rfl, rfl, hsd, hord, hWx, hbx⟩ := hrel
        have hxl := hord.len
        have HORD := Lib.hid hord
        have HXL := Lib.hid hxl
        by_cases h1 : 1 ≤ i
        · have hix : i < xs.length := by omega
          clear hord hxl hW hbr
          go_wp2_with fail
          refine (choose_s sd ((i : Int) + 1) _ hsd (by omega)).mono ?_
          rintro e wx ⟨kk, s2, rfl, hkk, hs2, rfl⟩
          obtain ⟨j, rfl⟩ : ∃ j : Nat, kk = (j : Int) := ⟨kk.toNat, by omega⟩
          have hjx : j < xs.length := by omega
          have i0 : (0 : Int) ≤ (j : Int) := by omega
          have i1 : (j : Int) < (k : Int) := by omega
          have i2 : (0 : Int) ≤ (i : Int) := by omega
          have i3 : (i : Int) < (k : Int) := by omega
          obtain ⟨b', off', hA', -, e0⟩ := hWx.at_ (k := i) (iv_at hix)
          obtain ⟨rfl, rfl⟩ : gb = b' ∧ 0 = off' := by injection hA' with e; injection e with e1 e2; exact ⟨e1, e2⟩
          clear hA'
          obtain ⟨b', off', hA', -, e1⟩ := hWx.at_ (k := j) (iv_at hjx)
          obtain ⟨rfl, rfl⟩ : gb = b' ∧ 0 = off' := by injection hA' with e; injection e with e1 e2; exact ⟨e1, e2⟩
          clear hA'
          rw [Nat.zero_add] at e0 e1
          have HSW := Lib.hid (HORD.out.swap hix hjx)
          have hSA := Wr.set (k := i) hWx rfl (.int .i64 xs[j])
          have hSB := Wr.set (k := j) hSA rfl (.int .i64 xs[i])
          rw [Nat.zero_add, Nat.zero_add] at hSB
          have HSB := Lib.hid hSB
          have HIV := Lib.hid (show ((iv xs).set i (.int .i64 xs[j])).set j (.int .i64 xs[i]) = iv ((xs.set i xs[j]).set j xs[i]) by simp [iv, List.map_set])
          obtain ⟨xi, hxi⟩ : ∃ x, x = xs[i] := ⟨_, rfl⟩
          obtain ⟨xj, hxj⟩ : ∃ x, x = xs[j] := ⟨_, rfl⟩
          rw [← hxi] at e0 HSB HSW HIV
          rw [← hxj] at e1 HSB HSW HIV
          have e2 : Cl (wx.setCell ⟨gb, i, none⟩ (.int .i64 xj)) ⟨gb, j, none⟩ (.int .i64 (if i = j then xj else xj)) := by
            by_cases e : i = j
            · subst e; simpa using e0.same _
            · rw [if_neg e]; exact e1.other _ (by simp; first | done | omega)
          simp only [ite_self] at e2
          clear hSA hSB hxi hxj hWx HOR
          obtain ⟨e0c, e0f⟩ := e0
          obtain ⟨e1c, e1f⟩ := e1
          obtain ⟨e2c, e2f⟩ := e2
          go_wp2
          go_roundw
          case rel => exact ⟨i - 1, s2, _, by omega, by go_num, rfl, hs2, HSW.out, by rw [← HIV.out]; exact HSB.out, ((hbx.setCell (by omega) _).setCell (by omega) _)⟩
          case measure => simp [intOf]; omega
        · obtain rfl : i = 0 := by omega
          go_wp2
          go_ret2
          exact ⟨_, c2, xs, sd, rfl, HORD.out, hWx.rd, hbx⟩
end Go.Proofs.Ytfdpplamebmdhaa
