/- LiveCells, of the program and of the reference. -/
import Derived.Test.YtjimpmdelnnflaaLayC
import Derived.Test.YtjimpmdelnnflaaSpanE
namespace Go.Proofs.Ytjimpmdelnnflaa
open Go.ChangeShapes Go.WideShapes Go.ChangeAt Go.RowKit Go.Maps
set_option linter.unusedVariables false
set_option linter.unusedSimpArgs false

def spN (x : T3) : Int := ((sCells x.1 x.2.1 x.2.2).length : Int)
def lvA (xs : List T3) (k : Nat) : Int := ((xs.take k).map spN).sum
def lvB (ys : List T3) (k : Nat) : Int := ((ys.take k).map (fun y => y.2.2)).sum
def liveN (xs ys : List T3) : Int := if layOk xs ys then lvA xs xs.length + lvB ys ys.length else 0
theorem sum_snoc (l : List Int) (a : Int) : (l ++ [a]).sum = l.sum + a := by simp
theorem lvA_succ {xs : List T3} {k : Nat} (h : k < xs.length) : lvA xs (k + 1) = lvA xs k + spN xs[k] := by
  rw [lvA, List.take_succ_eq_append_getElem h, List.map_append]
  exact sum_snoc _ _
theorem lvB_succ {ys : List T3} {k : Nat} (h : k < ys.length) : lvB ys (k + 1) = lvB ys k + ys[k].2.2 := by
  rw [lvB, List.take_succ_eq_append_getElem h, List.map_append]
  exact sum_snoc _ _
theorem spN_bd (x : T3) : 0 ≤ spN x ∧ spN x ≤ 16 := by
  have h : (sCells x.1 x.2.1 x.2.2).length ≤ 16 := by
    by_cases hs : spOk x.1 x.2.1 x.2.2 = true
    · rw [sCells_yes hs]; exact spc_len _ _ 16
    · simp [sCells, hs]
  unfold spN
  omega
theorem lvA_bd (xs : List T3) : ∀ k, 0 ≤ lvA xs k ∧ lvA xs k ≤ 16 * k
  | 0 => by simp [lvA]
  | k + 1 => by
    have h := lvA_bd xs k
    by_cases hk : k < xs.length
    · have := spN_bd xs[k]
      rw [lvA_succ hk]
      omega
    · have e : lvA xs (k + 1) = lvA xs k := by simp [lvA, List.take_of_length_le (show xs.length ≤ k by omega), List.take_of_length_le (show xs.length ≤ k + 1 by omega)]
      rw [e]
      omega
theorem lvB_bd {ys : List T3} (hy : ∀ y ∈ ys, lgO y = true) : ∀ k, 0 ≤ lvB ys k ∧ lvB ys k ≤ 1000 * k
  | 0 => by simp [lvB]
  | k + 1 => by
    have h := lvB_bd hy k
    by_cases hk : k < ys.length
    · have := lOk_bd (hy _ (List.getElem_mem hk))
      rw [lvB_succ hk]
      omega
    · have e : lvB ys (k + 1) = lvB ys k := by simp [lvB, List.take_of_length_le (show ys.length ≤ k by omega), List.take_of_length_le (show ys.length ≤ k + 1 by omega)]
      rw [e]
      omega
set_option maxRecDepth 100000 in
set_option maxHeartbeats 4000000 in
theorem liveCells_i (A A' : Option Addr) (c c' : Nat) (xs ys : List T3) (w : World) {B B' : Nat} (hr : Rd w B A (tv xs)) (hs : Rd w B' A' (tv ys)) (hn : xs.length ≤ 1048576) (hm : ys.length ≤ 1048576) :
    Calls Try.prog 32 #[.slice A xs.length c, .slice A' ys.length c'] w fun e w' => e = .returned (.int .i64 (liveN xs ys)) ∧ Below w.heap.size w w' := by
  replace hr := hr.lt
  replace hs := hs.lt
  have HLAY := Lib.hid (fun v hv => layoutOk_i A A' c c' xs ys w hr hs hn hm v hv)
  cases hl : layOk xs ys with
  | false =>
    have HR := Lib.hid (show liveN xs ys = 0 by simp [liveN, hl])
    have HL := Lib.hid hl
    clear hl
    go_enter Try.func32, Try.ntmps32
    go_wp2_with fail
    refine (HLAY.out _ HL.out).mono ?_
    rintro e w1 ⟨rfl, hb1⟩
    go_wp2
    go_ret
    exact ⟨by rw [HR.out]; rfl, hb1⟩
  | true =>
    have HR := Lib.hid (show liveN xs ys = lvA xs xs.length + lvB ys ys.length by simp [liveN, hl])
    have HF := Lib.hid (lay_facts hl)
    have HB := Lib.hid (lvB_bd (lay_facts hl).2.1)
    have HL := Lib.hid hl
    clear hl
    go_enter Try.func32, Try.ntmps32
    go_wp2_with fail
    refine (HLAY.out _ HL.out).mono ?_
    rintro e w1 ⟨rfl, hb1⟩
    go_wp2
    go_loopw [5, 16] (fun u v wr => ∃ k : Nat, k ≤ xs.length ∧ v = .int .i64 k ∧ u = .int .i64 (lvA xs k) ∧ Below w.heap.size w wr) (fun _ v _ => xs.length - (intOf v).toNat)
    case atStart => exact ⟨0, Nat.zero_le _, rfl, rfl, hb1⟩
    case round =>
      obtain ⟨k, hk, rfl, rfl, hbr⟩ := hrel
      clear hb1
      have hab := lvA_bd xs k
      by_cases hlt : k < xs.length
      · obtain ⟨b, off, rfl, -, hc0, hc1, hc2⟩ := (hr.below hbr).trip hlt
        have HS := Lib.hid (lvA_succ hlt)
        have hsb := spN_bd xs[k]
        have HC := Lib.hid (fun W => spanCells_i xs[k].1 xs[k].2.1 xs[k].2.2 W)
        have HN := Lib.hid (show spN xs[k] = ((sCells xs[k].1 xs[k].2.1 xs[k].2.2).length : Int) from rfl)
        generalize xs[k].1 = x1 at *
        generalize xs[k].2.1 = x2 at *
        generalize xs[k].2.2 = x3 at *
        generalize lvA xs k = va at *
        generalize hsn : spN xs[k] = sn at *
        have hlen : ((sCells x1 x2 x3).length : Int) = sn := HN.out.symm
        generalize sCells x1 x2 x3 = cl at *
        have HLN := Lib.hid hlen
        clear hsn hlen
        have hlb : cl.length ≤ 16 := by have := HLN.out; omega
        go_wp2_with fail
        refine (HC.out _).mono ?_
        rintro e w5 ⟨A5, c5, S5, rfl, hW5, hN5, hb5⟩
        go_wp2
        go_roundw
        case rel => exact ⟨k + 1, by omega, by go_num, by rw [HS.out, ← HLN.out], by (repeat' (first | (with_reducible exact Below.refl _ _) | (with_reducible refine bel_alloc ?_ ?_ _) | (with_reducible refine Below.setCell ?_ ?_ _) | (with_reducible refine below_drewN ?_ _) | (with_reducible refine Below.drew ?_) | (with_reducible refine bel_step hbr ?_ ?_) | (with_reducible refine bel_step hb5 ?_ ?_) | (with_reducible exact Nat.le_refl _) | (with_reducible assumption) | omega | (simp only [World.size_alloc, World.size_setCell, World.size_drew]; omega) | (simp; omega) | (simp; done)))⟩
        case measure => simp [intOf]; omega
      · obtain rfl : k = xs.length := by omega
        go_wp2
        go_loopw [5, 28] (fun u v wr => ∃ k : Nat, k ≤ ys.length ∧ v = .int .i64 k ∧ u = .int .i64 (lvA xs xs.length + lvB ys k) ∧ Below w.heap.size w wr) (fun _ v _ => ys.length - (intOf v).toNat)
        case atStart => exact ⟨0, Nat.zero_le _, rfl, by simp [lvB], hbr⟩
        case round =>
          obtain ⟨k, hk, rfl, rfl, hbx⟩ := hrel
          clear hbr
          have hbb := HB.out k
          by_cases hlt : k < ys.length
          · obtain ⟨b, off, rfl, -, hc0, hc1, hc2⟩ := (hs.below hbx).trip hlt
            have HS := Lib.hid (lvB_succ hlt)
            have hsb := lOk_bd (HF.out.2.1 _ (List.getElem_mem hlt))
            generalize ys[k].1 = x1 at *
            generalize ys[k].2.1 = x2 at *
            generalize ys[k].2.2 = x3 at *
            generalize lvB ys k = vb at *
            generalize lvA xs xs.length = va at *
            go_wp2
            go_roundw
            case rel => exact ⟨k + 1, by omega, by go_num, by rw [HS.out, Int.add_assoc], by (repeat' (first | (with_reducible exact Below.refl _ _) | (with_reducible refine bel_alloc ?_ ?_ _) | (with_reducible refine Below.setCell ?_ ?_ _) | (with_reducible refine below_drewN ?_ _) | (with_reducible refine Below.drew ?_) | (with_reducible refine bel_step hbx ?_ ?_) | (with_reducible exact Nat.le_refl _) | (with_reducible assumption) | omega | (simp only [World.size_alloc, World.size_setCell, World.size_drew]; omega) | (simp; omega) | (simp; done)))⟩
            case measure => simp [intOf]; omega
          · obtain rfl : k = ys.length := by omega
            go_wp2
            go_ret
            exact ⟨by rw [HR.out]; rfl, hbx⟩
set_option maxRecDepth 100000 in
set_option maxHeartbeats 4000000 in
theorem liveCells_s (A A' : Option Addr) (c c' : Nat) (xs ys : List T3) (w : World) {B B' : Nat} (hr : Rd w B A (tv xs)) (hs : Rd w B' A' (tv ys)) (hn : xs.length ≤ 1048576) (hm : ys.length ≤ 1048576) :
    Calls Try.prog 33 #[.slice A xs.length c, .slice A' ys.length c'] w fun e w' => e = .returned (.int .i64 (liveN xs ys)) ∧ Below w.heap.size w w' := by
  replace hr := hr.lt
  replace hs := hs.lt
  have HLAY := Lib.hid (fun v hv => layoutOk_s A A' c c' xs ys w hr hs hn hm v hv)
  cases hl : layOk xs ys with
  | false =>
    have HR := Lib.hid (show liveN xs ys = 0 by simp [liveN, hl])
    have HL := Lib.hid hl
    clear hl
    go_enter Try.func33, Try.ntmps33
    go_wp2_with fail
    refine (HLAY.out _ HL.out).mono ?_
    rintro e w1 ⟨rfl, hb1⟩
    go_wp2
    go_ret
    exact ⟨by rw [HR.out]; rfl, hb1⟩
  | true =>
    have HR := Lib.hid (show liveN xs ys = lvA xs xs.length + lvB ys ys.length by simp [liveN, hl])
    have HF := Lib.hid (lay_facts hl)
    have HB := Lib.hid (lvB_bd (lay_facts hl).2.1)
    have HL := Lib.hid hl
    clear hl
    go_enter Try.func33, Try.ntmps33
    go_wp2_with fail
    refine (HLAY.out _ HL.out).mono ?_
    rintro e w1 ⟨rfl, hb1⟩
    go_wp2
    go_loopw [5, 6] (fun u v wr => ∃ k : Nat, k ≤ xs.length ∧ v = .int .i64 k ∧ u = .int .i64 (lvA xs k) ∧ Below w.heap.size w wr) (fun _ v _ => xs.length - (intOf v).toNat)
    case atStart => exact ⟨0, Nat.zero_le _, rfl, rfl, hb1⟩
    case round =>
      obtain ⟨k, hk, rfl, rfl, hbr⟩ := hrel
      clear hb1
      have hab := lvA_bd xs k
      by_cases hlt : k < xs.length
      · obtain ⟨b, off, rfl, -, hc0, hc1, hc2⟩ := (hr.below hbr).trip hlt
        have HS := Lib.hid (lvA_succ hlt)
        have hsb := spN_bd xs[k]
        have HC := Lib.hid (fun W => spanCells_s xs[k].1 xs[k].2.1 xs[k].2.2 W)
        have HN := Lib.hid (show spN xs[k] = ((sCells xs[k].1 xs[k].2.1 xs[k].2.2).length : Int) from rfl)
        generalize xs[k].1 = x1 at *
        generalize xs[k].2.1 = x2 at *
        generalize xs[k].2.2 = x3 at *
        generalize lvA xs k = va at *
        generalize hsn : spN xs[k] = sn at *
        have hlen : ((sCells x1 x2 x3).length : Int) = sn := HN.out.symm
        generalize sCells x1 x2 x3 = cl at *
        have HLN := Lib.hid hlen
        clear hsn hlen
        have hlb : cl.length ≤ 16 := by have := HLN.out; omega
        go_wp2_with fail
        refine (HC.out _).mono ?_
        rintro e w5 ⟨A5, c5, S5, rfl, hW5, hN5, hb5⟩
        go_wp2
        go_roundw
        case rel => exact ⟨k + 1, by omega, by go_num, by rw [HS.out, ← HLN.out], by (repeat' (first | (with_reducible exact Below.refl _ _) | (with_reducible refine bel_alloc ?_ ?_ _) | (with_reducible refine Below.setCell ?_ ?_ _) | (with_reducible refine below_drewN ?_ _) | (with_reducible refine Below.drew ?_) | (with_reducible refine bel_step hbr ?_ ?_) | (with_reducible refine bel_step hb5 ?_ ?_) | (with_reducible exact Nat.le_refl _) | (with_reducible assumption) | omega | (simp only [World.size_alloc, World.size_setCell, World.size_drew]; omega) | (simp; omega) | (simp; done)))⟩
        case measure => simp [intOf]; omega
      · obtain rfl : k = xs.length := by omega
        go_wp2
        go_loopw [5, 7] (fun u v wr => ∃ k : Nat, k ≤ ys.length ∧ v = .int .i64 k ∧ u = .int .i64 (lvA xs xs.length + lvB ys k) ∧ Below w.heap.size w wr) (fun _ v _ => ys.length - (intOf v).toNat)
        case atStart => exact ⟨0, Nat.zero_le _, rfl, by simp [lvB], hbr⟩
        case round =>
          obtain ⟨k, hk, rfl, rfl, hbx⟩ := hrel
          clear hbr
          have hbb := HB.out k
          by_cases hlt : k < ys.length
          · obtain ⟨b, off, rfl, -, hc0, hc1, hc2⟩ := (hs.below hbx).trip hlt
            have HS := Lib.hid (lvB_succ hlt)
            have hsb := lOk_bd (HF.out.2.1 _ (List.getElem_mem hlt))
            generalize ys[k].1 = x1 at *
            generalize ys[k].2.1 = x2 at *
            generalize ys[k].2.2 = x3 at *
            generalize lvB ys k = vb at *
            generalize lvA xs xs.length = va at *
            go_wp2
            go_roundw
            case rel => exact ⟨k + 1, by omega, by go_num, by rw [HS.out, Int.add_assoc], by (repeat' (first | (with_reducible exact Below.refl _ _) | (with_reducible refine bel_alloc ?_ ?_ _) | (with_reducible refine Below.setCell ?_ ?_ _) | (with_reducible refine below_drewN ?_ _) | (with_reducible refine Below.drew ?_) | (with_reducible refine bel_step hbx ?_ ?_) | (with_reducible exact Nat.le_refl _) | (with_reducible assumption) | omega | (simp only [World.size_alloc, World.size_setCell, World.size_drew]; omega) | (simp; omega) | (simp; done)))⟩
            case measure => simp [intOf]; omega
          · obtain rfl : k = ys.length := by omega
            go_wp2
            go_ret
            exact ⟨by rw [HR.out]; rfl, hbx⟩
end Go.Proofs.Ytjimpmdelnnflaa
