/- CacheOk, of the reference. -/
import Derived.Test.YtmfomflmbhognaaCacheC
import Derived.Test.YtmfomflmbhognaaApp
namespace Go.Proofs.Ytmfomflmbhognaa
open Go.ChangeShapes Go.WideShapes Go.ChangeAt Go.RowKit Go.Maps
set_option linter.unusedVariables false

set_option maxHeartbeats 8000000 in
theorem cacheOk_s (A : Option Addr) (c : Nat) (xss : List (List Int)) (w : World) {B : Nat} (hr : Rd2 iv w B A xss) (hn : Rows xss) (v : Bool) (hv : cOkB xss = v) :
    Calls Try.prog 23 #[.agg #[.slice A xss.length c]] w fun e w' => e = .returned (.bool v) ∧ Below w.heap.size w w' := by
  subst hv
  have hn1 := hn.1
  have HM := Lib.hid hn.2
  clear hn
  obtain ⟨i0, hi, iz0, iz1, iz2⟩ := info_parts infoInt
  by_cases h4 : xss.length = 4
  rotate_left
  · have HR := Lib.hid (cOk_len h4)
    have h4b : ((xss.length : Int) != 4) = true := by simp; omega
    go_enter Try.func23, Try.ntmps23
    go_wp2
    go_ret
    exact ⟨by rw [HR.out]; rfl, by (repeat' (first | (with_reducible exact Below.refl _ _) | (with_reducible refine bel_alloc ?_ ?_ _) | (with_reducible refine Below.setCell ?_ ?_ _) | (with_reducible refine below_drewN ?_ _) | (with_reducible refine Below.drew ?_) | (with_reducible exact Nat.le_refl _) | (with_reducible assumption) | omega | (simp only [World.size_alloc, World.size_setCell, World.size_drew]; omega) | (simp; omega) | (simp; done)))⟩
  have h4b : ((xss.length : Int) != 4) = false := by simp; omega
  have H4 := Lib.hid h4
  clear h4
  go_enter Try.func23, Try.ntmps23
  go_wp2
  have hO0 := (own_lit (w := w.alloc (.cells #[.slice A xss.length c] 28)) (g := w.heap.size + 1) (e := 3) (size := 1) (by simp))
  go_loopw [3, 4] (fun u v wr => ∃ (k : Nat) (A2 : Option Addr) (n c2 : Nat), k ≤ 4 ∧ n ≤ 8 * k ∧ v = .int .i64 k ∧ u = .slice A2 n c2 ∧ (∀ i (hi : i < xss.length), i < k → rowOk i xss[i] = true) ∧ (pre xss k 0).Nodup ∧ (pre xss k 0).length = n ∧ wr.ownsRow (w.heap.size + 1) 3 1 (.slice A2 n c2) n (iv (pre xss k 0)) ∧ wr.cell? ⟨w.heap.size, 0, none⟩ = some (.slice A xss.length c) ∧ Below w.heap.size w wr) (fun _ v _ => 4 - (intOf v).toNat)
  case atStart => exact ⟨0, _, 0, 0, by omega, Nat.le_refl _, rfl, rfl, fun i _ hi => absurd hi (by omega), by simp [pre], by simp [pre], by simpa [pre] using hO0, by simp [go_sem], by (repeat' (first | (with_reducible exact Below.refl _ _) | (with_reducible refine bel_alloc ?_ ?_ _) | (with_reducible refine Below.setCell ?_ ?_ _) | (with_reducible refine below_drewN ?_ _) | (with_reducible refine Below.drew ?_) | (with_reducible exact Nat.le_refl _) | (with_reducible assumption) | omega | (simp only [World.size_alloc, World.size_setCell, World.size_drew]; omega) | (simp; omega) | (simp; done)))⟩
  case round =>
    obtain ⟨k, A2, n, c2, hk4, hn8, rfl, rfl, hall, hnd, hln, hown, hq, hbr⟩ := hrel
    have HA := Lib.hid hall
    have HN := Lib.hid hnd
    have HL := Lib.hid hln
    clear hall hnd hln hO0
    by_cases hlt4 : k < 4
    · have hlt : k < xss.length := by rw [H4.out]; exact hlt4
      obtain ⟨b, off, A1, c1, rfl, -, hc0, hrx⟩ := hr.lt.row hlt
      have hc := keep hbr hc0
      have hlm := HM.out _ (List.getElem_mem hlt)
      obtain ⟨q, hq'⟩ : ∃ q, q = xss[k] := ⟨_, rfl⟩
      rw [← hq'] at hc0 hc hrx hlm
      have HQ := Lib.hid hq'
      clear hq'
      have i0' : (0 : Int) ≤ (k : Int) := by omega
      have i4' : (k : Int) < 4 := by omega
      have i4d : decide ((k : Int) < 4) = true := by simpa using i4'
      have i1' : (k : Int) < (xss.length : Int) := by omega
      by_cases h8 : 8 < q.length
      · have HR := Lib.hid (cOk_long hlt (by rw [← HQ.out]; exact h8))
        go_wp2
        go_ret
        exact ⟨by rw [HR.out]; rfl, hbr⟩
      have hcsb := cs_bd (k : Int)
      have hcs1 : 1 ≤ cs (k : Int) := by
        rcases (by omega : (k : Int) = 0 ∨ (k : Int) = 1 ∨ (k : Int) = 2 ∨ (k : Int) = 3) with h | h | h | h <;> rw [h] <;> decide
      have HADDR := Lib.hid (show ∀ x, addrOk k x = (btw x 0 511 && decide (x % cs (k : Int) = 0)) from fun x => rfl)
      have HCS := Lib.hid (fun W => classSize_s (k : Int) W)
      generalize cs (k : Int) = m at *
      go_wp2
      go_loopw [3, 5] (fun u v wx => ∃ (j : Nat) (A3 : Option Addr) (n3 c3 : Nat), j ≤ q.length ∧ n3 ≤ 8 * k + j ∧ v = .int .i64 j ∧ u = .slice A3 n3 c3 ∧ (∀ i (hi : i < q.length), i < j → addrOk k q[i] = true) ∧ (pre xss k j).Nodup ∧ (pre xss k j).length = n3 ∧ wx.ownsRow (w.heap.size + 1) 3 1 (.slice A3 n3 c3) n3 (iv (pre xss k j)) ∧ wx.cell? ⟨w.heap.size, 0, none⟩ = some (.slice (some ⟨b, off, none⟩) xss.length c) ∧ Below w.heap.size w wx) (fun _ v _ => q.length - (intOf v).toNat)
      case atStart => exact ⟨0, A2, n, c2, Nat.zero_le _, by omega, rfl, rfl, fun i _ hi => absurd hi (by omega), HN.out, HL.out, hown, hq, hbr⟩
      case round =>
        obtain ⟨j, A3, n3, c3, hj, hn3, rfl, rfl, hall, hnd, hln, hown3, hq2, hbx⟩ := hrel
        have HA2 := Lib.hid hall
        have HN2 := Lib.hid hnd
        have HL2 := Lib.hid hln
        replace hc := keep hbx hc0
        clear hall hnd hln hq hown
        have j0 : (0 : Int) ≤ (j : Int) := by omega
        by_cases hjl : j < q.length
        · obtain ⟨b2, off2, rfl, -, hx0⟩ := (hrx.below hbx).int hjl
          have j1 : (j : Int) < (q.length : Int) := by omega
          obtain ⟨x, hx⟩ : ∃ x, x = q[j] := ⟨_, rfl⟩
          rw [← hx] at hx0
          have hxq : ∃ (h : j < xss[k].length), xss[k][j] = x := by rw [hx]; exact ⟨by rw [← HQ.out]; exact hjl, by simp only [HQ.out]⟩
          have HX := Lib.hid hx
          have HXQ := Lib.hid hxq
          clear hx hxq
          cases hb : btw x 0 511 with
          | false =>
            have HR := Lib.hid (show cOkB xss = false by
              obtain ⟨h, e⟩ := HXQ.out
              exact cOk_addr hlt h (by rw [e, HADDR.out, hb]; rfl))
            go_wp2_with (first | (go_at_call 51; refine (l01In_q _ _ _ _).mono ?_; rintro e w2 ⟨rfl, rfl⟩))
            go_ret
            exact ⟨by rw [HR.out]; rfl, hbx⟩
          | true =>
            have hx511 := of_btw hb
            have htm : x.tmod m = x % m := Int.tmod_eq_emod_of_nonneg hx511.1
            have HB := Lib.hid hb
            by_cases hrem : x % m = 0
            · have hrd : Rd _ _ A3 (iv (pre xss k j)) := Rd.own hown3
              cases hmem : hasI (pre xss k j) x with
              | true =>
                have HR := Lib.hid (show cOkB xss = false by
                  obtain ⟨h, e⟩ := HXQ.out
                  exact cOk_dup hlt h (by rw [e]; exact hasI_iff.1 hmem))
                have HV := Lib.hid hmem
                clear hmem
                go_wp2_with (first | (go_at_call 51; refine (l01In_q _ _ _ _).mono ?_; rintro e w2 ⟨rfl, rfl⟩) | (go_at_call 37; refine (HCS.out _).mono ?_; rintro e w2 ⟨rfl, rfl⟩) | (go_at_call 45; refine (l08Has_s _ _ _ _ _ _ hrd HL2.out (by omega) HV.out).mono ?_; rintro e w2 ⟨rfl, rfl⟩))
                go_ret
                exact ⟨by rw [HR.out]; rfl, hbx⟩
              | false =>
                have HM2 := Lib.hid (show x ∉ pre xss k j by rw [← hasI_iff, hmem]; simp)
                have HV := Lib.hid hmem
                clear hmem
                go_wp2_with (first | (go_at_call 51; refine (l01In_q _ _ _ _).mono ?_; rintro e w2 ⟨rfl, rfl⟩) | (go_at_call 37; refine (HCS.out _).mono ?_; rintro e w2 ⟨rfl, rfl⟩) | (go_at_call 45; refine (l08Has_s _ _ _ _ _ _ hrd HL2.out (by omega) HV.out).mono ?_; rintro e w2 ⟨rfl, rfl⟩) | (at_builtin; refine wpList_append_ow rfl (.tmp 56) (.tmp 58) _ rfl 3 i0 (.int .i64 0) 1 8 Try.underlying24 hi iz0 iz1 iz2 rfl (by omega) (w.heap.size + 1) A3 n3 c3 (iv (pre xss k j)) rfl (own_below' hown3 ((Below.refl _ _).alloc (Nat.le_refl _) _)) (some ⟨_, 0, none⟩) 1 1 (iv [x]) rfl rfl (Rd.lit rfl) (iv_one _) (by unfold maxLen; omega) (by omega) (by have := hbx.size; have := lt_of_cell' hq2; simp; omega) ?_; intro A4 c4 w4 hO4 hS4 hA4))
                have hapt : ∀ y, (∃ o, A3 = some ⟨y, o, none⟩) → w.heap.size + 1 ≤ y := by
                  rintro y ⟨o, rfl⟩
                  rcases hown3.2 with ⟨hv, _⟩ | ⟨g, cap, cur, hv, hg, _⟩
                  · cases hv
                  · injection hv with hv
                    injection hv with hv
                    injection hv with hv
                    omega
                go_roundw
                case rel =>
                  obtain ⟨h, e⟩ := HXQ.out
                  refine ⟨j + 1, A4, n3 + 1, c4, by omega, by omega, by go_num, rfl, fun i hi hij => ?_, ?_, ?_, ?_, hS4.cell (cell_al hq2 _) (fun h => by have := hapt _ h; simp at this; omega), ?_⟩
                  · by_cases e : i = j
                    · subst e
                      rw [← HX.out, HADDR.out, HB.out, hrem]
                      rfl
                    · exact HA2.out i hi (by omega)
                  · rw [pre_succ hlt h, e]
                    exact nodup_snoc HN2.out HM2.out
                  · rw [pre_succ hlt h, List.length_append, HL2.out]; rfl
                  · rw [pre_succ hlt h, e]
                    have : iv (pre xss k j ++ [x]) = iv (pre xss k j) ++ iv [x] := by simp [iv]
                    rw [this]
                    exact hO4
                  · exact bel_outS hS4 (fun y hy => by have := hapt y hy; omega) (bel_alloc hbx (Nat.le_refl _) _) (Nat.le_refl _)
                case measure => simp [intOf]; omega
            · have HR := Lib.hid (show cOkB xss = false by
                obtain ⟨h, e⟩ := HXQ.out
                exact cOk_addr hlt h (by rw [e, HADDR.out]; simp [hrem]))
              have hrb : (x % m != 0) = true := by simpa using hrem
              go_wp2_with (first | (go_at_call 51; refine (l01In_q _ _ _ _).mono ?_; rintro e w2 ⟨rfl, rfl⟩) | (go_at_call 37; refine (HCS.out _).mono ?_; rintro e w2 ⟨rfl, rfl⟩))
              go_ret
              exact ⟨by rw [HR.out]; rfl, hbx⟩
        · obtain rfl : j = q.length := by omega
          go_wp2
          go_roundw
          case rel =>
            refine ⟨k + 1, A3, n3, c3, by omega, by omega, by go_num, rfl, fun i hi hik => ?_, ?_, ?_, ?_, hq2, hbx⟩
            · by_cases e : i = k
              · subst e
                exact row_all hlt (by rw [← HQ.out]; omega) (fun j hj => by have := HA2.out j (by rw [HQ.out]; exact hj) (by rw [HQ.out]; exact hj); simpa [HQ.out] using this)
              · exact HA.out i hi (by omega)
            · rw [← pre_end hlt, ← HQ.out]; exact HN2.out
            · rw [← pre_end hlt, ← HQ.out]; exact HL2.out
            · rw [← pre_end hlt, ← HQ.out]; exact hown3
          case measure => simp [intOf]; omega
    · obtain rfl : k = 4 := by omega
      have HR := Lib.hid (cOk_all H4.out (fun i hi => HA.out i hi (by have := H4.out; omega)) (by rw [H4.out]; exact HN.out))
      go_wp2
      go_ret
      exact ⟨by rw [HR.out]; rfl, hbr⟩
end Go.Proofs.Ytmfomflmbhognaa
