/- CacheOk, of the program. -/
import Derived.Test.YtmfomflmbhognaaCacheA
import Derived.Test.YtmfomflmbhognaaCacheP
import Derived.Test.YtmfomflmbhognaaMapS
namespace Go.Proofs.Ytmfomflmbhognaa
open Go.ChangeShapes Go.WideShapes Go.ChangeAt Go.RowKit Go.Maps
set_option linter.unusedVariables false

theorem grown_cell {w w1 : World} {g : Nat} {p : Addr} {v : Value} (hg : w.grownBy w1 (some g)) (hc : w.cell? p = some v) (hne : p.block ≠ g) : w1.cell? p = some v :=
  (OutS.of_grown (S := fun b => b = g) hg (fun g' h => by injection h with h; exact h.symm)).cell hc hne
theorem wf_of {x : Int} (h0 : 0 ≤ x) (h1 : x ≤ 511) : (Lit.int .i64 x).wf = true := by
  simp [Lit.wf, IntKind.min, IntKind.max, IntKind.signed, IntKind.bits]; omega
set_option maxHeartbeats 8000000 in
theorem cacheOk_i (A : Option Addr) (c : Nat) (xss : List (List Int)) (w : World) {B : Nat} (hr : Rd2 iv w B A xss) (hn : Rows xss) (v : Bool) (hv : cOkB xss = v) :
    Calls Try.prog 24 #[.agg #[.slice A xss.length c]] w fun e w' => e = .returned (.bool v) ∧ Below w.heap.size w w' := by
  subst hv
  have hn1 := hn.1
  have HM := Lib.hid hn.2
  clear hn
  have hmm := @run_makeMap Try.prog
  go_enter Try.func24, Try.ntmps24
  go_wp2
  have HS0 : IsSet ((w.alloc (.cells #[.slice A xss.length c] 28)).alloc (.map #[] 0)) (w.heap.size + 1) 0 [] := by
    have := IsSet.made (w.alloc (.cells #[.slice A xss.length c] 28))
    simpa using this
  go_loopw [12] (fun v wr => ∃ k : Nat, k ≤ xss.length ∧ k ≤ 4 ∧ v = .int .i64 k ∧ (∀ i (hi : i < xss.length), i < k → rowOk i xss[i] = true) ∧ (pre xss k 0).Nodup ∧ IsSet wr (w.heap.size + 1) (8 * k) (pre xss k 0) ∧ wr.cell? ⟨w.heap.size, 0, none⟩ = some (.slice A xss.length c) ∧ Below w.heap.size w wr) (fun v _ => xss.length - (intOf v).toNat)
  case atStart => exact ⟨0, Nat.zero_le _, by omega, rfl, fun i _ hi => absurd hi (by omega), by simp [pre], by simpa [pre] using HS0, by simp [go_sem], by (repeat' (first | (with_reducible exact Below.refl _ _) | (with_reducible refine bel_alloc ?_ ?_ _) | (with_reducible refine Below.setCell ?_ ?_ _) | (with_reducible refine below_drewN ?_ _) | (with_reducible refine Below.drew ?_) | (with_reducible exact Nat.le_refl _) | (with_reducible assumption) | omega | (simp only [World.size_alloc, World.size_setCell, World.size_drew]; omega) | (simp; omega) | (simp; done)))⟩
  case round =>
    obtain ⟨k, hk, hk4, rfl, hall, hnd, hset, hq, hbr⟩ := hrel
    have HA := Lib.hid hall
    have HN := Lib.hid hnd
    have HS := Lib.hid hset
    clear hall hnd hset HS0
    by_cases hlt : k < xss.length
    · obtain ⟨b, off, A1, c1, rfl, -, hc0, hrx⟩ := hr.lt.row hlt
      have hc := keep hbr hc0
      have hlm := HM.out _ (List.getElem_mem hlt)
      obtain ⟨q, hq'⟩ : ∃ q, q = xss[k] := ⟨_, rfl⟩
      rw [← hq'] at hc hrx hlm
      clear hc0
      have HQ := Lib.hid hq'
      clear hq'
      by_cases h8 : 8 < q.length
      · have HR := Lib.hid (cOk_long hlt (by rw [← HQ.out]; exact h8))
        go_wp2
        go_ret
        exact ⟨by rw [HR.out]; rfl, hbr⟩
      cases hcl : btw (k : Int) 0 3 with
      | false =>
        have HR := Lib.hid (cOk_len (xss := xss) (by have := of_btw_f hcl; omega))
        go_wp2_with (go_at_call 52; refine (classOk_i _ _).mono ?_; rintro e w2 ⟨rfl, rfl⟩)
        go_ret
        exact ⟨by rw [HR.out]; rfl, hbr⟩
      | true =>
        have hk3 := of_btw hcl
        have hcsb := cs_bd (k : Int)
        have hcs1 : 1 ≤ cs (k : Int) := by
          rcases (by omega : (k : Int) = 0 ∨ (k : Int) = 1 ∨ (k : Int) = 2 ∨ (k : Int) = 3) with h | h | h | h <;> rw [h] <;> decide
        have HADDR := Lib.hid (show ∀ x, addrOk k x = (btw x 0 511 && decide (x % cs (k : Int) = 0)) from fun x => rfl)
        have HCS := Lib.hid (fun W => classSize_i (k : Int) W)
        generalize cs (k : Int) = m at *
        go_wp2_with (go_at_call 52; refine (classOk_i _ _).mono ?_; rintro e w2 ⟨rfl, rfl⟩)
        go_loopw [27] (fun v wx => ∃ j : Nat, j ≤ q.length ∧ v = .int .i64 j ∧ (∀ i (hi : i < q.length), i < j → addrOk k q[i] = true) ∧ (pre xss k j).Nodup ∧ IsSet wx (w.heap.size + 1) (8 * k + j) (pre xss k j) ∧ wx.cell? ⟨w.heap.size, 0, none⟩ = some (.slice (some ⟨b, off, none⟩) xss.length c) ∧ Below w.heap.size w wx) (fun v _ => q.length - (intOf v).toNat)
        case atStart => exact ⟨0, Nat.zero_le _, rfl, fun i _ hi => absurd hi (by omega), HN.out, HS.out, hq, hbr⟩
        case round =>
          obtain ⟨j, hj, rfl, hall, hnd, hset, hq2, hbx⟩ := hrel
          have HA2 := Lib.hid hall
          have HN2 := Lib.hid hnd
          clear hall hnd hq
          by_cases hjl : j < q.length
          · obtain ⟨b2, off2, rfl, -, hx0⟩ := (hrx.below hbx).int hjl
            obtain ⟨x, hx⟩ : ∃ x, x = q[j] := ⟨_, rfl⟩
            rw [← hx] at hx0
            have hxq : ∃ (h : j < xss[k].length), xss[k][j] = x := by rw [hx]; exact ⟨by rw [← HQ.out]; exact hjl, by simp only [HQ.out]⟩
            have HX := Lib.hid hx
            have HXQ := Lib.hid hxq
            clear hx hxq
            cases hb : btw x 0 511 with
            | false =>
              have HR := Lib.hid (show cOkB xss = false by
                obtain ⟨h, e⟩ := HXQ.out
                exact cOk_addr hlt h (by rw [e, HADDR.out, hb]; rfl))
              go_wp2_with (first | (go_at_call 53; refine (between_q _ _ _ _).mono ?_; rintro e w2 ⟨rfl, rfl⟩))
              go_ret
              exact ⟨by rw [HR.out]; rfl, hbx⟩
            | true =>
              have hx511 := of_btw hb
              have htm : x.tmod m = x % m := Int.tmod_eq_emod_of_nonneg hx511.1
              have HB := Lib.hid hb
              by_cases hrem : x % m = 0
              · by_cases hmem : x ∈ pre xss k j
                · have HR := Lib.hid (show cOkB xss = false by
                    obtain ⟨h, e⟩ := HXQ.out
                    exact cOk_dup hlt h (by rw [e]; exact hmem))
                  have hlk := hset.look (wf_of hx511.1 hx511.2)
                  rw [decide_eq_true hmem] at hlk
                  clear hmem hset
                  go_wp2_with (first | (go_at_call 53; refine (between_q _ _ _ _).mono ?_; rintro e w2 ⟨rfl, rfl⟩) | (go_at_call 43; refine (HCS.out _).mono ?_; rintro e w2 ⟨rfl, rfl⟩))
                  go_ret
                  exact ⟨by rw [HR.out]; rfl, hbx⟩
                · have hlk := hset.look (wf_of hx511.1 hx511.2)
                  rw [decide_eq_false hmem] at hlk
                  have HM2 := Lib.hid hmem
                  clear hmem
                  go_wp2_with (first | (go_at_call 53; refine (between_q _ _ _ _).mono ?_; rintro e w2 ⟨rfl, rfl⟩) | (go_at_call 43; refine (HCS.out _).mono ?_; rintro e w2 ⟨rfl, rfl⟩) | (at_mapUpdate; refine wpList_set rfl _ _ _ rfl rfl hset (by unfold maxLen; omega) rfl rfl (wf_of hx511.1 hx511.2) ?_; intro w4 hs4 hg4))
                  go_roundw
                  case rel =>
                    refine ⟨j + 1, by omega, by go_num, fun i hi hij => ?_, ?_, ?_, grown_cell hg4 hq2 (by simp), bel_grown hg4 hbx (Nat.le_refl _) (by intro g hg; injection hg with hg; omega)⟩
                    · by_cases e : i = j
                      · subst e
                        rw [← HX.out, HADDR.out, HB.out, hrem]
                        rfl
                      · exact HA2.out i hi (by omega)
                    · obtain ⟨h, e⟩ := HXQ.out
                      rw [pre_succ hlt h, e]
                      exact nodup_snoc HN2.out HM2.out
                    · obtain ⟨h, e⟩ := HXQ.out
                      rw [pre_succ hlt h, e]
                      exact hs4.congr (fun y => by simp [or_comm])
                  case measure => simp [intOf]; omega
              · have HR := Lib.hid (show cOkB xss = false by
                  obtain ⟨h, e⟩ := HXQ.out
                  exact cOk_addr hlt h (by rw [e, HADDR.out]; simp [hrem]))
                have hrb : (x % m != 0) = true := by simpa using hrem
                go_wp2_with (first | (go_at_call 53; refine (between_q _ _ _ _).mono ?_; rintro e w2 ⟨rfl, rfl⟩) | (go_at_call 43; refine (HCS.out _).mono ?_; rintro e w2 ⟨rfl, rfl⟩))
                go_ret
                exact ⟨by rw [HR.out]; rfl, hbx⟩
          · obtain rfl : j = q.length := by omega
            go_wp2
            go_roundw
            case rel =>
              refine ⟨k + 1, by omega, by omega, by go_num, fun i hi hik => ?_, ?_, ?_, hq2, hbx⟩
              · by_cases e : i = k
                · subst e
                  exact row_all hlt (by rw [← HQ.out]; omega) (fun j hj => by have := HA2.out j (by rw [HQ.out]; exact hj) (by rw [HQ.out]; exact hj); simpa [HQ.out] using this)
                · exact HA.out i hi (by omega)
              · rw [← pre_end hlt, ← HQ.out]; exact HN2.out
              · rw [← pre_end hlt, ← HQ.out]; exact hset.mono (by omega)
            case measure => simp [intOf]; omega
    · obtain rfl : k = xss.length := by omega
      by_cases h4 : xss.length = 4
      · have HR := Lib.hid (cOk_all h4 (fun i hi => HA.out i hi hi) HN.out)
        have h4b : ((xss.length : Int) == 4) = true := by simp; omega
        clear h4
        go_wp2
        go_ret
        exact ⟨by rw [HR.out]; rfl, hbr⟩
      · have HR := Lib.hid (cOk_len h4)
        have h4b : ((xss.length : Int) == 4) = false := by simp; omega
        go_wp2
        go_ret
        exact ⟨by rw [HR.out]; rfl, hbr⟩
end Go.Proofs.Ytmfomflmbhognaa
