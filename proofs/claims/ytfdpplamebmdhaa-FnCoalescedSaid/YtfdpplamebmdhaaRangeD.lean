/- A drawn list of ranges is valid. -/
import Derived.Test.YtfdpplamebmdhaaRangeTkV
import Derived.Test.YtfdpplamebmdhaaRangeV
import Derived.Test.YtfdpplamebmdhaaRangeW
import Derived.Test.YtfdpplamebmdhaaDrawO
namespace Go.Proofs.Ytfdpplamebmdhaa
open Go.ChangeShapes Go.WideShapes Go.ChangeAt Go.RowKit
set_option linter.unusedVariables false
set_option linter.unusedSimpArgs false

theorem rOk_tk {pages n : Int} {xs : List Rg} {j : Nat} (h : rOkB pages xs = true) (hj : j < xs.length) (h1 : 1 ≤ n) (h2 : n ≤ xs[j].2) : rOkB pages (tkL n xs j) = true := by
  obtain ⟨s1, s2, s3, s4⟩ := take_put hj (srt_all h) h1 h2
  refine rOk_of (rOkB_facts h).2 s1 (hi_of_cov s1 (fun q hq => ?_))
  obtain ⟨x, hx, hq2⟩ := ((s4 q).1 hq).1
  have := rOk_hi h x hx
  omega
theorem no_ov {xs : List Rg} {r : Rg} (hr : r.2 = 1) (h : ¬ cov xs r.1) : ∀ x ∈ xs, ovB x r = false := by
  intro x hx
  refine ovB_f (fun hh => h ⟨x, hx, ?_, ?_⟩) <;> omega
theorem rOk_put {pages : Int} {xs ys : List Rg} {r : Rg} (h : rOkB pages xs = true) (hr : rInB pages r = true) (ho : ∀ x ∈ xs, ovB x r = false) (he : ip r false xs = some ys) : rOkB pages ys = true := by
  obtain ⟨a, b⟩ := r
  have h3 := rInB_yes hr
  obtain ⟨zs, i1, i2, i3, i4⟩ := ip_ok (r := (a, b)) (by simp only; omega) (srt_all h) (by simp only; omega) ho
  rw [he] at i1
  injection i1 with i1
  subst i1
  refine rOk_of (rOkB_facts h).2 i2 (hi_of_cov i2 (fun q hq => ?_))
  rcases (i4 q).1 hq with ⟨x, hx, hq2⟩ | hq2
  · have := rOk_hi h x hx
    omega
  · simp only at hq2
    omega
theorem bst_le (n : Int) (xs : List Rg) {j : Nat} (h : bst n xs xs.length = (j : Int)) : j < xs.length := by
  have := bst_bd n xs xs.length
  omega
theorem bst_fit {n : Int} {xs : List Rg} {j : Nat} (h : bst n xs xs.length = (j : Int)) (hj : j < xs.length) : n ≤ xs[j].2 := by
  have := bst_ge n xs xs.length (by omega)
  rw [h] at this
  simpa [List.getElem?_eq_getElem hj] using this
def CaseOut (g B : Nat) (A : Option Addr) (c : Nat) (bs : List Int) (w : World) (e : Ending) (w' : World) : Prop :=
  ∃ (pages : Int) (A1 : Option Addr) (c1 : Nat) (xs : List Rg), e = .returned (.tuple #[.int .i64 pages, .slice A1 xs.length c1]) ∧ rOkB pages xs = true ∧ Rd w' w'.heap.size A1 (pv xs) ∧ (xs.length ≤ c1 ∧ c1 ≤ maxLen) ∧ Out g (g + 1) w w'
set_option maxRecDepth 100000 in
set_option maxHeartbeats 8000000 in
theorem l19Case_any (g B : Nat) (A : Option Addr) (c : Nat) (bs : List Int) (w : World) (hb : Bytes bs) (hB : B ≤ g) (hc : Cur w g B A c bs) :
    Calls Try.prog 48 #[.pointer (some ⟨g, 0, none⟩)] w (CaseOut g B A c bs w) := by
  have hgl := hc.lt
  go_enter Try.func48, Try.ntmps48
  go_wp2_with fail
  refine (l01Below_any 20 g B A c bs _ hb hB hc (by omega)).mono ?_
  rintro e w1 ⟨x, rfl, hx0, hx1, -, hc1, ho1⟩
  have hx1 := hx1 (by omega)
  have hz1 := ho1.size
  obtain ⟨pg, hpg⟩ : ∃ pg, pg = 4 + x := ⟨_, rfl⟩
  have hok : rOkB pg [(0, pg)] = true := rOk_of (by omega) ⟨by simp only; omega, by simp only; omega, trivial⟩ (by simp)
  have HP := Lib.hid hpg
  have hpb : 4 ≤ pg ∧ pg ≤ 23 := by omega
  have HK := Lib.hid hok
  clear hok hpg hc
  go_wp2_with fail
  rw [← HP.out]
  go_loopw [5, 6] (fun u v wr => ∃ (k : Nat) (A1 : Option Addr) (c1 : Nat) (S : Nat → Prop) (xs : List Rg), k ≤ 10 ∧ v = .int .i64 k ∧ u = .slice A1 xs.length c1 ∧ rOkB pg xs = true ∧ (xs.length ≤ c1 ∧ c1 ≤ maxLen) ∧ Wr wr S A1 (pv xs) ∧ (∀ b, S b → g < b) ∧ Cur wr g B A c bs ∧ Out g (g + 1) w wr) (fun _ v _ => 10 - (intOf v).toNat)
  case atStart =>
    refine ⟨0, _, 1, (fun b => b = w1.heap.size), [(0, pg)], Nat.zero_le _, rfl, rfl, HK.out, ⟨Nat.le_refl _, by unfold maxLen; omega⟩, .inr ⟨w1.heap.size, 0, rfl, rfl, fun k v hk => ?_⟩, fun b hb => by omega, hc1.alloc _, ho1.alloc _⟩
    rw [Nat.zero_add]
    exact Cl.new rfl (by rw [← Array.getElem?_toList]; exact hk)
  case round =>
    obtain ⟨k, A1, c1, S, xs, hk, rfl, rfl, hok, hcap, hW, hS, hcr, hor⟩ := hrel
    clear hc1 ho1 hz1 HK
    have hzr := hor.size
    have hl33 := rOk_len hok
    have HK := Lib.hid hok
    clear hok
    go_wp2_with fail
    refine (l01Below_any 10 g B A c bs _ hb hB hcr (by omega)).mono ?_
    rintro e w2 ⟨y, rfl, hy0, hy1, -, hc2, ho2⟩
    have hy1 := hy1 (by omega)
    replace hW := hW.cur ho2 hS
    have hor2 := hor.trans ho2
    have hz2 := ho2.size
    clear hcr ho2 hor
    by_cases hlt : (k : Int) < y
    · go_wp2_with fail
      refine (l01Below_any 4 g B A c bs _ hb hB hc2 (by omega)).mono ?_
      rintro e w3 ⟨z, rfl, hz0, hz1, -, hc3, ho3⟩
      have hz1 := hz1 (by omega)
      replace hW := hW.cur ho3 hS
      have hor3 := hor2.trans ho3
      have hz3 := ho3.size
      clear hc2 ho3 hor2
      obtain ⟨n, hn⟩ : ∃ n, n = 1 + z := ⟨_, rfl⟩
      have hn1 : 1 ≤ n := by omega
      have hn4 : n ≤ 4 := by omega
      have HN := Lib.hid hn
      by_cases hbst : bst n xs xs.length < 0
      · have HB := Lib.hid hbst
        clear hbst hn
        go_wp2_with fail
        rw [← HN.out]
        refine (rangeTake_s_none pg A1 c1 xs n _ hW.rd (by omega) (by omega) HK.out hn1 HB.out).mono ?_
        rintro e w4 ⟨A4, c4, S4, rfl, hW4, hN4, hb4, hcap4⟩
        have hor4 := hor3.below hb4
        replace hc3 := hc3.below hb4
        have hS4 : ∀ b, S4 b → g < b := fun b h => by have := hN4 b h; omega
        go_wp2
        go_roundw
        case rel => exact ⟨k + 1, A4, c4, S4, xs, by omega, by go_num, rfl, HK.out, hcap4, hW4, hS4, hc3, hor4⟩
        case measure => simp [intOf]; omega
      · have hbb := bst_bd n xs xs.length
        obtain ⟨j, hj⟩ : ∃ j : Nat, bst n xs xs.length = (j : Int) := ⟨(bst n xs xs.length).toNat, by omega⟩
        have hjx := bst_le n xs hj
        have hfit := bst_fit hj hjx
        have HB := Lib.hid hj
        have HT := Lib.hid (rOk_tk HK.out hjx hn1 hfit)
        have HC := Lib.hid (take_put hjx (srt_all HK.out) hn1 hfit).2.2.2
        have hin := rInB_yes (okAt_in hjx ((rOkB_facts HK.out).1 j hjx))
        obtain ⟨ys, hys⟩ : ∃ ys, ys = tkL n xs j := ⟨_, rfl⟩
        have hyl : ys.length ≤ xs.length := by rw [hys]; exact tkL_len _ _ _
        have HY := Lib.hid hys
        rw [← hys] at HC HT
        generalize hu1 : xs[j].1 = u1 at *
        generalize hu2 : xs[j].2 = u2 at *
        have HRT := Lib.hid (fun W h => rangeTake_s_yes (B := W.heap.size) pg A1 c1 xs n W h (by omega) (by unfold maxLen at hcap; exact hcap) (by omega) HK.out hn1 j HB.out hjx)
        rw [hu1, ← HY.out] at HRT
        clear hbst hn hj hbb hys hu1 hu2
        go_wp2_with fail
        rw [← HN.out]
        refine (HRT.out _ hW.rd).mono ?_
        rintro e w4 ⟨A4, c4, S4, rfl, hW4, hN4, hb4, hcap4⟩
        have hor4 := hor3.below hb4
        replace hc3 := hc3.below hb4
        have hS4 : ∀ b, S4 b → g < b := fun b h => by have := hN4 b h; omega
        clear hor3
        go_wp2_with fail
        refine (l01Once_any 3 g B A c bs _ hb hB hc3 (by omega)).mono ?_
        rintro e w5 ⟨once, rfl, hc5, ho5⟩
        replace hW4 := hW4.cur ho5 hS4
        have hor5 := hor4.trans ho5
        have hz5 := ho5.size
        have hz4 := hb4.size
        clear hc3 ho5 hor4
        cases once with
        | false =>
          go_wp2
          go_roundw
          case rel => exact ⟨k + 1, A4, c4, S4, ys, by omega, by go_num, rfl, HT.out, hcap4, hW4, hS4, hc5, hor5⟩
          case measure => simp [intOf]; omega
        | true =>
          have hri : rInB pg (u1 + n - 1, 1) = true := by
            simp only [rInB, Bool.and_eq_true]
            exact ⟨btw_t (by omega) (by omega), btw_t (by omega) (by omega)⟩
          have hno : ∀ x ∈ ys, ovB x (u1 + n - 1, 1) = false := no_ov rfl (fun h => ((HC.out _).1 h).2 (by simp only; omega))
          obtain ⟨zs, i1, -⟩ := ip_ok (r := (u1 + n - 1, 1)) (by simp) (srt_all HT.out) (by simp only; omega) hno
          have HZ := Lib.hid (rOk_put HT.out hri hno i1)
          have hsp := rPut_sp HT.out hri
          rw [show rPut pg ys (u1 + n - 1, 1) = ip (u1 + n - 1, 1) false ys by unfold rPut; rw [HT.out, hri]; rfl, i1] at hsp
          have HPUT := Lib.hid (fun W h => rangePut_s_yes (B := W.heap.size) pg A4 c4 ys (u1 + n - 1) 1 W h (by omega) (by omega) HT.out hri _ rfl)
          have hres : ((sp (u1 + n - 1, 1) false ys).map join).getD ys = zs ∧ (sp (u1 + n - 1, 1) false ys).isSome = true := by
            rw [← hsp]
            cases h : sp (u1 + n - 1, 1) false ys
            · rw [h] at hsp; cases hsp
            · exact ⟨rfl, rfl⟩
          rw [hres.1, hres.2] at HPUT
          clear hsp hres i1 hno hri
          go_wp2_with fail
          refine (HPUT.out _ hW4.rd).mono ?_
          rintro e w6 ⟨A6, c6, S6, rfl, hW6, hN6, hb6, hcap6⟩
          have hor6 := hor5.below hb6
          replace hc5 := hc5.below hb6
          have hS6 : ∀ b, S6 b → g < b := fun b h => by have := hN6 b h; omega
          go_wp2
          go_roundw
          case rel => exact ⟨k + 1, A6, c6, S6, zs, by omega, by go_num, rfl, HZ.out, hcap6, hW6, hS6, hc5, hor6⟩
          case measure => simp [intOf]; omega
    · go_wp2
      go_ret2
      exact ⟨pg, A1, c1, xs, rfl, HK.out, hW.rd, hcap, hor2⟩
end Go.Proofs.Ytfdpplamebmdhaa
