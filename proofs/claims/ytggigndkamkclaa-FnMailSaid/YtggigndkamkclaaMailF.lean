/- InFlight, of the program and of the reference. -/
import Derived.Test.YtggigndkamkclaaMailB
import Derived.Test.YtggigndkamkclaaIntW
import Derived.Test.YtggigndkamkclaaApp
namespace Go.Proofs.Ytggigndkamkclaa
open Go.ChangeShapes Go.WideShapes Go.ChangeAt Go.RowKit
set_option linter.unusedVariables false

def MadeIntSN (xs : List Int) (w : World) (e : Ending) (w' : World) : Prop :=
  ∃ A c S, e = .returned (.slice A xs.length c) ∧ Wr w' S A (iv xs) ∧ New S w w' ∧ Below w.heap.size w w'
def fa (xss : List (List Po)) (k : Nat) : List Int := (xss.take k).flatMap (List.map Prod.snd)
def fb (yss : List (List Int)) (k : Nat) : List Int := (yss.take k).flatten
def inFl (xss : List (List Po)) (yss : List (List Int)) : List Int := if mOkB xss yss then fa xss xss.length ++ fb yss yss.length else []
theorem fa_succ {xss : List (List Po)} {k : Nat} (h : k < xss.length) : fa xss (k + 1) = fa xss k ++ xss[k].map Prod.snd := by
  rw [fa, List.take_succ_eq_append_getElem h, List.flatMap_append]
  simp [fa]
theorem fb_succ {yss : List (List Int)} {k : Nat} (h : k < yss.length) : fb yss (k + 1) = fb yss k ++ yss[k] := by
  rw [fb, List.take_succ_eq_append_getElem h, List.flatten_append]
  simp [fb]
theorem tk_succ {qs : List Po} {j : Nat} (h : j < qs.length) : (qs.take (j + 1)).map Prod.snd = (qs.take j).map Prod.snd ++ [qs[j].2] := by
  rw [List.take_succ_eq_append_getElem h, List.map_append]
  rfl
theorem fa_len (xss : List (List Po)) (k : Nat) : (fa xss k).length = tot (xss.take k) := by
  simp only [fa, tot, List.length_flatMap, List.length_map]
theorem fb_len (yss : List (List Int)) (k : Nat) : (fb yss k).length = tot (yss.take k) := by
  simp [fb, tot, List.length_flatten]
theorem tot_take_le {α : Type} (xss : List (List α)) (k : Nat) : tot (xss.take k) ≤ tot xss := by
  have h : xss = xss.take k ++ xss.drop k := (List.take_append_drop k xss).symm
  have h2 : tot xss = tot (xss.take k) + tot (xss.drop k) := by
    conv => lhs; rw [h]
    simp only [tot, List.map_append, List.sum_append]
  omega
theorem mOk_facts {xss : List (List Po)} {yss : List (List Int)} (h : mOkB xss yss = true) : yss.length = xss.length ∧ xss.length ≤ 4 ∧ tot xss + tot yss ≤ 30 := by
  simp only [mOkB, Bool.and_eq_true, decide_eq_true_eq] at h
  have := of_btw h.1.1.1
  exact ⟨h.1.1.2, by omega, h.2⟩
theorem iv_app (a b : List Int) : iv (a ++ b) = iv a ++ iv b := by simp [iv]
theorem own_lo {w : World} {lo : Nat} {e : TypeId} {size n c m : Nat} {A : Option Addr} {xs : List Value} (h : w.ownsRow lo e size (.slice A n c) m xs) : ∀ y, (∃ o, A = some ⟨y, o, none⟩) → lo ≤ y := by
  rintro y ⟨o, rfl⟩
  rcases h.2 with ⟨hv, _⟩ | ⟨g, cap, cur, hv, hg, _⟩
  · cases hv
  · injection hv with hv
    injection hv with hv
    injection hv with hv
    omega
theorem made_own {w w' : World} {xs : List Int} {lo : Nat} {A : Option Addr} {c : Nat} {n : Nat} (hn : n = xs.length) (h : w'.ownsRow lo 3 1 (.slice A n c) n (iv xs)) (hl : w.heap.size ≤ lo) (hb : Below w.heap.size w w') : MadeIntSN xs w (.returned (.slice A n c)) w' := by
  subst hn
  have ho := Ow.mk' h
  obtain ⟨S, hW, hN⟩ := ho.wr.new w.heap.size (fun b h => by omega)
  exact ⟨A, c, S, rfl, hW, hN, hb⟩
set_option maxHeartbeats 4000000 in
theorem inFlight_i_no (A : Option Addr) (c : Nat) (B : Option Addr) (d : Nat) (xss : List (List Po)) (yss : List (List Int)) (w : World) {B1 B2 : Nat} (hr : Rd2 pv w B1 A xss) (hs : Rd2 iv w B2 B yss) (hn : Rows xss ∧ Rows yss) (hv : mOkB xss yss = false) :
    Calls Try.prog 27 #[.agg #[.slice A xss.length c, .slice B yss.length d]] w (MadeIntSN [] w) := by
  go_enter Try.func27, Try.ntmps27
  go_wp2_with fail
  refine (mailOk_i _ _ _ _ _ _ _ (hr.alloc _) (hs.alloc _) hn _ hv).mono ?_
  rintro e w2 ⟨rfl, hb2⟩
  go_wp2
  refine bodyPost_ret (v := .slice none 0 0) (by simp [results, Try.results27, go_sem]) rfl ⟨none, 0, fun _ => False, rfl, .inl rfl, fun _ h => h.elim, ?_⟩
  (repeat' (first | (with_reducible exact Below.refl _ _) | (with_reducible refine bel_alloc ?_ ?_ _) | (with_reducible refine Below.setCell ?_ ?_ _) | (with_reducible refine below_drewN ?_ _) | (with_reducible refine Below.drew ?_) | (with_reducible refine bel_step hb2 ?_ ?_) | (with_reducible exact Nat.le_refl _) | (with_reducible assumption) | omega | (simp only [World.size_alloc, World.size_setCell, World.size_drew]; omega) | (simp; omega) | (simp; done)))
theorem inFlight_s_no (A : Option Addr) (c : Nat) (B : Option Addr) (d : Nat) (xss : List (List Po)) (yss : List (List Int)) (w : World) {B1 B2 : Nat} (hr : Rd2 pv w B1 A xss) (hs : Rd2 iv w B2 B yss) (hn : Rows xss ∧ Rows yss) (hv : mOkB xss yss = false) :
    Calls Try.prog 28 #[.agg #[.slice A xss.length c, .slice B yss.length d]] w (MadeIntSN [] w) := by
  have hO0 := (own_lit (w := w.alloc (.cells #[.slice A xss.length c, .slice B yss.length d] 29)) (g := w.heap.size + 1) (e := 3) (size := 1) (by simp))
  go_enter Try.func28, Try.ntmps28
  go_wp2_with fail
  refine (mailOk_s _ _ _ _ _ _ _ ((hr.alloc _).alloc _) ((hs.alloc _).alloc _) hn _ hv).mono ?_
  rintro e w2 ⟨rfl, hb2⟩
  replace hO0 := own_below' hO0 hb2
  go_wp2
  go_ret
  exact made_own (n := 0) rfl hO0 (by omega) (by (repeat' (first | (with_reducible exact Below.refl _ _) | (with_reducible refine bel_alloc ?_ ?_ _) | (with_reducible refine Below.setCell ?_ ?_ _) | (with_reducible refine below_drewN ?_ _) | (with_reducible refine Below.drew ?_) | (with_reducible refine bel_step hb2 ?_ ?_) | (with_reducible exact Nat.le_refl _) | (with_reducible assumption) | omega | (simp only [World.size_alloc, World.size_setCell, World.size_drew]; omega) | (simp; omega) | (simp; done))))
set_option maxHeartbeats 4000000 in
theorem inFlight_i_yes (A : Option Addr) (c : Nat) (B : Option Addr) (d : Nat) (xss : List (List Po)) (yss : List (List Int)) (w : World) {B1 B2 : Nat} (hr : Rd2 pv w B1 A xss) (hs : Rd2 iv w B2 B yss) (hn : Rows xss ∧ Rows yss) (hv : mOkB xss yss = true) :
    Calls Try.prog 27 #[.agg #[.slice A xss.length c, .slice B yss.length d]] w (MadeIntSN (fa xss xss.length ++ fb yss yss.length) w) := by
  obtain ⟨hl, hl4, h30⟩ := mOk_facts hv
  have hy4 : yss.length ≤ 4 := by omega
  clear hl
  obtain ⟨i0, hi, iz0, iz1, iz2⟩ := info_parts infoInt
  go_enter Try.func27, Try.ntmps27
  go_wp2_with fail
  refine (mailOk_i _ _ _ _ _ _ _ (hr.alloc _) (hs.alloc _) hn _ hv).mono ?_
  rintro e w2 ⟨rfl, hb2⟩
  have hz2 := hb2.size
  simp only [World.size_alloc] at hz2
  have q0 : w2.cell? ⟨w.heap.size, 0, none⟩ = some (.slice A xss.length c) := keep hb2 (by simp [go_sem])
  have q1 : w2.cell? ⟨w.heap.size, 1, none⟩ = some (.slice B yss.length d) := keep hb2 (by simp [go_sem])
  have hO0 : World.ownsRow (w2.alloc (.cells #[] 3)) w2.heap.size 3 1 (.slice (some ⟨w2.heap.size, 0, none⟩) 0 0) 0 [] := own_lit rfl
  have hql : w.heap.size < w2.heap.size := by omega
  have hbW : Below w.heap.size w w2 := by (repeat' (first | (with_reducible exact Below.refl _ _) | (with_reducible refine bel_alloc ?_ ?_ _) | (with_reducible refine Below.setCell ?_ ?_ _) | (with_reducible refine below_drewN ?_ _) | (with_reducible refine Below.drew ?_) | (with_reducible refine bel_step hb2 ?_ ?_) | (with_reducible exact Nat.le_refl _) | (with_reducible assumption) | omega | (simp only [World.size_alloc, World.size_setCell, World.size_drew]; omega) | (simp; omega) | (simp; done)))
  have HT1 := Lib.hid (tot_take_le xss)
  have HT2 := Lib.hid (tot_take_le yss)
  clear hn hv
  go_wp2
  go_loopw [3, 17] (fun u v wr => ∃ (k : Nat) (A2 : Option Addr) (c2 : Nat) (cur : List Int), k ≤ xss.length ∧ v = .int .i64 k ∧ u = .slice A2 cur.length c2 ∧ cur = fa xss k ∧ wr.ownsRow w2.heap.size 3 1 (.slice A2 cur.length c2) cur.length (iv cur) ∧ wr.cell? ⟨w.heap.size, 0, none⟩ = some (.slice A xss.length c) ∧ wr.cell? ⟨w.heap.size, 1, none⟩ = some (.slice B yss.length d) ∧ w2.heap.size ≤ wr.heap.size ∧ Below w.heap.size w wr) (fun _ v _ => xss.length - (intOf v).toNat)
  case atStart => exact ⟨0, some ⟨w2.heap.size, 0, none⟩, 0, [], Nat.zero_le _, rfl, rfl, rfl, hO0, by first | exact q0 | exact cell_al q0 _, by first | exact q1 | exact cell_al q1 _, by first | omega | (simp; done) | (simp; omega), by (repeat' (first | (with_reducible exact Below.refl _ _) | (with_reducible refine bel_alloc ?_ ?_ _) | (with_reducible refine Below.setCell ?_ ?_ _) | (with_reducible refine below_drewN ?_ _) | (with_reducible refine Below.drew ?_) | (with_reducible refine bel_step hbW ?_ ?_) | (with_reducible exact Nat.le_refl _) | (with_reducible assumption) | omega | (simp only [World.size_alloc, World.size_setCell, World.size_drew]; omega) | (simp; omega) | (simp; done)))⟩
  case round =>
    obtain ⟨k, A2, c2, cur, hk, rfl, rfl, hcur, hown, p0, p1, hg, hbr⟩ := hrel
    have HC := Lib.hid hcur
    have hcl : cur.length ≤ tot xss := by rw [hcur, fa_len]; exact HT1.out k
    clear hcur hO0 q0 q1
    have hp0l := lt_of_cell' p0
    by_cases hlt : k < xss.length
    · obtain ⟨b, off, A1, c1, rfl, -, hc0, hrx⟩ := hr.lt.row hlt
      have hc := keep hbr hc0
      have i0' : (0 : Int) ≤ (k : Int) := by omega
      have i1' : (k : Int) < (xss.length : Int) := by omega
      have HF := Lib.hid (fa_succ hlt)
      have hq30 : cur.length + xss[k].length ≤ tot xss := by
        have h1 := HT1.out (k + 1)
        have h2 := tot_succ hlt
        rw [HC.out, fa_len]
        omega
      obtain ⟨qs, hqs⟩ : ∃ q, q = xss[k] := ⟨_, rfl⟩
      rw [← hqs] at hc0 hc hrx HF hq30
      clear hqs
      go_wp2
      go_loopw [3, 23] (fun u v wx => ∃ (j : Nat) (A3 : Option Addr) (c3 : Nat) (cu2 : List Int), j ≤ qs.length ∧ v = .int .i64 j ∧ u = .slice A3 cu2.length c3 ∧ cu2 = cur ++ (qs.take j).map Prod.snd ∧ wx.ownsRow w2.heap.size 3 1 (.slice A3 cu2.length c3) cu2.length (iv cu2) ∧ wx.cell? ⟨w.heap.size, 0, none⟩ = some (.slice (some ⟨b, off, none⟩) xss.length c) ∧ wx.cell? ⟨w.heap.size, 1, none⟩ = some (.slice B yss.length d) ∧ w2.heap.size ≤ wx.heap.size ∧ Below w.heap.size w wx) (fun _ v _ => qs.length - (intOf v).toNat)
      case atStart => exact ⟨0, A2, c2, cur, Nat.zero_le _, rfl, rfl, by simp, hown, p0, p1, hg, hbr⟩
      case round =>
        obtain ⟨j, A3, c3, cu2, hj, rfl, rfl, hcu2, hown2, p2, p3, hg2, hbx⟩ := hrel
        have HC2 := Lib.hid hcu2
        have hcl2 : cu2.length = cur.length + j := by rw [hcu2]; simp; omega
        replace hc := keep hbx hc0
        have hp2l := lt_of_cell' p2
        clear hcu2 hown p0 p1 hg hbr hp0l
        by_cases hjl : j < qs.length
        · obtain ⟨b3, off3, rfl, -, hx0, hx1⟩ := (hrx.below hbx).pair hjl
          have j0 : (0 : Int) ≤ (j : Int) := by omega
          have j1 : (j : Int) < (qs.length : Int) := by omega
          have HK := Lib.hid (tk_succ hjl)
          obtain ⟨x, hx⟩ : ∃ x, x = qs[j].1 := ⟨_, rfl⟩
          obtain ⟨y, hy⟩ : ∃ y, y = qs[j].2 := ⟨_, rfl⟩
          rw [← hx] at hx0
          rw [← hy] at hx1 HK
          clear hx hy
          have hxl := lt_of_cell' hx0
          have hapt := own_lo hown2
          go_wp2_with (at_builtin; refine wpList_append_ow rfl (.tmp 27) (.tmp 30) _ rfl 3 i0 (.int .i64 0) 1 8 Try.underlying24 hi iz0 iz1 iz2 rfl (by omega) w2.heap.size A3 cu2.length c3 (iv cu2) rfl (own_below' hown2 (((Below.refl _ _).alloc (Nat.le_refl _) _).alloc (by simp) _)) (some ⟨wr.heap.size + 1, 0, none⟩) 1 1 (iv [y]) rfl rfl (Rd.lit (by simp)) (iv_one _) (by unfold maxLen; omega) (by omega) (by simp; omega) ?_; intro A4 c4 w4 hO4 hS4 hA4)
          have hz4 := hS4.size
          simp only [World.size_alloc] at hz4
          go_roundw
          case rel =>
            refine ⟨j + 1, A4, c4, cu2 ++ [y], by omega, by go_num, by first | (rw [List.length_append, hcl2]; rfl) | (rw [List.length_append]; done) | (rw [List.length_append]; rfl), by rw [HC2.out, HK.out, List.append_assoc], by rw [iv_app, List.length_append]; exact hO4, hS4.cell (by first | exact cell_al p2 _ | exact cell_al (cell_al p2 _) _) (fun h => by have := hapt _ h; simp at this; omega), hS4.cell (by first | exact cell_al p3 _ | exact cell_al (cell_al p3 _) _) (fun h => by have := hapt _ h; simp at this; omega), by omega, ?_⟩
            exact bel_outS hS4 (fun y hy => by have := hapt y hy; omega) (by (repeat' (first | (with_reducible exact Below.refl _ _) | (with_reducible refine bel_alloc ?_ ?_ _) | (with_reducible refine Below.setCell ?_ ?_ _) | (with_reducible refine below_drewN ?_ _) | (with_reducible refine Below.drew ?_) | (with_reducible refine bel_step hbx ?_ ?_) | (with_reducible exact Nat.le_refl _) | (with_reducible assumption) | omega | (simp only [World.size_alloc, World.size_setCell, World.size_drew]; omega) | (simp; omega) | (simp; done)))) (Nat.le_refl _)
          case measure => simp [intOf]; omega
        · obtain rfl : j = qs.length := by omega
          go_wp2
          go_roundw
          case rel => exact ⟨k + 1, A3, c3, cu2, by omega, by go_num, rfl, by rw [HC2.out, HF.out, HC.out, List.take_length], hown2, p2, p3, hg2, hbx⟩
          case measure => simp [intOf]; omega
    · obtain rfl : k = xss.length := by omega
      go_wp2
      go_loopw [3, 37] (fun u v wx => ∃ (j : Nat) (A3 : Option Addr) (c3 : Nat) (cu2 : List Int), j ≤ yss.length ∧ v = .int .i64 j ∧ u = .slice A3 cu2.length c3 ∧ cu2 = cur ++ fb yss j ∧ wx.ownsRow w2.heap.size 3 1 (.slice A3 cu2.length c3) cu2.length (iv cu2) ∧ wx.cell? ⟨w.heap.size, 1, none⟩ = some (.slice B yss.length d) ∧ w2.heap.size ≤ wx.heap.size ∧ Below w.heap.size w wx) (fun _ v _ => yss.length - (intOf v).toNat)
      case atStart => exact ⟨0, A2, c2, cur, Nat.zero_le _, rfl, rfl, by simp [fb], hown, p1, hg, hbr⟩
      case round =>
        obtain ⟨j, A3, c3, cu2, hj, rfl, rfl, hcu2, hown2, p3, hg2, hbx⟩ := hrel
        have HC2 := Lib.hid hcu2
        have hcl2 : cu2.length ≤ cur.length + tot yss := by rw [hcu2, List.length_append, fb_len]; have := HT2.out j; omega
        have hp3l := lt_of_cell' p3
        have hcl3 : ∀ h : j < yss.length, cu2.length + yss[j].length ≤ cur.length + tot yss := fun h => by
          rw [hcu2, List.length_append, fb_len]
          have h1 := HT2.out (j + 1)
          have h2 := tot_succ h
          omega
        clear hcu2 hown p0 p1 hg hbr hp0l
        by_cases hjl : j < yss.length
        · obtain ⟨b2, off2, A1, c1, rfl, -, hd0, hsx⟩ := hs.lt.row hjl
          have hd := keep hbx hd0
          have hsx' := hsx.below hbx
          have HF := Lib.hid (fb_succ hjl)
          have hq := hcl3 hjl
          obtain ⟨ps, hps⟩ : ∃ q, q = yss[j] := ⟨_, rfl⟩
          rw [← hps] at hd0 hd hsx hsx' HF hq
          clear hps hcl3
          have HPL := Lib.hid (show (iv ps).length = ps.length * 1 by simp)
          have j0 : (0 : Int) ≤ (j : Int) := by omega
          have j1 : (j : Int) < (yss.length : Int) := by omega
          have hapt := own_lo hown2
          go_wp2_with (at_builtin; refine wpList_append_ow rfl (.tmp 41) (.tmp 42) _ rfl 3 i0 (.int .i64 0) 1 8 Try.underlying24 hi iz0 iz1 iz2 rfl (by omega) w2.heap.size A3 cu2.length c3 (iv cu2) rfl hown2 A1 ps.length c1 (iv ps) rfl HPL.out hsx' (iv_one _) (by unfold maxLen; omega) (by omega) hg2 ?_; intro A4 c4 w4 hO4 hS4 hA4)
          have hz4 := hS4.size
          go_roundw
          case rel =>
            refine ⟨j + 1, A4, c4, cu2 ++ ps, by omega, by go_num, by first | (rw [List.length_append, hcl2]; rfl) | (rw [List.length_append]; done) | (rw [List.length_append]; rfl), by rw [HC2.out, HF.out, List.append_assoc], by rw [iv_app, List.length_append]; exact hO4, hS4.cell p3 (fun h => by have := hapt _ h; first | (simp at this; done) | (simp at this; omega)), by omega, ?_⟩
            exact bel_outS hS4 (fun y hy => by have := hapt y hy; omega) hbx (Nat.le_refl _)
          case measure => simp [intOf]; omega
        · obtain rfl : j = yss.length := by omega
          have HR := Lib.hid (show fa xss xss.length ++ fb yss yss.length = cu2 by rw [HC2.out, HC.out])
          go_wp2
          go_ret
          rw [HR.out]
          exact made_own rfl hown2 (by omega) hbx
set_option maxHeartbeats 4000000 in
theorem inFlight_s_yes (A : Option Addr) (c : Nat) (B : Option Addr) (d : Nat) (xss : List (List Po)) (yss : List (List Int)) (w : World) {B1 B2 : Nat} (hr : Rd2 pv w B1 A xss) (hs : Rd2 iv w B2 B yss) (hn : Rows xss ∧ Rows yss) (hv : mOkB xss yss = true) :
    Calls Try.prog 28 #[.agg #[.slice A xss.length c, .slice B yss.length d]] w (MadeIntSN (fa xss xss.length ++ fb yss yss.length) w) := by
  obtain ⟨hl, hl4, h30⟩ := mOk_facts hv
  have hy4 : yss.length ≤ 4 := by omega
  clear hl
  obtain ⟨i0, hi, iz0, iz1, iz2⟩ := info_parts infoInt
  go_enter Try.func28, Try.ntmps28
  go_wp2_with fail
  refine (mailOk_s _ _ _ _ _ _ _ ((hr.alloc _).alloc _) ((hs.alloc _).alloc _) hn _ hv).mono ?_
  rintro e w2 ⟨rfl, hb2⟩
  have hz2 := hb2.size
  simp only [World.size_alloc] at hz2
  have q0 : w2.cell? ⟨w.heap.size, 0, none⟩ = some (.slice A xss.length c) := keep hb2 (by simp [go_sem])
  have q1 : w2.cell? ⟨w.heap.size, 1, none⟩ = some (.slice B yss.length d) := keep hb2 (by simp [go_sem])
  have hO0 : World.ownsRow w2 (w.heap.size + 1) 3 1 (.slice (some ⟨(w.heap.size + 1), 0, none⟩) 0 0) 0 [] := own_below' (own_lit (by simp)) hb2
  have hql : w.heap.size < w2.heap.size := by omega
  have hbW : Below w.heap.size w w2 := by (repeat' (first | (with_reducible exact Below.refl _ _) | (with_reducible refine bel_alloc ?_ ?_ _) | (with_reducible refine Below.setCell ?_ ?_ _) | (with_reducible refine below_drewN ?_ _) | (with_reducible refine Below.drew ?_) | (with_reducible refine bel_step hb2 ?_ ?_) | (with_reducible exact Nat.le_refl _) | (with_reducible assumption) | omega | (simp only [World.size_alloc, World.size_setCell, World.size_drew]; omega) | (simp; omega) | (simp; done)))
  have HT1 := Lib.hid (tot_take_le xss)
  have HT2 := Lib.hid (tot_take_le yss)
  clear hn hv
  go_wp2
  go_loopw [3, 4] (fun u v wr => ∃ (k : Nat) (A2 : Option Addr) (c2 : Nat) (cur : List Int), k ≤ xss.length ∧ v = .int .i64 k ∧ u = .slice A2 cur.length c2 ∧ cur = fa xss k ∧ wr.ownsRow (w.heap.size + 1) 3 1 (.slice A2 cur.length c2) cur.length (iv cur) ∧ wr.cell? ⟨w.heap.size, 0, none⟩ = some (.slice A xss.length c) ∧ wr.cell? ⟨w.heap.size, 1, none⟩ = some (.slice B yss.length d) ∧ (w.heap.size + 1) ≤ wr.heap.size ∧ Below w.heap.size w wr) (fun _ v _ => xss.length - (intOf v).toNat)
  case atStart => exact ⟨0, some ⟨(w.heap.size + 1), 0, none⟩, 0, [], Nat.zero_le _, rfl, rfl, rfl, hO0, by first | exact q0 | exact cell_al q0 _, by first | exact q1 | exact cell_al q1 _, by first | omega | (simp; done) | (simp; omega), by (repeat' (first | (with_reducible exact Below.refl _ _) | (with_reducible refine bel_alloc ?_ ?_ _) | (with_reducible refine Below.setCell ?_ ?_ _) | (with_reducible refine below_drewN ?_ _) | (with_reducible refine Below.drew ?_) | (with_reducible refine bel_step hbW ?_ ?_) | (with_reducible exact Nat.le_refl _) | (with_reducible assumption) | omega | (simp only [World.size_alloc, World.size_setCell, World.size_drew]; omega) | (simp; omega) | (simp; done)))⟩
  case round =>
    obtain ⟨k, A2, c2, cur, hk, rfl, rfl, hcur, hown, p0, p1, hg, hbr⟩ := hrel
    have HC := Lib.hid hcur
    have hcl : cur.length ≤ tot xss := by rw [hcur, fa_len]; exact HT1.out k
    clear hcur hO0 q0 q1
    have hp0l := lt_of_cell' p0
    by_cases hlt : k < xss.length
    · obtain ⟨b, off, A1, c1, rfl, -, hc0, hrx⟩ := hr.lt.row hlt
      have hc := keep hbr hc0
      have i0' : (0 : Int) ≤ (k : Int) := by omega
      have i1' : (k : Int) < (xss.length : Int) := by omega
      have HF := Lib.hid (fa_succ hlt)
      have hq30 : cur.length + xss[k].length ≤ tot xss := by
        have h1 := HT1.out (k + 1)
        have h2 := tot_succ hlt
        rw [HC.out, fa_len]
        omega
      obtain ⟨qs, hqs⟩ : ∃ q, q = xss[k] := ⟨_, rfl⟩
      rw [← hqs] at hc0 hc hrx HF hq30
      clear hqs
      go_wp2
      go_loopw [3, 5] (fun u v wx => ∃ (j : Nat) (A3 : Option Addr) (c3 : Nat) (cu2 : List Int), j ≤ qs.length ∧ v = .int .i64 j ∧ u = .slice A3 cu2.length c3 ∧ cu2 = cur ++ (qs.take j).map Prod.snd ∧ wx.ownsRow (w.heap.size + 1) 3 1 (.slice A3 cu2.length c3) cu2.length (iv cu2) ∧ wx.cell? ⟨w.heap.size, 0, none⟩ = some (.slice (some ⟨b, off, none⟩) xss.length c) ∧ wx.cell? ⟨w.heap.size, 1, none⟩ = some (.slice B yss.length d) ∧ (w.heap.size + 1) ≤ wx.heap.size ∧ Below w.heap.size w wx) (fun _ v _ => qs.length - (intOf v).toNat)
      case atStart => exact ⟨0, A2, c2, cur, Nat.zero_le _, rfl, rfl, by simp, hown, p0, p1, hg, hbr⟩
      case round =>
        obtain ⟨j, A3, c3, cu2, hj, rfl, rfl, hcu2, hown2, p2, p3, hg2, hbx⟩ := hrel
        have HC2 := Lib.hid hcu2
        have hcl2 : cu2.length = cur.length + j := by rw [hcu2]; simp; omega
        replace hc := keep hbx hc0
        have hp2l := lt_of_cell' p2
        clear hcu2 hown p0 p1 hg hbr hp0l
        by_cases hjl : j < qs.length
        · obtain ⟨b3, off3, rfl, -, hx0, hx1⟩ := (hrx.below hbx).pair hjl
          have j0 : (0 : Int) ≤ (j : Int) := by omega
          have j1 : (j : Int) < (qs.length : Int) := by omega
          have HK := Lib.hid (tk_succ hjl)
          obtain ⟨x, hx⟩ : ∃ x, x = qs[j].1 := ⟨_, rfl⟩
          obtain ⟨y, hy⟩ : ∃ y, y = qs[j].2 := ⟨_, rfl⟩
          rw [← hx] at hx0
          rw [← hy] at hx1 HK
          clear hx hy
          have hxl := lt_of_cell' hx0
          have hapt := own_lo hown2
          go_wp2_with (at_builtin; refine wpList_append_ow rfl (.tmp 29) (.tmp 39) _ rfl 3 i0 (.int .i64 0) 1 8 Try.underlying24 hi iz0 iz1 iz2 rfl (by omega) (w.heap.size + 1) A3 cu2.length c3 (iv cu2) rfl (own_below' hown2 ((Below.refl _ _).alloc (Nat.le_refl _) _)) (some ⟨wr.heap.size, 0, none⟩) 1 1 (iv [y]) rfl rfl (Rd.lit (by simp)) (iv_one _) (by unfold maxLen; omega) (by omega) (by simp; omega) ?_; intro A4 c4 w4 hO4 hS4 hA4)
          have hz4 := hS4.size
          simp only [World.size_alloc] at hz4
          go_roundw
          case rel =>
            refine ⟨j + 1, A4, c4, cu2 ++ [y], by omega, by go_num, by first | (rw [List.length_append, hcl2]; rfl) | (rw [List.length_append]; done) | (rw [List.length_append]; rfl), by rw [HC2.out, HK.out, List.append_assoc], by rw [iv_app, List.length_append]; exact hO4, hS4.cell (by first | exact cell_al p2 _ | exact cell_al (cell_al p2 _) _) (fun h => by have := hapt _ h; simp at this; omega), hS4.cell (by first | exact cell_al p3 _ | exact cell_al (cell_al p3 _) _) (fun h => by have := hapt _ h; simp at this; omega), by omega, ?_⟩
            exact bel_outS hS4 (fun y hy => by have := hapt y hy; omega) (by (repeat' (first | (with_reducible exact Below.refl _ _) | (with_reducible refine bel_alloc ?_ ?_ _) | (with_reducible refine Below.setCell ?_ ?_ _) | (with_reducible refine below_drewN ?_ _) | (with_reducible refine Below.drew ?_) | (with_reducible refine bel_step hbx ?_ ?_) | (with_reducible exact Nat.le_refl _) | (with_reducible assumption) | omega | (simp only [World.size_alloc, World.size_setCell, World.size_drew]; omega) | (simp; omega) | (simp; done)))) (Nat.le_refl _)
          case measure => simp [intOf]; omega
        · obtain rfl : j = qs.length := by omega
          go_wp2
          go_roundw
          case rel => exact ⟨k + 1, A3, c3, cu2, by omega, by go_num, rfl, by rw [HC2.out, HF.out, HC.out, List.take_length], hown2, p2, p3, hg2, hbx⟩
          case measure => simp [intOf]; omega
    · obtain rfl : k = xss.length := by omega
      go_wp2
      go_loopw [3, 6] (fun u v wx => ∃ (j : Nat) (A3 : Option Addr) (c3 : Nat) (cu2 : List Int), j ≤ yss.length ∧ v = .int .i64 j ∧ u = .slice A3 cu2.length c3 ∧ cu2 = cur ++ fb yss j ∧ wx.ownsRow (w.heap.size + 1) 3 1 (.slice A3 cu2.length c3) cu2.length (iv cu2) ∧ wx.cell? ⟨w.heap.size, 1, none⟩ = some (.slice B yss.length d) ∧ (w.heap.size + 1) ≤ wx.heap.size ∧ Below w.heap.size w wx) (fun _ v _ => yss.length - (intOf v).toNat)
      case atStart => exact ⟨0, A2, c2, cur, Nat.zero_le _, rfl, rfl, by simp [fb], hown, p1, hg, hbr⟩
      case round =>
        obtain ⟨j, A3, c3, cu2, hj, rfl, rfl, hcu2, hown2, p3, hg2, hbx⟩ := hrel
        have HC2 := Lib.hid hcu2
        have hcl2 : cu2.length ≤ cur.length + tot yss := by rw [hcu2, List.length_append, fb_len]; have := HT2.out j; omega
        have hp3l := lt_of_cell' p3
        have hcl3 : ∀ h : j < yss.length, cu2.length + yss[j].length ≤ cur.length + tot yss := fun h => by
          rw [hcu2, List.length_append, fb_len]
          have h1 := HT2.out (j + 1)
          have h2 := tot_succ h
          omega
        clear hcu2 hown p0 p1 hg hbr hp0l
        by_cases hjl : j < yss.length
        · obtain ⟨b2, off2, A1, c1, rfl, -, hd0, hsx⟩ := hs.lt.row hjl
          have hd := keep hbx hd0
          have hsx' := hsx.below hbx
          have HF := Lib.hid (fb_succ hjl)
          have hq := hcl3 hjl
          obtain ⟨ps, hps⟩ : ∃ q, q = yss[j] := ⟨_, rfl⟩
          rw [← hps] at hd0 hd hsx hsx' HF hq
          clear hps hcl3
          have HPL := Lib.hid (show (iv ps).length = ps.length * 1 by simp)
          have j0 : (0 : Int) ≤ (j : Int) := by omega
          have j1 : (j : Int) < (yss.length : Int) := by omega
          have hapt := own_lo hown2
          go_wp2_with (at_builtin; refine wpList_append_ow rfl (.tmp 48) (.tmp 53) _ rfl 3 i0 (.int .i64 0) 1 8 Try.underlying24 hi iz0 iz1 iz2 rfl (by omega) (w.heap.size + 1) A3 cu2.length c3 (iv cu2) rfl hown2 A1 ps.length c1 (iv ps) rfl HPL.out hsx' (iv_one _) (by unfold maxLen; omega) (by omega) hg2 ?_; intro A4 c4 w4 hO4 hS4 hA4)
          have hz4 := hS4.size
          go_roundw
          case rel =>
            refine ⟨j + 1, A4, c4, cu2 ++ ps, by omega, by go_num, by first | (rw [List.length_append, hcl2]; rfl) | (rw [List.length_append]; done) | (rw [List.length_append]; rfl), by rw [HC2.out, HF.out, List.append_assoc], by rw [iv_app, List.length_append]; exact hO4, hS4.cell p3 (fun h => by have := hapt _ h; first | (simp at this; done) | (simp at this; omega)), by omega, ?_⟩
            exact bel_outS hS4 (fun y hy => by have := hapt y hy; omega) hbx (Nat.le_refl _)
          case measure => simp [intOf]; omega
        · obtain rfl : j = yss.length := by omega
          have HR := Lib.hid (show fa xss xss.length ++ fb yss yss.length = cu2 by rw [HC2.out, HC.out])
          go_wp2
          go_ret
          rw [HR.out]
          exact made_own rfl hown2 (by omega) hbx
end Go.Proofs.Ytggigndkamkclaa
