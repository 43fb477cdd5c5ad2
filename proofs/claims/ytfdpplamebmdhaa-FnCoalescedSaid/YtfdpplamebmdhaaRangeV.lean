/- RangePut, of the reference. -/
import Derived.Test.YtfdpplamebmdhaaRangeJ
import Derived.Test.YtfdpplamebmdhaaRangeU2
namespace Go.Proofs.Ytfdpplamebmdhaa
open Go.ChangeShapes Go.WideShapes Go.ChangeAt Go.RowKit
set_option linter.unusedVariables false

set_option maxHeartbeats 4000000 in
set_option maxRecDepth 100000 in
theorem rangePut_s_no (pages : Int) (A : Option Addr) (c : Nat) (xs : List Rg) (a b : Int) (w : World) {B : Nat} (hr : Rd w B A (pv xs)) (hn : xs.length ≤ 1048576) (hpg : -9223372036854775808 ≤ pages ∧ pages ≤ 9223372036854775807) (hno : rOkB pages xs = false ∨ rInB pages (a, b) = false) :
    Calls Try.prog 31 #[.int .i64 pages, .slice A xs.length c, .agg #[.int .i64 a, .int .i64 b]] w (MadeRP xs false w) := by
  have CO := fun W (h : Rd W W.heap.size A (pv xs)) => rangesOk_s pages A c xs W h hn hpg
  have CI := fun W => rangeIn_s pages a b W hpg
  cases hv : rOkB pages xs with
  | false =>
    rw [hv] at CO
    have CO := Lib.hid CO
    clear CI hno hv
    obtain ⟨i0, hi, iz0, iz1, iz2⟩ := info_parts infoRange
    have HL := Lib.hid (pv_length xs)
    have hr0 := hr.lt
    go_enter Try.func31, Try.ntmps31
    go_wp2_with (at_builtin; refine wpList_append_new rfl (.tmp 13) (.tmp 14) _ rfl 42 i0 (.agg #[.int .i64 0, .int .i64 0]) 2 16 Try.underlying25 hi iz0 iz1 iz2 rfl (by omega) (w.heap.size + 1) rfl (own_lit (by simp)) A xs.length c (pv xs) rfl HL.out ((hr.alloc _).alloc _) (pv_one _) (by unfold maxLen; omega) (by omega) (by simp) ?_; intro A8 c8 w1 ho8 hS8 hA8)
    have hr1 := (((hr0.alloc (.cells #[.int .i64 a, .int .i64 b] 42)).alloc (.cells #[] 42)).outS hS8 (fun b hb => by rw [hb]; omega))
    have q0 : w1.cell? ⟨w.heap.size, 0, none⟩ = some (.int .i64 a) := hS8.cell (by simp [go_sem]) (fun h => by simp at h)
    have q1 : w1.cell? ⟨w.heap.size, 1, none⟩ = some (.int .i64 b) := hS8.cell (by simp [go_sem]) (fun h => by simp at h)
    have hb1 : Below w.heap.size w w1 := bel_outS hS8 (fun b hb => by rw [hb]; omega) (by (repeat' (first | (with_reducible exact Below.refl _ _) | (with_reducible refine bel_alloc ?_ ?_ _) | (with_reducible refine Below.setCell ?_ ?_ _) | (with_reducible refine below_drewN ?_ _) | (with_reducible refine Below.drew ?_) | (with_reducible exact Nat.le_refl _) | (with_reducible assumption) | omega | (simp only [World.size_alloc, World.size_setCell, World.size_drew]; omega) | (simp; omega) | (simp; done)))) (Nat.le_refl _)
    have hz1 := hS8.size
    simp only [World.size_alloc] at hz1
    clear hS8 hA8
    refine (CO.out _ hr1.lt).mono ?_
    rintro e w2 ⟨rfl, hb2⟩
    replace hr1 := hr1.below hb2
    replace q0 := keep hb2 q0
    replace q1 := keep hb2 q1
    replace ho8 := ho8.below hb2
    have hz2 := hb2.size
    have HB := Lib.hid (show Below w.heap.size w w2 by (repeat' (first | (with_reducible exact Below.refl _ _) | (with_reducible refine bel_alloc ?_ ?_ _) | (with_reducible refine Below.setCell ?_ ?_ _) | (with_reducible refine below_drewN ?_ _) | (with_reducible refine Below.drew ?_) | (with_reducible refine bel_step hb1 ?_ ?_) | (with_reducible refine bel_step hb2 ?_ ?_) | (with_reducible exact Nat.le_refl _) | (with_reducible assumption) | omega | (simp only [World.size_alloc, World.size_setCell, World.size_drew]; omega) | (simp; omega) | (simp; done))))
    go_wp2
    go_ret2
    exact made_rp rfl ho8.1 (by omega) HB.out
  | true =>
    have hi := hno.resolve_left (by rw [hv]; simp)
    rw [hv] at CO
    rw [hi] at CI
    have CO := Lib.hid CO
    have CI := Lib.hid CI
    clear hno hv hi
    obtain ⟨i0, hi, iz0, iz1, iz2⟩ := info_parts infoRange
    have HL := Lib.hid (pv_length xs)
    have hr0 := hr.lt
    go_enter Try.func31, Try.ntmps31
    go_wp2_with (at_builtin; refine wpList_append_new rfl (.tmp 13) (.tmp 14) _ rfl 42 i0 (.agg #[.int .i64 0, .int .i64 0]) 2 16 Try.underlying25 hi iz0 iz1 iz2 rfl (by omega) (w.heap.size + 1) rfl (own_lit (by simp)) A xs.length c (pv xs) rfl HL.out ((hr.alloc _).alloc _) (pv_one _) (by unfold maxLen; omega) (by omega) (by simp) ?_; intro A8 c8 w1 ho8 hS8 hA8)
    have hr1 := (((hr0.alloc (.cells #[.int .i64 a, .int .i64 b] 42)).alloc (.cells #[] 42)).outS hS8 (fun b hb => by rw [hb]; omega))
    have q0 : w1.cell? ⟨w.heap.size, 0, none⟩ = some (.int .i64 a) := hS8.cell (by simp [go_sem]) (fun h => by simp at h)
    have q1 : w1.cell? ⟨w.heap.size, 1, none⟩ = some (.int .i64 b) := hS8.cell (by simp [go_sem]) (fun h => by simp at h)
    have hb1 : Below w.heap.size w w1 := bel_outS hS8 (fun b hb => by rw [hb]; omega) (by (repeat' (first | (with_reducible exact Below.refl _ _) | (with_reducible refine bel_alloc ?_ ?_ _) | (with_reducible refine Below.setCell ?_ ?_ _) | (with_reducible refine below_drewN ?_ _) | (with_reducible refine Below.drew ?_) | (with_reducible exact Nat.le_refl _) | (with_reducible assumption) | omega | (simp only [World.size_alloc, World.size_setCell, World.size_drew]; omega) | (simp; omega) | (simp; done)))) (Nat.le_refl _)
    have hz1 := hS8.size
    simp only [World.size_alloc] at hz1
    clear hS8 hA8
    refine (CO.out _ hr1.lt).mono ?_
    rintro e w2 ⟨rfl, hb2⟩
    replace hr1 := hr1.below hb2
    replace q0 := keep hb2 q0
    replace q1 := keep hb2 q1
    replace ho8 := ho8.below hb2
    have hz2 := hb2.size
    go_wp2_with fail
    refine (CI.out _).mono ?_
    rintro e w3 ⟨rfl, hb3⟩
    have HB := Lib.hid (show Below w.heap.size w w3 by (repeat' (first | (with_reducible exact Below.refl _ _) | (with_reducible refine bel_alloc ?_ ?_ _) | (with_reducible refine Below.setCell ?_ ?_ _) | (with_reducible refine below_drewN ?_ _) | (with_reducible refine Below.drew ?_) | (with_reducible refine bel_step hb1 ?_ ?_) | (with_reducible refine bel_step hb2 ?_ ?_) | (with_reducible refine bel_step hb3 ?_ ?_) | (with_reducible exact Nat.le_refl _) | (with_reducible assumption) | omega | (simp only [World.size_alloc, World.size_setCell, World.size_drew]; omega) | (simp; omega) | (simp; done))))
    replace ho8 := ho8.below hb3
    go_wp2
    go_ret2
    exact made_rp rfl ho8.1 (by omega) HB.out
set_option maxHeartbeats 8000000 in
set_option maxRecDepth 100000 in
theorem rangePut_s_yes (pages : Int) (A : Option Addr) (c : Nat) (xs : List Rg) (a b : Int) (w : World) {B : Nat} (hr : Rd w B A (pv xs)) (hn : xs.length ≤ 1048576) (hpg : -9223372036854775808 ≤ pages ∧ pages ≤ 9223372036854775807) (h1 : rOkB pages xs = true) (h2 : rInB pages (a, b) = true) (res : Option (List Rg)) (hres : sp (a, b) false xs = res) :
    Calls Try.prog 31 #[.int .i64 pages, .slice A xs.length c, .agg #[.int .i64 a, .int .i64 b]] w (MadeRP ((res.map join).getD xs) res.isSome w) := by
  obtain ⟨hall, hp1, hp32⟩ := rOkB_facts h1
  have hl33 := rOk_len h1
  have HX := Lib.hid (show ∀ j (hj : j < xs.length), 0 ≤ xs[j].1 ∧ 1 ≤ xs[j].2 ∧ xs[j].1 + xs[j].2 ≤ 32 from fun j hj => by have := rInB_yes (okAt_in hj (hall j hj)); omega)
  have hab := rInB_yes h2
  have hab0 : 0 ≤ a := by omega
  have hab1 : 1 ≤ b := by omega
  have hab2 : a + b ≤ 32 := by omega
  have CO := fun W (h : Rd W W.heap.size A (pv xs)) => rangesOk_s pages A c xs W h hn hpg
  have CI := fun W => rangeIn_s pages a b W hpg
  rw [h1] at CO
  rw [h2] at CI
  have CO := Lib.hid CO
  have CI := Lib.hid CI
  have HRES := Lib.hid hres
  clear h1 h2 hres hall hab hp1 hp32
  obtain ⟨i0, hi, iz0, iz1, iz2⟩ := info_parts infoRange
  have HL := Lib.hid (pv_length xs)
  have hr0 := hr.lt
  go_enter Try.func31, Try.ntmps31
  go_wp2_with (at_builtin; refine wpList_append_new rfl (.tmp 13) (.tmp 14) _ rfl 42 i0 (.agg #[.int .i64 0, .int .i64 0]) 2 16 Try.underlying25 hi iz0 iz1 iz2 rfl (by omega) (w.heap.size + 1) rfl (own_lit (by simp)) A xs.length c (pv xs) rfl HL.out ((hr.alloc _).alloc _) (pv_one _) (by unfold maxLen; omega) (by omega) (by simp) ?_; intro A8 c8 w1 ho8 hS8 hA8)
  have hr1 := (((hr0.alloc (.cells #[.int .i64 a, .int .i64 b] 42)).alloc (.cells #[] 42)).outS hS8 (fun b hb => by rw [hb]; omega))
  have q0 : w1.cell? ⟨w.heap.size, 0, none⟩ = some (.int .i64 a) := hS8.cell (by simp [go_sem]) (fun h => by simp at h)
  have q1 : w1.cell? ⟨w.heap.size, 1, none⟩ = some (.int .i64 b) := hS8.cell (by simp [go_sem]) (fun h => by simp at h)
  have hb1 : Below w.heap.size w w1 := bel_outS hS8 (fun b hb => by rw [hb]; omega) (by (repeat' (first | (with_reducible exact Below.refl _ _) | (with_reducible refine bel_alloc ?_ ?_ _) | (with_reducible refine Below.setCell ?_ ?_ _) | (with_reducible refine below_drewN ?_ _) | (with_reducible refine Below.drew ?_) | (with_reducible exact Nat.le_refl _) | (with_reducible assumption) | omega | (simp only [World.size_alloc, World.size_setCell, World.size_drew]; omega) | (simp; omega) | (simp; done)))) (Nat.le_refl _)
  have hz1 := hS8.size
  simp only [World.size_alloc] at hz1
  clear hS8 hA8
  refine (CO.out _ hr1.lt).mono ?_
  rintro e w2 ⟨rfl, hb2⟩
  replace hr1 := hr1.below hb2
  replace q0 := keep hb2 q0
  replace q1 := keep hb2 q1
  replace ho8 := ho8.below hb2
  have hz2 := hb2.size
  go_wp2_with fail
  refine (CI.out _).mono ?_
  rintro e w3 ⟨rfl, hb3⟩
  replace hr1 := hr1.below hb3
  replace q0 := keep hb3 q0
  replace q1 := keep hb3 q1
  replace ho8 := ho8.below hb3
  have hz3 := hb3.size
  have hbW : Below w.heap.size w w3 := by (repeat' (first | (with_reducible exact Below.refl _ _) | (with_reducible refine bel_alloc ?_ ?_ _) | (with_reducible refine Below.setCell ?_ ?_ _) | (with_reducible refine below_drewN ?_ _) | (with_reducible refine Below.drew ?_) | (with_reducible refine bel_step hb1 ?_ ?_) | (with_reducible refine bel_step hb2 ?_ ?_) | (with_reducible refine bel_step hb3 ?_ ?_) | (with_reducible exact Nat.le_refl _) | (with_reducible assumption) | omega | (simp only [World.size_alloc, World.size_setCell, World.size_drew]; omega) | (simp; omega) | (simp; done)))
  obtain ⟨G, hG⟩ : ∃ G, G = w3.heap.size := ⟨_, rfl⟩
  have hO0 : (w3.alloc (.cells #[] 42)).ownsRow G 42 2 (.slice (some ⟨G, 0, none⟩) 0 0) 0 [] := own_lit hG
  replace ho8 := ho8.mono (hi' := G) (Nat.le_refl _) (by omega)
  have HGE := Lib.hid hG
  have hGw : w.heap.size + 1 < G + 1 := by omega
  clear hG hb1 hb2 hb3 hz1 hz2 hz3 hr1
  go_wp2
  go_loopw [9, 10, 11] (fun v9 v10 v11 wr => ∃ (k : Nat) (A2 : Option Addr) (c2 : Nat) (cur : List Rg) (pt : Bool), k ≤ xs.length ∧ v11 = .int .i64 k ∧ v9 = .slice A2 cur.length c2 ∧ v10 = .bool pt ∧ cur.length ≤ 2 * k ∧ wr.ownsRow G 42 2 (.slice A2 cur.length c2) cur.length (pv cur) ∧ Ow wr (w.heap.size + 1) G 42 2 A8 xs.length c8 (pv xs) ∧ wr.cell? ⟨w.heap.size, 0, none⟩ = some (.int .i64 a) ∧ wr.cell? ⟨w.heap.size, 1, none⟩ = some (.int .i64 b) ∧ (sp (a, b) pt (xs.drop k)).map (fun t => cur ++ t) = res ∧ (∀ x ∈ cur, B32 x) ∧ G ≤ wr.heap.size ∧ Below w.heap.size w wr) (fun _ _ v _ => xs.length - (intOf v).toNat)
  case atStart => exact ⟨0, some ⟨w3.heap.size, 0, none⟩, 0, [], false, Nat.zero_le _, rfl, rfl, rfl, by simp, by rw [← HGE.out]; exact hO0, ho8.alloc _, cell_al q0 _, cell_al q1 _, by rw [List.drop_zero, HRES.out]; cases res <;> simp, by simp, by rw [HGE.out]; simp, by (repeat' (first | (with_reducible exact Below.refl _ _) | (with_reducible refine bel_alloc ?_ ?_ _) | (with_reducible refine Below.setCell ?_ ?_ _) | (with_reducible refine below_drewN ?_ _) | (with_reducible refine Below.drew ?_) | (with_reducible refine bel_step hbW ?_ ?_) | (with_reducible exact Nat.le_refl _) | (with_reducible assumption) | omega | (simp only [World.size_alloc, World.size_setCell, World.size_drew]; omega) | (simp; omega) | (simp; done)))⟩
  case round =>
    clear ho8 q0 q1 hO0 hbW
    obtain ⟨k, A2, c2, cur, pt, hk, rfl, rfl, rfl, hcl, hown, ho8, q0, q1, hip, hcb, hg, hbr⟩ := hrel
    have HIP := Lib.hid hip
    have HCB := Lib.hid hcb
    have hapt := own_lo' hown
    have hapu : ∀ y, (∃ o, A2 = some ⟨y, o, none⟩) → y < wr.heap.size := fun y hy => by obtain ⟨o, ho⟩ := hy; exact (Ow.mk' hown).2 _ ho
    have lq := lt_of_cell' q0
    clear hip hcb
    by_cases hlt : k < xs.length
    · obtain ⟨b3, off3, rfl, -, hx0, hx1⟩ := (hr.lt.below hbr).pair hlt
      have hxb := HX.out k hlt
      have HD := Lib.hid (List.drop_eq_getElem_cons hlt)
      obtain ⟨x1, hx1e⟩ : ∃ x, x = xs[k].1 := ⟨_, rfl⟩
      obtain ⟨x2, hx2e⟩ : ∃ y, y = xs[k].2 := ⟨_, rfl⟩
      have HXE := Lib.hid (show xs[k] = (x1, x2) by rw [hx1e, hx2e])
      rw [← hx1e] at hx0 hxb
      rw [← hx2e] at hx1 hxb
      clear hx1e hx2e
      obtain ⟨D, hDe⟩ : ∃ D, D = xs.drop (k + 1) := ⟨_, rfl⟩
      have HR := Lib.hid (show (sp (a, b) pt ((x1, x2) :: D)).map (fun t => cur ++ t) = res by rw [hDe, ← HXE.out, ← HD.out]; exact HIP.out)
      have HDE := Lib.hid hDe
      clear hDe
      have lx := lt_of_cell' hx0
      obtain ⟨hx0b, hx1b, hx2b⟩ := hxb
      have i0k : (0 : Int) ≤ (k : Int) := by omega
      have i1k : (k : Int) < (xs.length : Int) := by omega
      by_cases h1 : x1 < a + b
      · by_cases h2 : a < x1 + x2
        · have HN := Lib.hid (show res = none by rw [← HR.out]; simp [sp, ovB_t (x := (x1, x2)) (r := (a, b)) ⟨h1, h2⟩])
          go_wp2
          go_ret2
          rw [HN.out]
          exact made_rp (xs := xs) (ok := false) rfl (ho8.alloc _).1 (by omega) (by (repeat' (first | (with_reducible exact Below.refl _ _) | (with_reducible refine bel_alloc ?_ ?_ _) | (with_reducible refine Below.setCell ?_ ?_ _) | (with_reducible refine below_drewN ?_ _) | (with_reducible refine Below.drew ?_) | (with_reducible refine bel_step hbr ?_ ?_) | (with_reducible exact Nat.le_refl _) | (with_reducible assumption) | omega | (simp only [World.size_alloc, World.size_setCell, World.size_drew]; omega) | (simp; omega) | (simp; done))))
        · have hov : ovB (x1, x2) (a, b) = false := ovB_f (by simp only; omega)
          have m3 : ¬ a < x1 := by omega
          cases pt
          · have HN := Lib.hid (show (sp (a, b) false D).map (fun t => (cur ++ [(x1, x2)]) ++ t) = res by rw [← HR.out]; simp [sp, hov, m3, Option.map_map, Function.comp_def])
            clear hov
            go_wp2_with (at_builtin; refine wpList_append_ow rfl (.tmp 70) (.tmp 72) _ rfl 42 i0 (.agg #[.int .i64 0, .int .i64 0]) 2 16 Try.underlying25 hi iz0 iz1 iz2 rfl (by omega) G A2 (cur.length) c2 (pv (cur)) rfl (own_below' hown (by (repeat' (first | (with_reducible exact Below.refl _ _) | (with_reducible refine bel_alloc ?_ ?_ _) | (with_reducible refine Below.setCell ?_ ?_ _) | (with_reducible refine below_drewN ?_ _) | (with_reducible refine Below.drew ?_) | (with_reducible exact Nat.le_refl _) | (with_reducible assumption) | omega | (simp only [World.size_alloc, World.size_setCell, World.size_drew]; omega) | (simp; omega) | (simp; done))))) (some ⟨wr.heap.size + 1, 0, none⟩) 1 1 (pv [(x1, x2)]) rfl rfl (Rd.lit (by simp)) (pv_one _) (by unfold maxLen; omega) (by omega) (by simp; omega) ?_; intro A4 c4 w4 hO4 hS4 hA4)
            have hz4 := hS4.size
            simp only [World.size_alloc] at hz4
            rw [← pv_app] at hO4
            go_roundw
            case rel =>
              refine ⟨k + 1, A4, c4, cur ++ [(x1, x2)], false, by omega, by go_num, by rw [List.length_append]; rfl, rfl, by simp; omega, by rw [List.length_append]; exact hO4, ((ho8.alloc _).alloc _).outS hS4 (fun y hy => .inr (hapt y hy)), hS4.cell (cell_al (cell_al q0 _) _) (fun h => by have := hapt _ h; simp at this; omega), hS4.cell (cell_al (cell_al q1 _) _) (fun h => by have := hapt _ h; simp at this; omega), by rw [← HDE.out]; exact HN.out, ?_, by omega, ?_⟩
              · intro z hz
                rcases List.mem_append.1 hz with hz | hz
                · exact HCB.out z hz
                · simp at hz
                  subst hz
                  exact ⟨hx0b, hx1b, hx2b⟩
              · exact bel_outS hS4 (fun y hy => by have := hapt y hy; omega) (by (repeat' (first | (with_reducible exact Below.refl _ _) | (with_reducible refine bel_alloc ?_ ?_ _) | (with_reducible refine Below.setCell ?_ ?_ _) | (with_reducible refine below_drewN ?_ _) | (with_reducible refine Below.drew ?_) | (with_reducible refine bel_step hbr ?_ ?_) | (with_reducible exact Nat.le_refl _) | (with_reducible assumption) | omega | (simp only [World.size_alloc, World.size_setCell, World.size_drew]; omega) | (simp; omega) | (simp; done)))) (Nat.le_refl _)
            case measure => simp [intOf]; omega
          · have HN := Lib.hid (show (sp (a, b) true D).map (fun t => (cur ++ [(x1, x2)]) ++ t) = res by rw [← HR.out]; simp [sp, hov, Option.map_map, Function.comp_def])
            clear hov
            go_wp2_with (at_builtin; refine wpList_append_ow rfl (.tmp 70) (.tmp 72) _ rfl 42 i0 (.agg #[.int .i64 0, .int .i64 0]) 2 16 Try.underlying25 hi iz0 iz1 iz2 rfl (by omega) G A2 (cur.length) c2 (pv (cur)) rfl (own_below' hown (by (repeat' (first | (with_reducible exact Below.refl _ _) | (with_reducible refine bel_alloc ?_ ?_ _) | (with_reducible refine Below.setCell ?_ ?_ _) | (with_reducible refine below_drewN ?_ _) | (with_reducible refine Below.drew ?_) | (with_reducible exact Nat.le_refl _) | (with_reducible assumption) | omega | (simp only [World.size_alloc, World.size_setCell, World.size_drew]; omega) | (simp; omega) | (simp; done))))) (some ⟨wr.heap.size + 1, 0, none⟩) 1 1 (pv [(x1, x2)]) rfl rfl (Rd.lit (by simp)) (pv_one _) (by unfold maxLen; omega) (by omega) (by simp; omega) ?_; intro A4 c4 w4 hO4 hS4 hA4)
            have hz4 := hS4.size
            simp only [World.size_alloc] at hz4
            rw [← pv_app] at hO4
            go_roundw
            case rel =>
              refine ⟨k + 1, A4, c4, cur ++ [(x1, x2)], true, by omega, by go_num, by rw [List.length_append]; rfl, rfl, by simp; omega, by rw [List.length_append]; exact hO4, ((ho8.alloc _).alloc _).outS hS4 (fun y hy => .inr (hapt y hy)), hS4.cell (cell_al (cell_al q0 _) _) (fun h => by have := hapt _ h; simp at this; omega), hS4.cell (cell_al (cell_al q1 _) _) (fun h => by have := hapt _ h; simp at this; omega), by rw [← HDE.out]; exact HN.out, ?_, by omega, ?_⟩
              · intro z hz
                rcases List.mem_append.1 hz with hz | hz
                · exact HCB.out z hz
                · simp at hz
                  subst hz
                  exact ⟨hx0b, hx1b, hx2b⟩
              · exact bel_outS hS4 (fun y hy => by have := hapt y hy; omega) (by (repeat' (first | (with_reducible exact Below.refl _ _) | (with_reducible refine bel_alloc ?_ ?_ _) | (with_reducible refine Below.setCell ?_ ?_ _) | (with_reducible refine below_drewN ?_ _) | (with_reducible refine Below.drew ?_) | (with_reducible refine bel_step hbr ?_ ?_) | (with_reducible exact Nat.le_refl _) | (with_reducible assumption) | omega | (simp only [World.size_alloc, World.size_setCell, World.size_drew]; omega) | (simp; omega) | (simp; done)))) (Nat.le_refl _)
            case measure => simp [intOf]; omega
      · have hov : ovB (x1, x2) (a, b) = false := ovB_f (by simp only; omega)
        have m3 : a < x1 := by omega
        cases pt
        · have HN := Lib.hid (show (sp (a, b) true D).map (fun t => ((cur ++ [(a, b)]) ++ [(x1, x2)]) ++ t) = res by rw [← HR.out]; simp [sp, hov, m3, Option.map_map, Function.comp_def])
          clear hov
          go_wp2_with (at_builtin; first | (refine wpList_append_ow rfl (.tmp 66) (.tmp 68) _ rfl 42 i0 (.agg #[.int .i64 0, .int .i64 0]) 2 16 Try.underlying25 hi iz0 iz1 iz2 rfl (by omega) G A2 (cur.length) c2 (pv (cur)) rfl (own_below' hown (by (repeat' (first | (with_reducible exact Below.refl _ _) | (with_reducible refine bel_alloc ?_ ?_ _) | (with_reducible refine Below.setCell ?_ ?_ _) | (with_reducible refine below_drewN ?_ _) | (with_reducible refine Below.drew ?_) | (with_reducible exact Nat.le_refl _) | (with_reducible assumption) | omega | (simp only [World.size_alloc, World.size_setCell, World.size_drew]; omega) | (simp; omega) | (simp; done))))) (some ⟨wr.heap.size + 1, 0, none⟩) 1 1 (pv [(a, b)]) rfl rfl (Rd.lit (by simp)) (pv_one _) (by unfold maxLen; omega) (by omega) (by simp; omega) ?_; intro A4 c4 w4 hO4 hS4 hA4; have x0c := hS4.cell (cell_al (o := .cells #[.int .i64 a, .int .i64 b] 42) (show World.cell? (wr.alloc (.cells #[.int .i64 x1, .int .i64 x2] 42)) ⟨wr.heap.size, 0, none⟩ = some (.int .i64 x1) by simp [go_sem])) (fun h => by have := hapu _ h; simp at this); have x1c := hS4.cell (cell_al (o := .cells #[.int .i64 a, .int .i64 b] 42) (show World.cell? (wr.alloc (.cells #[.int .i64 x1, .int .i64 x2] 42)) ⟨wr.heap.size, 1, none⟩ = some (.int .i64 x2) by simp [go_sem])) (fun h => by have := hapu _ h; simp at this); have hz4 := hS4.size; simp only [World.size_alloc] at hz4; rw [← pv_app] at hO4; have hapt4 := own_lo' hO4) | (refine wpList_append_ow rfl (.tmp 70) (.tmp 72) _ rfl 42 i0 (.agg #[.int .i64 0, .int .i64 0]) 2 16 Try.underlying25 hi iz0 iz1 iz2 rfl (by omega) G A4 (cur.length + 1) c4 (pv (cur ++ [(a, b)])) rfl (own_below' hO4 (by (repeat' (first | (with_reducible exact Below.refl _ _) | (with_reducible refine bel_alloc ?_ ?_ _) | (with_reducible refine Below.setCell ?_ ?_ _) | (with_reducible refine below_drewN ?_ _) | (with_reducible refine Below.drew ?_) | (with_reducible exact Nat.le_refl _) | (with_reducible assumption) | omega | (simp only [World.size_alloc, World.size_setCell, World.size_drew]; omega) | (simp; omega) | (simp; done))))) (some ⟨w4.heap.size, 0, none⟩) 1 1 (pv [(x1, x2)]) rfl rfl (Rd.lit (by simp)) (pv_one _) (by unfold maxLen; omega) (by omega) (by simp; omega) ?_; intro A5 c5 w5 hO5 hS5 hA5))
          have hz5 := hS5.size
          simp only [World.size_alloc] at hz5
          rw [← pv_app] at hO5
          go_roundw
          case rel =>
            refine ⟨k + 1, A5, c5, (cur ++ [(a, b)]) ++ [(x1, x2)], true, by omega, by go_num, by simp, rfl, by simp; omega, by simpa using hO5, ((((ho8.alloc _).alloc _).outS hS4 (fun y hy => .inr (hapt y hy))).alloc _).outS hS5 (fun y hy => .inr (hapt4 y hy)), hS5.cell (cell_al (hS4.cell (cell_al (cell_al q0 _) _) (fun h => by have := hapt _ h; simp at this; omega)) _) (fun h => by have := hapt4 _ h; simp at this; omega), hS5.cell (cell_al (hS4.cell (cell_al (cell_al q1 _) _) (fun h => by have := hapt _ h; simp at this; omega)) _) (fun h => by have := hapt4 _ h; simp at this; omega), by rw [← HDE.out]; exact HN.out, ?_, by omega, ?_⟩
            · intro z hz
              rcases List.mem_append.1 hz with hz | hz
              · rcases List.mem_append.1 hz with hz | hz
                · exact HCB.out z hz
                · simp at hz
                  subst hz
                  exact ⟨hab0, hab1, hab2⟩
              · simp at hz
                subst hz
                exact ⟨hx0b, hx1b, hx2b⟩
            · exact bel_outS hS5 (fun y hy => by have := hapt4 y hy; omega) (bel_alloc (bel_outS hS4 (fun y hy => by have := hapt y hy; omega) (by (repeat' (first | (with_reducible exact Below.refl _ _) | (with_reducible refine bel_alloc ?_ ?_ _) | (with_reducible refine Below.setCell ?_ ?_ _) | (with_reducible refine below_drewN ?_ _) | (with_reducible refine Below.drew ?_) | (with_reducible refine bel_step hbr ?_ ?_) | (with_reducible exact Nat.le_refl _) | (with_reducible assumption) | omega | (simp only [World.size_alloc, World.size_setCell, World.size_drew]; omega) | (simp; omega) | (simp; done)))) (Nat.le_refl _)) (Nat.le_refl _) _) (Nat.le_refl _)
          case measure => simp [intOf]; omega
        · have HN := Lib.hid (show (sp (a, b) true D).map (fun t => (cur ++ [(x1, x2)]) ++ t) = res by rw [← HR.out]; simp [sp, hov, Option.map_map, Function.comp_def])
          clear hov
          go_wp2_with (at_builtin; refine wpList_append_ow rfl (.tmp 70) (.tmp 72) _ rfl 42 i0 (.agg #[.int .i64 0, .int .i64 0]) 2 16 Try.underlying25 hi iz0 iz1 iz2 rfl (by omega) G A2 (cur.length) c2 (pv (cur)) rfl (own_below' hown (by (repeat' (first | (with_reducible exact Below.refl _ _) | (with_reducible refine bel_alloc ?_ ?_ _) | (with_reducible refine Below.setCell ?_ ?_ _) | (with_reducible refine below_drewN ?_ _) | (with_reducible refine Below.drew ?_) | (with_reducible exact Nat.le_refl _) | (with_reducible assumption) | omega | (simp only [World.size_alloc, World.size_setCell, World.size_drew]; omega) | (simp; omega) | (simp; done))))) (some ⟨wr.heap.size + 1, 0, none⟩) 1 1 (pv [(x1, x2)]) rfl rfl (Rd.lit (by simp)) (pv_one _) (by unfold maxLen; omega) (by omega) (by simp; omega) ?_; intro A4 c4 w4 hO4 hS4 hA4)
          have hz4 := hS4.size
          simp only [World.size_alloc] at hz4
          rw [← pv_app] at hO4
          go_roundw
          case rel =>
            refine ⟨k + 1, A4, c4, cur ++ [(x1, x2)], true, by omega, by go_num, by rw [List.length_append]; rfl, rfl, by simp; omega, by rw [List.length_append]; exact hO4, ((ho8.alloc _).alloc _).outS hS4 (fun y hy => .inr (hapt y hy)), hS4.cell (cell_al (cell_al q0 _) _) (fun h => by have := hapt _ h; simp at this; omega), hS4.cell (cell_al (cell_al q1 _) _) (fun h => by have := hapt _ h; simp at this; omega), by rw [← HDE.out]; exact HN.out, ?_, by omega, ?_⟩
            · intro z hz
              rcases List.mem_append.1 hz with hz | hz
              · exact HCB.out z hz
              · simp at hz
                subst hz
                exact ⟨hx0b, hx1b, hx2b⟩
            · exact bel_outS hS4 (fun y hy => by have := hapt y hy; omega) (by (repeat' (first | (with_reducible exact Below.refl _ _) | (with_reducible refine bel_alloc ?_ ?_ _) | (with_reducible refine Below.setCell ?_ ?_ _) | (with_reducible refine below_drewN ?_ _) | (with_reducible refine Below.drew ?_) | (with_reducible refine bel_step hbr ?_ ?_) | (with_reducible exact Nat.le_refl _) | (with_reducible assumption) | omega | (simp only [World.size_alloc, World.size_setCell, World.size_drew]; omega) | (simp; omega) | (simp; done)))) (Nat.le_refl _)
          case measure => simp [intOf]; omega
    · obtain rfl : k = xs.length := by omega
      have HE := Lib.hid (show res = some (cur ++ (if pt = true then [] else [(a, b)])) by rw [← HIP.out, List.drop_length]; simp [sp])
      cases pt
      · have HE2 := Lib.hid (show res = some (cur ++ [(a, b)]) by rw [HE.out]; simp)
        clear HE
        go_wp2_with (at_builtin; refine wpList_append_ow rfl (.tmp 76) (.tmp 78) _ rfl 42 i0 (.agg #[.int .i64 0, .int .i64 0]) 2 16 Try.underlying25 hi iz0 iz1 iz2 rfl (by omega) G A2 (cur.length) c2 (pv (cur)) rfl (own_below' hown (by (repeat' (first | (with_reducible exact Below.refl _ _) | (with_reducible refine bel_alloc ?_ ?_ _) | (with_reducible refine Below.setCell ?_ ?_ _) | (with_reducible refine below_drewN ?_ _) | (with_reducible refine Below.drew ?_) | (with_reducible exact Nat.le_refl _) | (with_reducible assumption) | omega | (simp only [World.size_alloc, World.size_setCell, World.size_drew]; omega) | (simp; omega) | (simp; done))))) (some ⟨wr.heap.size, 0, none⟩) 1 1 (pv [(a, b)]) rfl rfl (Rd.lit (by simp)) (pv_one _) (by unfold maxLen; omega) (by omega) (by simp; omega) ?_; intro A4 c4 w4 hO4 hS4 hA4; rw [← pv_app] at hO4)
        have HLL := Lib.hid (show (cur ++ [(a, b)]).length = cur.length + 1 by simp)
        have CJ := fun W (h : Rd W W.heap.size A4 (pv (cur ++ [(a, b)]))) => join_s A4 c4 (cur ++ [(a, b)]) W h (by simp; omega) (fun z hz => by
          rcases List.mem_append.1 hz with hz | hz
          · exact HCB.out z hz
          · simp at hz
            subst hz
            exact ⟨hab0, hab1, hab2⟩)
        rw [HLL.out] at CJ
        refine (CJ _ (Ow.mk' hO4).rd).mono ?_
        rintro e w5 ⟨A5, c5, S5, rfl, hW5, hN5, hb5, hc5⟩
        have HB := Lib.hid (show Below w.heap.size w w5 from bel_step hb5 (bel_outS hS4 (fun y hy => by have := hapt y hy; omega) (by (repeat' (first | (with_reducible exact Below.refl _ _) | (with_reducible refine bel_alloc ?_ ?_ _) | (with_reducible refine Below.setCell ?_ ?_ _) | (with_reducible refine below_drewN ?_ _) | (with_reducible refine Below.drew ?_) | (with_reducible refine bel_step hbr ?_ ?_) | (with_reducible exact Nat.le_refl _) | (with_reducible assumption) | omega | (simp only [World.size_alloc, World.size_setCell, World.size_drew]; omega) | (simp; omega) | (simp; done)))) (Nat.le_refl _)) (Nat.le_refl _))
        have HN5 := Lib.hid hN5
        have hz4 := hS4.size
        have hzr := hbr.size
        simp only [World.size_alloc] at hz4
        have HRR := Lib.hid (show (res.map join).getD xs = join (cur ++ [(a, b)]) ∧ res.isSome = true by rw [HE2.out]; exact ⟨rfl, rfl⟩)
        go_wp2
        go_ret2
        rw [HRR.out.1, HRR.out.2]
        exact ⟨A5, c5, S5, rfl, hW5, fun y hy => by have := HN5.out y hy; omega, HB.out, hc5⟩
      · have HE2 := Lib.hid (show res = some cur by rw [HE.out]; simp)
        clear HE
        have CJ := join_s A2 c2 cur wr (Ow.mk' hown).rd (by omega) (fun z hz => HCB.out z hz)
        go_wp2_with fail
        refine CJ.mono ?_
        rintro e w5 ⟨A5, c5, S5, rfl, hW5, hN5, hb5, hc5⟩
        have HB := Lib.hid (show Below w.heap.size w w5 by (repeat' (first | (with_reducible exact Below.refl _ _) | (with_reducible refine bel_alloc ?_ ?_ _) | (with_reducible refine Below.setCell ?_ ?_ _) | (with_reducible refine below_drewN ?_ _) | (with_reducible refine Below.drew ?_) | (with_reducible refine bel_step hb5 ?_ ?_) | (with_reducible refine bel_step hbr ?_ ?_) | (with_reducible exact Nat.le_refl _) | (with_reducible assumption) | omega | (simp only [World.size_alloc, World.size_setCell, World.size_drew]; omega) | (simp; omega) | (simp; done))))
        have HN5 := Lib.hid hN5
        have hzr := hbr.size
        have HRR := Lib.hid (show (res.map join).getD xs = join cur ∧ res.isSome = true by rw [HE2.out]; exact ⟨rfl, rfl⟩)
        go_wp2
        go_ret2
        rw [HRR.out.1, HRR.out.2]
        exact ⟨A5, c5, S5, rfl, hW5, fun y hy => by have := HN5.out y hy; omega, HB.out, hc5⟩
end Go.Proofs.Ytfdpplamebmdhaa
