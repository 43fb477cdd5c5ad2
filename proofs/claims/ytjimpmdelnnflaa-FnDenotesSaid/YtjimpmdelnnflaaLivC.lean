/- LiveAddrs of the reference. -/
import Derived.Test.YtjimpmdelnnflaaLivA
import Derived.Test.YtjimpmdelnnflaaLayW
import Derived.Test.YtjimpmdelnnflaaLayG
namespace Go.Proofs.Ytjimpmdelnnflaa
open Go.ChangeShapes Go.WideShapes Go.ChangeAt Go.RowKit
set_option linter.unusedVariables false
set_option linter.unusedSimpArgs false

def cnd (t : T4) : Bool := t.2.2.2 == 0 && (t.1 == 1 || t.1 == 3)
def spD (xs ys : List T3) (j : Nat) : List Int := ((List.range j).filter (fun a : Nat => cnd (den xs ys (a : Int)))).map (fun a : Nat => (a : Int))
theorem spD_succ (xs ys : List T3) (j : Nat) : spD xs ys (j + 1) = if cnd (den xs ys (j : Int)) = true then spD xs ys j ++ [(j : Int)] else spD xs ys j := by
  unfold spD
  rw [List.range_succ, List.filter_append]
  by_cases h : cnd (den xs ys (j : Int)) = true <;> simp [h]
theorem spD_len (xs ys : List T3) : ∀ j, (spD xs ys j).length ≤ j := fun j => by
  have := List.length_filter_le (fun a : Nat => cnd (den xs ys (a : Int))) (List.range j)
  simpa [spD] using this
def specL (xs ys : List T3) : List Int := if layOk xs ys then spD xs ys 512 else []
theorem den_sv (A A' : Option Addr) (c c' n m : Nat) (xs ys : List T3) (a : Int) (w : World) {B B' : Nat} (hr : Rd w B A (tv xs)) (hs : Rd w B' A' (tv ys)) (hl : xs.length = n) (hl2 : ys.length = m) (hn : n ≤ 1048576) (hm : m ≤ 1048576) (ha : 0 ≤ a ∧ a ≤ 1000) {t0 t1 t2 t3 : Int} (ht : den xs ys a = (t0, t1, t2, t3)) :
    Calls Try.prog 18 #[.slice A n c, .slice A' m c', .int .i64 a] w fun e w' => e = .returned (.agg #[.int .i64 t0, .int .i64 t1, .int .i64 t2, .int .i64 t3]) ∧ Below w.heap.size w w' := by
  subst hl hl2
  have h := den_s A A' c c' xs ys a w hr hs hn hm (by omega)
  rw [ht] at h
  exact h
theorem liveAddrs_s_no (A A' : Option Addr) (c c' : Nat) (xs ys : List T3) (w : World) {B B' : Nat} (hr : Rd w B A (tv xs)) (hs : Rd w B' A' (tv ys)) (hn : xs.length ≤ 1048576) (hm : ys.length ≤ 1048576) (hl : layOk xs ys = false) :
    Calls Try.prog 21 #[.slice A xs.length c, .slice A' ys.length c'] w (MadeIntSN (specL xs ys) w) := by
  have HR := Lib.hid (show specL xs ys = [] by simp [specL, hl])
  have HLAY := Lib.hid (fun W (h1 : Rd W W.heap.size A (tv xs)) (h2 : Rd W W.heap.size A' (tv ys)) => layoutOk_s A A' c c' xs ys W h1 h2 hn hm false hl)
  have hO0 := own_lit (w := w) (g := w.heap.size) (e := 3) (size := 1) rfl
  clear hl
  go_enter Try.func21, Try.ntmps21
  go_wp2
  go_loopw [5, 6] (fun u v wr => u = .slice (some ⟨w.heap.size, 0, none⟩) 0 0 ∧ v = .int .i64 0 ∧ wr = w.alloc (.cells #[] 3)) (fun _ v _ => 0)
  case atStart => exact ⟨rfl, rfl, rfl⟩
  case round =>
    obtain ⟨rfl, rfl, rfl⟩ := hrel
    go_wp2_with fail
    refine (HLAY.out _ (hr.alloc _).lt (hs.alloc _).lt).mono ?_
    rintro e w1 ⟨rfl, hb1⟩
    replace hO0 := own_below' hO0 hb1
    go_wp2
    go_ret
    rw [HR.out]
    exact made_own (n := 0) rfl hO0 (by omega) (by (repeat' (first | (with_reducible exact Below.refl _ _) | (with_reducible refine bel_alloc ?_ ?_ _) | (with_reducible refine Below.setCell ?_ ?_ _) | (with_reducible refine below_drewN ?_ _) | (with_reducible refine Below.drew ?_) | (with_reducible refine bel_step hb1 ?_ ?_) | (with_reducible exact Nat.le_refl _) | (with_reducible assumption) | omega | (simp only [World.size_alloc, World.size_setCell, World.size_drew]; omega) | (simp; omega) | (simp; done))))
set_option maxRecDepth 100000 in
set_option maxHeartbeats 8000000 in
theorem liveAddrs_s_yes (A A' : Option Addr) (c c' : Nat) (xs ys : List T3) (w : World) {B B' : Nat} (hr : Rd w B A (tv xs)) (hs : Rd w B' A' (tv ys)) (hn : xs.length ≤ 1048576) (hm : ys.length ≤ 1048576) (hl : layOk xs ys = true) :
    Calls Try.prog 21 #[.slice A xs.length c, .slice A' ys.length c'] w (MadeIntSN (specL xs ys) w) := by
  replace hr := hr.lt
  replace hs := hs.lt
  have HR := Lib.hid (show specL xs ys = spD xs ys 512 by simp [specL, hl])
  have HLAY := Lib.hid (fun W (h1 : Rd W W.heap.size A (tv xs)) (h2 : Rd W W.heap.size A' (tv ys)) => layoutOk_s A A' c c' xs ys W h1 h2 hn hm true hl)
  have HSP := Lib.hid (fun j : Nat => spD_succ xs ys j)
  have HSN := Lib.hid (fun j : Nat => spD_len xs ys j)
  have HS0 := Lib.hid (show spD xs ys 0 = [] from rfl)
  generalize spD xs ys = sp at *
  clear hl
  have hO0 := own_lit (w := w) (g := w.heap.size) (e := 3) (size := 1) rfl
  obtain ⟨it, hit, iz0, iz1, iz2⟩ := info_parts infoInt
  go_enter Try.func21, Try.ntmps21
  go_wp2
  go_loopw [5, 6] (fun u v wr => ∃ (j : Nat) (A3 : Option Addr) (n3 c3 : Nat), j ≤ 512 ∧ v = .int .i64 j ∧ u = .slice A3 n3 c3 ∧ n3 = (sp j).length ∧ wr.ownsRow w.heap.size 3 1 (.slice A3 n3 c3) n3 (iv (sp j)) ∧ Below w.heap.size w wr) (fun _ v _ => 512 - (intOf v).toNat)
  case atStart => exact ⟨0, some ⟨w.heap.size, 0, none⟩, 0, 0, Nat.zero_le _, rfl, rfl, by rw [HS0.out]; rfl, by rw [HS0.out]; exact hO0, by (repeat' (first | (with_reducible exact Below.refl _ _) | (with_reducible refine bel_alloc ?_ ?_ _) | (with_reducible refine Below.setCell ?_ ?_ _) | (with_reducible refine below_drewN ?_ _) | (with_reducible refine Below.drew ?_) | (with_reducible exact Nat.le_refl _) | (with_reducible assumption) | omega | (simp only [World.size_alloc, World.size_setCell, World.size_drew]; omega) | (simp; omega) | (simp; done)))⟩
  case round =>
    obtain ⟨j, A3, n3, c3, hj, rfl, rfl, hn3, hown, hb⟩ := hrel
    have hl3 : n3 ≤ j := by rw [hn3]; exact HSN.out j
    have HN3 := Lib.hid hn3
    clear hn3 hO0
    replace hr := hr.below hb
    replace hs := hs.below hb
    by_cases hlj : j < 512
    · obtain ⟨t0, t1, t2, t3, ht⟩ : ∃ t0 t1 t2 t3, den xs ys j = (t0, t1, t2, t3) := ⟨_, _, _, _, rfl⟩
      have HD := Lib.hid (fun W h1 h2 => den_sv (B := W.heap.size) (B' := W.heap.size) A A' c c' xs.length ys.length xs ys j W h1 h2 rfl rfl hn hm (by omega) ht)
      have HX := Lib.hid (show sp (j + 1) = if cnd (t0, t1, t2, t3) = true then sp j ++ [(j : Int)] else sp j by rw [HSP.out, ht])
      clear ht
      go_wp2_with fail
      refine (HLAY.out _ hr.lt hs.lt).mono ?_
      rintro e w1 ⟨rfl, hb1⟩
      replace hown := own_below' hown hb1
      go_wp2_with fail
      refine (HD.out _ (hr.below hb1).lt (hs.below hb1).lt).mono ?_
      rintro e w2 ⟨rfl, hb2⟩
      replace hown := own_below' hown hb2
      have hb3 : Below w.heap.size w w2 := by (repeat' (first | (with_reducible exact Below.refl _ _) | (with_reducible refine bel_alloc ?_ ?_ _) | (with_reducible refine Below.setCell ?_ ?_ _) | (with_reducible refine below_drewN ?_ _) | (with_reducible refine Below.drew ?_) | (with_reducible refine bel_step hb ?_ ?_) | (with_reducible refine bel_step hb1 ?_ ?_) | (with_reducible refine bel_step hb2 ?_ ?_) | (with_reducible exact Nat.le_refl _) | (with_reducible assumption) | omega | (simp only [World.size_alloc, World.size_setCell, World.size_drew]; omega) | (simp; omega) | (simp; done)))
      have hz3 := hb3.size
      have hap := own_lo hown
      by_cases h3 : t3 = 0
      · subst h3
        have e00 : ((0 : Int) == 0) = true := rfl
        by_cases h1 : t0 = 1 ∨ t0 = 3
        · have HNX := Lib.hid (show sp (j + 1) = sp j ++ [(j : Int)] by rw [HX.out, if_pos (by rcases h1 with rfl | rfl <;> rfl)])
          rcases h1 with rfl | rfl
          all_goals
            go_wp2_with (at_builtin; refine wpList_append_ow rfl (.tmp 35) (.tmp 37) _ rfl 3 it (.int .i64 0) 1 8 Try.underlying28 hit iz0 iz1 iz2 rfl (by omega) w.heap.size A3 n3 c3 (iv (sp j)) rfl (own_below' (own_below' hown ((Below.refl _ _).alloc (Nat.le_refl _) _)) ((Below.refl _ _).alloc (Nat.le_refl _) _)) (some ⟨w2.heap.size + 1, 0, none⟩) 1 1 (iv [(j : Int)]) rfl rfl (Rd.lit (by simp)) (iv_one _) (by unfold maxLen; omega) (by omega) (by simp; omega) ?_; intro A4 c4 w4 hO4 hS4 hA4)
            go_roundw
            case rel =>
              refine ⟨j + 1, A4, n3 + 1, c4, by omega, by go_num, rfl, by rw [HNX.out, HN3.out]; simp, ?_, ?_⟩
              · rw [HNX.out, iv_app]
                exact hO4
              · exact bel_outS hS4 (fun y hy => by have := hap y hy; omega) (by (repeat' (first | (with_reducible exact Below.refl _ _) | (with_reducible refine bel_alloc ?_ ?_ _) | (with_reducible refine Below.setCell ?_ ?_ _) | (with_reducible refine below_drewN ?_ _) | (with_reducible refine Below.drew ?_) | (with_reducible refine bel_step hb3 ?_ ?_) | (with_reducible exact Nat.le_refl _) | (with_reducible assumption) | omega | (simp only [World.size_alloc, World.size_setCell, World.size_drew]; omega) | (simp; omega) | (simp; done)))) (Nat.le_refl _)
            case measure => simp [intOf]; omega
        · have HNX := Lib.hid (show sp (j + 1) = sp j by rw [HX.out, if_neg (by simp [cnd]; omega)])
          have e1 : (t0 == 1) = false := by simp; omega
          have e3 : (t0 == 3) = false := by simp; omega
          go_wp2
          go_roundw
          case rel => exact ⟨j + 1, A3, n3, c3, by omega, by go_num, rfl, by rw [HNX.out, HN3.out], by rw [HNX.out]; exact own_below' hown (by (repeat' (first | (with_reducible exact Below.refl _ _) | (with_reducible refine bel_alloc ?_ ?_ _) | (with_reducible refine Below.setCell ?_ ?_ _) | (with_reducible refine below_drewN ?_ _) | (with_reducible refine Below.drew ?_) | (with_reducible exact Nat.le_refl _) | (with_reducible assumption) | omega | (simp only [World.size_alloc, World.size_setCell, World.size_drew]; omega) | (simp; omega) | (simp; done)))), by (repeat' (first | (with_reducible exact Below.refl _ _) | (with_reducible refine bel_alloc ?_ ?_ _) | (with_reducible refine Below.setCell ?_ ?_ _) | (with_reducible refine below_drewN ?_ _) | (with_reducible refine Below.drew ?_) | (with_reducible refine bel_step hb3 ?_ ?_) | (with_reducible exact Nat.le_refl _) | (with_reducible assumption) | omega | (simp only [World.size_alloc, World.size_setCell, World.size_drew]; omega) | (simp; omega) | (simp; done)))⟩
          case measure => simp [intOf]; omega
      · have HNX := Lib.hid (show sp (j + 1) = sp j by rw [HX.out, if_neg (by simp [cnd, h3])])
        have e3 : (t3 == 0) = false := by simpa using h3
        go_wp2
        go_roundw
        case rel => exact ⟨j + 1, A3, n3, c3, by omega, by go_num, rfl, by rw [HNX.out, HN3.out], by rw [HNX.out]; exact own_below' hown (by (repeat' (first | (with_reducible exact Below.refl _ _) | (with_reducible refine bel_alloc ?_ ?_ _) | (with_reducible refine Below.setCell ?_ ?_ _) | (with_reducible refine below_drewN ?_ _) | (with_reducible refine Below.drew ?_) | (with_reducible exact Nat.le_refl _) | (with_reducible assumption) | omega | (simp only [World.size_alloc, World.size_setCell, World.size_drew]; omega) | (simp; omega) | (simp; done)))), by (repeat' (first | (with_reducible exact Below.refl _ _) | (with_reducible refine bel_alloc ?_ ?_ _) | (with_reducible refine Below.setCell ?_ ?_ _) | (with_reducible refine below_drewN ?_ _) | (with_reducible refine Below.drew ?_) | (with_reducible refine bel_step hb3 ?_ ?_) | (with_reducible exact Nat.le_refl _) | (with_reducible assumption) | omega | (simp only [World.size_alloc, World.size_setCell, World.size_drew]; omega) | (simp; omega) | (simp; done)))⟩
        case measure => simp [intOf]; omega
    · obtain rfl : j = 512 := by omega
      obtain rfl : n3 = (sp 512).length := HN3.out
      go_wp2_with fail
      go_ret
      rw [HR.out]
      exact made_own rfl hown (by omega) hb
end Go.Proofs.Ytjimpmdelnnflaa
