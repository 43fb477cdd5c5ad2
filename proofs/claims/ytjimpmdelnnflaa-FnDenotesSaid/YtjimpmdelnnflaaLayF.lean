/- Denotes and FreeCode, of the program and of the reference. -/
import Derived.Test.YtjimpmdelnnflaaLayE
import Derived.Test.YtjimpmdelnnflaaLargeK
namespace Go.Proofs.Ytjimpmdelnnflaa
open Go.ChangeShapes Go.WideShapes Go.ChangeAt Go.RowKit Go.Maps
set_option linter.unusedVariables false
set_option linter.unusedSimpArgs false

theorem den_no {xs ys : List T3} {a : Int} (h : layOk xs ys = false) : den xs ys a = (0, 0, 0, 0) := by simp [den, h]
theorem den_yes {xs ys : List T3} {a : Int} (h : layOk xs ys = true) : den xs ys a = dS ys a 0 xs := by simp [den, h]
set_option maxRecDepth 100000 in
set_option maxHeartbeats 4000000 in
theorem denotes_s (A A' : Option Addr) (c c' : Nat) (xs ys : List T3) (a : Int) (w : World) {B B' : Nat} (hr : Rd w B A (tv xs)) (hs : Rd w B' A' (tv ys)) (hn : xs.length ≤ 1048576) (hm : ys.length ≤ 1048576) (ha : -9223372036854775808 ≤ a ∧ a ≤ 9223372036854775807) (hlay : layOk xs ys = true) :
    Calls Try.prog 18 #[.slice A xs.length c, .slice A' ys.length c', .int .i64 a] w (DenRes (dS ys a 0 xs) w) := by
  replace hr := hr.lt
  replace hs := hs.lt
  have HLAY := Lib.hid (fun W (hr : Rd W _ _ _) (hs : Rd W _ _ _) => layoutOk_s (B := w.heap.size) (B' := w.heap.size) A A' c c' xs ys W hr hs hn hm true hlay)
  have HA0 := Lib.hid ha
  clear hlay ha
  go_enter Try.func18, Try.ntmps18
  go_wp2_with fail
  refine (HLAY.out _ (hr.alloc _) (hs.alloc _)).mono ?_
  rintro e w1 ⟨rfl, hb1⟩
  have hbo1 : Below (w.alloc (.cells #[.int .i64 0, .int .i64 0, .int .i64 0, .int .i64 0] 33)).heap.size (w.alloc (.cells #[.int .i64 0, .int .i64 0, .int .i64 0, .int .i64 0] 33)) w1 := hb1
  go_wp2
  go_loopw [7] (fun v wr => ∃ k : Nat, k ≤ xs.length ∧ v = .int .i64 k ∧ (∀ j (hj : j < xs.length), j < k → atS xs[j] a < 0) ∧ Below w.heap.size w wr ∧ Below (w.alloc (.cells #[.int .i64 0, .int .i64 0, .int .i64 0, .int .i64 0] 33)).heap.size (w.alloc (.cells #[.int .i64 0, .int .i64 0, .int .i64 0, .int .i64 0] 33)) wr) (fun v _ => xs.length - (intOf v).toNat)
  case atStart => exact ⟨0, Nat.zero_le _, rfl, fun j _ hj => absurd hj (by omega), by (repeat' (first | (with_reducible exact Below.refl _ _) | (with_reducible refine bel_alloc ?_ ?_ _) | (with_reducible refine Below.setCell ?_ ?_ _) | (with_reducible refine below_drewN ?_ _) | (with_reducible refine Below.drew ?_) | (with_reducible refine bel_step hb1 ?_ ?_) | (with_reducible exact Nat.le_refl _) | (with_reducible assumption) | omega | (simp only [World.size_alloc, World.size_setCell, World.size_drew]; omega) | (simp; omega) | (simp; done))), hbo1⟩
  case round =>
    obtain ⟨k, hk, rfl, hall, hbr, hbo⟩ := hrel
    have HA := Lib.hid hall
    clear hall hb1 hbo1
    have r0 : Cl wr ⟨w.heap.size, 0, none⟩ (.int .i64 0) := Cl.below (Cl.new rfl rfl) hbo
    have r1 : Cl wr ⟨w.heap.size, 1, none⟩ (.int .i64 0) := Cl.below (Cl.new rfl rfl) hbo
    have r2 : Cl wr ⟨w.heap.size, 2, none⟩ (.int .i64 0) := Cl.below (Cl.new rfl rfl) hbo
    have r3 : Cl wr ⟨w.heap.size, 3, none⟩ (.int .i64 0) := Cl.below (Cl.new rfl rfl) hbo
    by_cases hlt : k < xs.length
    · obtain ⟨b, off, rfl, -, hc0, hc1, hc2⟩ := (hr.below hbr).trip hlt
      have i0 : (0 : Int) ≤ (k : Int) := by omega
      have i1 : (k : Int) < (xs.length : Int) := by omega
      have HK := Lib.hid (show atS xs[k] a = sAt xs[k].1 xs[k].2.1 xs[k].2.2 a from rfl)
      have HOF := Lib.hid (show ofS xs[k] a = sOf xs[k].1 xs[k].2.1 xs[k].2.2 a from rfl)
      have HHS := Lib.hid (show xs[k].2.2 = xs[k].2.2 from rfl)
      have HC := Lib.hid (fun W => slotAt_s xs[k].1 xs[k].2.1 xs[k].2.2 a W HA0.out)
      by_cases hneg : atS xs[k] a < 0
      · have hn0 : sAt xs[k].1 xs[k].2.1 xs[k].2.2 a < 0 := by rw [← HK.out]; exact hneg
        have HN := Lib.hid hneg
        clear hneg HHS
        generalize sAt xs[k].1 xs[k].2.1 xs[k].2.2 a = sa at *
        generalize sOf xs[k].1 xs[k].2.1 xs[k].2.2 a = so at *
        generalize xs[k].1 = x1 at *
        generalize xs[k].2.1 = x2 at *
        generalize xs[k].2.2 = x3 at *
        clear r0 r1 r2 r3
        go_wp2_with fail
        refine (HC.out _).mono ?_
        rintro e w5 ⟨rfl, hb5⟩
        go_wp2
        go_roundw
        case rel =>
          refine ⟨k + 1, by omega, by go_num, fun j hj hjk => ?_, by (repeat' (first | (with_reducible exact Below.refl _ _) | (with_reducible refine bel_alloc ?_ ?_ _) | (with_reducible refine Below.setCell ?_ ?_ _) | (with_reducible refine below_drewN ?_ _) | (with_reducible refine Below.drew ?_) | (with_reducible refine bel_step hbr ?_ ?_) | (with_reducible refine bel_step hb5 ?_ ?_) | (with_reducible exact Nat.le_refl _) | (with_reducible assumption) | omega | (simp only [World.size_alloc, World.size_setCell, World.size_drew]; omega) | (simp; omega) | (simp; done))), ?_⟩
          · by_cases e : j = k
            · subst e; exact HN.out
            · exact HA.out j hj (by omega)
          · exact bel_step hb5 hbo (Nat.le_refl _)
        case measure => simp [intOf]; omega
      · have HD := Lib.hid (dS_hit (ys := ys) hlt HA.out hneg)
        have hn0 : ¬ sAt xs[k].1 xs[k].2.1 xs[k].2.2 a < 0 := by rw [← HK.out]; exact hneg
        have HS := Lib.hid (fun W => hasSlot_s xs[k].2.2 (sAt xs[k].1 xs[k].2.1 xs[k].2.2 a) W)
        have HE := Lib.hid (show ownS xs[k] k a = (if hasS xs[k].2.2 (sAt xs[k].1 xs[k].2.1 xs[k].2.2 a) then 1 else 2, (k : Int), sAt xs[k].1 xs[k].2.1 xs[k].2.2 a, sOf xs[k].1 xs[k].2.1 xs[k].2.2 a) from rfl)
        clear HHS hneg
        generalize sAt xs[k].1 xs[k].2.1 xs[k].2.2 a = sa at *
        generalize sOf xs[k].1 xs[k].2.1 xs[k].2.2 a = so at *
        generalize xs[k].1 = x1 at *
        generalize xs[k].2.1 = x2 at *
        generalize xs[k].2.2 = x3 at *
        cases hh : hasS x3 sa with
        | true =>
          have HR := Lib.hid (show dS ys a 0 xs = (1, (k : Int), sa, so) by rw [HD.out, HE.out, hh]; rfl)
          rw [hh] at HS
          clear hh HE HD
          go_wp2_with fail
          refine (HC.out _).mono ?_
          rintro e w5 ⟨rfl, hb5⟩
          replace hc0 := keep hb5 hc0
          replace hc1 := keep hb5 hc1
          replace hc2 := keep hb5 hc2
          obtain ⟨d0, e0⟩ := r0.below hb5
          obtain ⟨d1, e1⟩ := r1.below hb5
          obtain ⟨d2, e2⟩ := r2.below hb5
          obtain ⟨d3, e3⟩ := r3.below hb5
          clear r0 r1 r2 r3
          go_wp2_with (go_at_call 48; refine (HS.out _).mono ?_; rintro e w6 ⟨rfl, rfl⟩)
          refine bodyPost_ret (v := .agg #[.int .i64 1, .int .i64 k, .int .i64 sa, .int .i64 so]) (by simp [results, Try.results18, go_sem, d0, d1, d2, d3]) rfl (denRes_mk HR.out ?_)
          (repeat' (first | (with_reducible exact Below.refl _ _) | (with_reducible refine bel_alloc ?_ ?_ _) | (with_reducible refine Below.setCell ?_ ?_ _) | (with_reducible refine below_drewN ?_ _) | (with_reducible refine Below.drew ?_) | (with_reducible refine bel_step hbr ?_ ?_) | (with_reducible refine bel_step hb5 ?_ ?_) | (with_reducible exact Nat.le_refl _) | (with_reducible assumption) | omega | (simp only [World.size_alloc, World.size_setCell, World.size_drew]; omega) | (simp; omega) | (simp; done)))
        | false =>
          have HR := Lib.hid (show dS ys a 0 xs = (2, (k : Int), sa, so) by rw [HD.out, HE.out, hh]; rfl)
          rw [hh] at HS
          clear hh HE HD
          go_wp2_with fail
          refine (HC.out _).mono ?_
          rintro e w5 ⟨rfl, hb5⟩
          replace hc0 := keep hb5 hc0
          replace hc1 := keep hb5 hc1
          replace hc2 := keep hb5 hc2
          obtain ⟨d0, e0⟩ := r0.below hb5
          obtain ⟨d1, e1⟩ := r1.below hb5
          obtain ⟨d2, e2⟩ := r2.below hb5
          obtain ⟨d3, e3⟩ := r3.below hb5
          clear r0 r1 r2 r3
          go_wp2_with (go_at_call 48; refine (HS.out _).mono ?_; rintro e w6 ⟨rfl, rfl⟩)
          refine bodyPost_ret (v := .agg #[.int .i64 2, .int .i64 k, .int .i64 sa, .int .i64 so]) (by simp [results, Try.results18, go_sem, d0, d1, d2, d3]) rfl (denRes_mk HR.out ?_)
          (repeat' (first | (with_reducible exact Below.refl _ _) | (with_reducible refine bel_alloc ?_ ?_ _) | (with_reducible refine Below.setCell ?_ ?_ _) | (with_reducible refine below_drewN ?_ _) | (with_reducible refine Below.drew ?_) | (with_reducible refine bel_step hbr ?_ ?_) | (with_reducible refine bel_step hb5 ?_ ?_) | (with_reducible exact Nat.le_refl _) | (with_reducible assumption) | omega | (simp only [World.size_alloc, World.size_setCell, World.size_drew]; omega) | (simp; omega) | (simp; done)))
    · obtain rfl : k = xs.length := by omega
      have HD := Lib.hid (dS_end (ys := ys) (fun j hj => HA.out j hj hj))
      clear r0 r1 r2 r3
      go_wp2
      go_loopw [11] (fun v wr => ∃ k : Nat, k ≤ ys.length ∧ v = .int .i64 k ∧ (∀ j (hj : j < ys.length), j < k → hasL ys[j] a = false) ∧ Below w.heap.size w wr ∧ Below (w.alloc (.cells #[.int .i64 0, .int .i64 0, .int .i64 0, .int .i64 0] 33)).heap.size (w.alloc (.cells #[.int .i64 0, .int .i64 0, .int .i64 0, .int .i64 0] 33)) wr) (fun v _ => ys.length - (intOf v).toNat)
      case atStart => exact ⟨0, Nat.zero_le _, rfl, fun j _ hj => absurd hj (by omega), hbr, hbo⟩
      case round =>
        obtain ⟨wx, hwx⟩ : ∃ wx : World, wx = wr := ⟨_, rfl⟩
        subst hwx
        clear hbr hbo
        obtain ⟨k, hk, rfl, hall, hbr, hbo⟩ := hrel
        have HA := Lib.hid hall
        clear hall
        have r0 : Cl wx ⟨w.heap.size, 0, none⟩ (.int .i64 0) := Cl.below (Cl.new rfl rfl) hbo
        have r1 : Cl wx ⟨w.heap.size, 1, none⟩ (.int .i64 0) := Cl.below (Cl.new rfl rfl) hbo
        have r2 : Cl wx ⟨w.heap.size, 2, none⟩ (.int .i64 0) := Cl.below (Cl.new rfl rfl) hbo
        have r3 : Cl wx ⟨w.heap.size, 3, none⟩ (.int .i64 0) := Cl.below (Cl.new rfl rfl) hbo
        by_cases hlt : k < ys.length
        · obtain ⟨b, off, rfl, -, hc0, hc1, hc2⟩ := (hs.below hbr).trip hlt
          have i0 : (0 : Int) ≤ (k : Int) := by omega
          have i1 : (k : Int) < (ys.length : Int) := by omega
          have HC := Lib.hid (fun W => largeHas_s ys[k].1 ys[k].2.1 ys[k].2.2 a W)
          cases hh : hasL ys[k] a with
          | false =>
            have hh2 : lHas ys[k].1 ys[k].2.1 ys[k].2.2 a = false := hh
            rw [hh2] at HC
            have HN := Lib.hid hh
            clear hh hh2 r0 r1 r2 r3
            generalize ys[k].1 = x1 at *
            generalize ys[k].2.1 = x2 at *
            generalize ys[k].2.2 = x3 at *
            go_wp2_with fail
            refine (HC.out _).mono ?_
            rintro e w5 ⟨rfl, hb5⟩
            go_wp2
            go_roundw
            case rel =>
              refine ⟨k + 1, by omega, by go_num, fun j hj hjk => ?_, by (repeat' (first | (with_reducible exact Below.refl _ _) | (with_reducible refine bel_alloc ?_ ?_ _) | (with_reducible refine Below.setCell ?_ ?_ _) | (with_reducible refine below_drewN ?_ _) | (with_reducible refine Below.drew ?_) | (with_reducible refine bel_step hbr ?_ ?_) | (with_reducible refine bel_step hb5 ?_ ?_) | (with_reducible exact Nat.le_refl _) | (with_reducible assumption) | omega | (simp only [World.size_alloc, World.size_setCell, World.size_drew]; omega) | (simp; omega) | (simp; done))), ?_⟩
              · by_cases e : j = k
                · subst e; exact HN.out
                · exact HA.out j hj (by omega)
              · exact bel_step hb5 hbo (Nat.le_refl _)
            case measure => simp [intOf]; omega
          | true =>
            have hh2 : lHas ys[k].1 ys[k].2.1 ys[k].2.2 a = true := hh
            rw [hh2] at HC
            have HF := Lib.hid (fun W => largeOffset_s ys[k].1 ys[k].2.1 ys[k].2.2 a W)
            have HR := Lib.hid (show dS ys a 0 xs = (3, (k : Int), 0, lOff ys[k].1 ys[k].2.1 ys[k].2.2 a) by rw [HD.out, dL_hit hlt HA.out hh]; rfl)
            clear hh hh2 HD
            generalize lOff ys[k].1 ys[k].2.1 ys[k].2.2 a = lo at *
            generalize ys[k].1 = x1 at *
            generalize ys[k].2.1 = x2 at *
            generalize ys[k].2.2 = x3 at *
            go_wp2_with fail
            refine (HC.out _).mono ?_
            rintro e w5 ⟨rfl, hb5⟩
            replace hc0 := keep hb5 hc0
            replace hc1 := keep hb5 hc1
            replace hc2 := keep hb5 hc2
            go_wp2_with fail
            refine (HF.out _).mono ?_
            rintro e w6 ⟨rfl, hb6⟩
            obtain ⟨d0, e0⟩ := (r0.below hb5).below hb6
            obtain ⟨d1, e1⟩ := (r1.below hb5).below hb6
            obtain ⟨d2, e2⟩ := (r2.below hb5).below hb6
            obtain ⟨d3, e3⟩ := (r3.below hb5).below hb6
            clear r0 r1 r2 r3
            go_wp2
            refine bodyPost_ret (v := .agg #[.int .i64 3, .int .i64 k, .int .i64 0, .int .i64 lo]) (by simp [results, Try.results18, go_sem, d0, d1, d2, d3]) rfl (denRes_mk HR.out ?_)
            (repeat' (first | (with_reducible exact Below.refl _ _) | (with_reducible refine bel_alloc ?_ ?_ _) | (with_reducible refine Below.setCell ?_ ?_ _) | (with_reducible refine below_drewN ?_ _) | (with_reducible refine Below.drew ?_) | (with_reducible refine bel_step hbr ?_ ?_) | (with_reducible refine bel_step hb5 ?_ ?_) | (with_reducible refine bel_step hb6 ?_ ?_) | (with_reducible exact Nat.le_refl _) | (with_reducible assumption) | omega | (simp only [World.size_alloc, World.size_setCell, World.size_drew]; omega) | (simp; omega) | (simp; done)))
        · obtain rfl : k = ys.length := by omega
          have HR := Lib.hid (show dS ys a 0 xs = (0, 0, 0, 0) by rw [HD.out]; exact dL_end (fun j hj => HA.out j hj hj))
          obtain ⟨d0, e0⟩ := r0
          obtain ⟨d1, e1⟩ := r1
          obtain ⟨d2, e2⟩ := r2
          obtain ⟨d3, e3⟩ := r3
          clear HD
          go_wp2
          refine bodyPost_ret (v := .agg #[.int .i64 0, .int .i64 0, .int .i64 0, .int .i64 0]) (by simp [results, Try.results18, go_sem, d0, d1, d2, d3]) rfl (denRes_mk HR.out ?_)
          (repeat' (first | (with_reducible exact Below.refl _ _) | (with_reducible refine bel_alloc ?_ ?_ _) | (with_reducible refine Below.setCell ?_ ?_ _) | (with_reducible refine below_drewN ?_ _) | (with_reducible refine Below.drew ?_) | (with_reducible refine bel_step hbr ?_ ?_) | (with_reducible exact Nat.le_refl _) | (with_reducible assumption) | omega | (simp only [World.size_alloc, World.size_setCell, World.size_drew]; omega) | (simp; omega) | (simp; done)))
set_option maxRecDepth 100000 in
set_option maxHeartbeats 4000000 in
theorem den_i_no (A A' : Option Addr) (c c' : Nat) (xs ys : List T3) (a : Int) (w : World) {B B' : Nat} (hr : Rd w B A (tv xs)) (hs : Rd w B' A' (tv ys)) (hn : xs.length ≤ 1048576) (hm : ys.length ≤ 1048576) (hlay : layOk xs ys = false) :
    Calls Try.prog 16 #[.slice A xs.length c, .slice A' ys.length c', .int .i64 a] w (DenRes (den xs ys a) w) := by
  replace hr := hr.lt
  replace hs := hs.lt
  have HLAY := Lib.hid (fun W (hr : Rd W _ _ _) (hs : Rd W _ _ _) => layoutOk_i (B := w.heap.size) (B' := w.heap.size) A A' c c' xs ys W hr hs hn hm false hlay)
  have HR := Lib.hid (den_no (a := a) hlay)
  clear hlay
  go_enter Try.func16, Try.ntmps16
  go_wp2_with fail
  refine (HLAY.out _ (hr.alloc _) (hs.alloc _)).mono ?_
  rintro e w1 ⟨rfl, hb1⟩
  obtain ⟨d0, e0⟩ := (Cl.new (w := w) (n := w.heap.size) (cs := #[.int .i64 0, .int .i64 0, .int .i64 0, .int .i64 0]) (t := 33) (i := 0) (v := .int .i64 0) rfl rfl).below hb1
  obtain ⟨d1, e1⟩ := (Cl.new (w := w) (n := w.heap.size) (cs := #[.int .i64 0, .int .i64 0, .int .i64 0, .int .i64 0]) (t := 33) (i := 1) (v := .int .i64 0) rfl rfl).below hb1
  obtain ⟨d2, e2⟩ := (Cl.new (w := w) (n := w.heap.size) (cs := #[.int .i64 0, .int .i64 0, .int .i64 0, .int .i64 0]) (t := 33) (i := 2) (v := .int .i64 0) rfl rfl).below hb1
  obtain ⟨d3, e3⟩ := (Cl.new (w := w) (n := w.heap.size) (cs := #[.int .i64 0, .int .i64 0, .int .i64 0, .int .i64 0]) (t := 33) (i := 3) (v := .int .i64 0) rfl rfl).below hb1
  go_wp2
  refine bodyPost_ret (v := .agg #[.int .i64 0, .int .i64 0, .int .i64 0, .int .i64 0]) (by simp [results, Try.results16, go_sem, d0, d1, d2, d3]) rfl (denRes_mk HR.out ?_)
  (repeat' (first | (with_reducible exact Below.refl _ _) | (with_reducible refine bel_alloc ?_ ?_ _) | (with_reducible refine Below.setCell ?_ ?_ _) | (with_reducible refine below_drewN ?_ _) | (with_reducible refine Below.drew ?_) | (with_reducible refine bel_step hb1 ?_ ?_) | (with_reducible exact Nat.le_refl _) | (with_reducible assumption) | omega | (simp only [World.size_alloc, World.size_setCell, World.size_drew]; omega) | (simp; omega) | (simp; done)))
set_option maxRecDepth 100000 in
set_option maxHeartbeats 4000000 in
theorem den_s_no (A A' : Option Addr) (c c' : Nat) (xs ys : List T3) (a : Int) (w : World) {B B' : Nat} (hr : Rd w B A (tv xs)) (hs : Rd w B' A' (tv ys)) (hn : xs.length ≤ 1048576) (hm : ys.length ≤ 1048576) (hlay : layOk xs ys = false) :
    Calls Try.prog 18 #[.slice A xs.length c, .slice A' ys.length c', .int .i64 a] w (DenRes (den xs ys a) w) := by
  replace hr := hr.lt
  replace hs := hs.lt
  have HLAY := Lib.hid (fun W (hr : Rd W _ _ _) (hs : Rd W _ _ _) => layoutOk_s (B := w.heap.size) (B' := w.heap.size) A A' c c' xs ys W hr hs hn hm false hlay)
  have HR := Lib.hid (den_no (a := a) hlay)
  clear hlay
  go_enter Try.func18, Try.ntmps18
  go_wp2_with fail
  refine (HLAY.out _ (hr.alloc _) (hs.alloc _)).mono ?_
  rintro e w1 ⟨rfl, hb1⟩
  obtain ⟨d0, e0⟩ := (Cl.new (w := w) (n := w.heap.size) (cs := #[.int .i64 0, .int .i64 0, .int .i64 0, .int .i64 0]) (t := 33) (i := 0) (v := .int .i64 0) rfl rfl).below hb1
  obtain ⟨d1, e1⟩ := (Cl.new (w := w) (n := w.heap.size) (cs := #[.int .i64 0, .int .i64 0, .int .i64 0, .int .i64 0]) (t := 33) (i := 1) (v := .int .i64 0) rfl rfl).below hb1
  obtain ⟨d2, e2⟩ := (Cl.new (w := w) (n := w.heap.size) (cs := #[.int .i64 0, .int .i64 0, .int .i64 0, .int .i64 0]) (t := 33) (i := 2) (v := .int .i64 0) rfl rfl).below hb1
  obtain ⟨d3, e3⟩ := (Cl.new (w := w) (n := w.heap.size) (cs := #[.int .i64 0, .int .i64 0, .int .i64 0, .int .i64 0]) (t := 33) (i := 3) (v := .int .i64 0) rfl rfl).below hb1
  go_wp2
  refine bodyPost_ret (v := .agg #[.int .i64 0, .int .i64 0, .int .i64 0, .int .i64 0]) (by simp [results, Try.results18, go_sem, d0, d1, d2, d3]) rfl (denRes_mk HR.out ?_)
  (repeat' (first | (with_reducible exact Below.refl _ _) | (with_reducible refine bel_alloc ?_ ?_ _) | (with_reducible refine Below.setCell ?_ ?_ _) | (with_reducible refine below_drewN ?_ _) | (with_reducible refine Below.drew ?_) | (with_reducible refine bel_step hb1 ?_ ?_) | (with_reducible exact Nat.le_refl _) | (with_reducible assumption) | omega | (simp only [World.size_alloc, World.size_setCell, World.size_drew]; omega) | (simp; omega) | (simp; done)))
set_option maxRecDepth 100000 in
set_option maxHeartbeats 4000000 in
theorem den_i_yes (A A' : Option Addr) (c c' : Nat) (xs ys : List T3) (a : Int) (w : World) {B B' : Nat} (hr : Rd w B A (tv xs)) (hs : Rd w B' A' (tv ys)) (hn : xs.length ≤ 1048576) (hm : ys.length ≤ 1048576) (hlay : layOk xs ys = true) :
    Calls Try.prog 16 #[.slice A xs.length c, .slice A' ys.length c', .int .i64 a] w (DenRes (den xs ys a) w) := by
  replace hr := hr.lt
  replace hs := hs.lt
  have HLAY := Lib.hid (fun W (hr : Rd W _ _ _) (hs : Rd W _ _ _) => layoutOk_i (B := w.heap.size) (B' := w.heap.size) A A' c c' xs ys W hr hs hn hm true hlay)
  have HR := Lib.hid (den_yes (a := a) hlay)
  clear hlay
  go_enter Try.func16, Try.ntmps16
  go_wp2_with fail
  refine (HLAY.out _ (hr.alloc _) (hs.alloc _)).mono ?_
  rintro e w1 ⟨rfl, hb1⟩
  have hr1 := (hr.alloc (.cells #[.int .i64 0, .int .i64 0, .int .i64 0, .int .i64 0] 33)).below hb1
  have hs1 := (hs.alloc (.cells #[.int .i64 0, .int .i64 0, .int .i64 0, .int .i64 0] 33)).below hb1
  go_wp2_with fail
  refine (denotes_any A A' c c' xs ys a _ hr1 hs1 hn hm).mono ?_
  rintro e w2 ⟨rfl, hb2⟩
  obtain ⟨d0, e0⟩ := ((Cl.new (w := w) (n := w.heap.size) (cs := #[.int .i64 0, .int .i64 0, .int .i64 0, .int .i64 0]) (t := 33) (i := 0) (v := .int .i64 0) rfl rfl).below hb1).below hb2
  obtain ⟨d1, e1⟩ := ((Cl.new (w := w) (n := w.heap.size) (cs := #[.int .i64 0, .int .i64 0, .int .i64 0, .int .i64 0]) (t := 33) (i := 1) (v := .int .i64 0) rfl rfl).below hb1).below hb2
  obtain ⟨d2, e2⟩ := ((Cl.new (w := w) (n := w.heap.size) (cs := #[.int .i64 0, .int .i64 0, .int .i64 0, .int .i64 0]) (t := 33) (i := 2) (v := .int .i64 0) rfl rfl).below hb1).below hb2
  obtain ⟨d3, e3⟩ := ((Cl.new (w := w) (n := w.heap.size) (cs := #[.int .i64 0, .int .i64 0, .int .i64 0, .int .i64 0]) (t := 33) (i := 3) (v := .int .i64 0) rfl rfl).below hb1).below hb2
  have HQ := HR.out
  generalize dS ys a 0 xs = q at *
  obtain ⟨q0, q1, q2, q3⟩ := q
  have HQ2 := Lib.hid HQ
  clear HQ HR
  simp only [vO]
  go_wp2
  refine bodyPost_ret (v := .agg #[.int .i64 q0, .int .i64 q1, .int .i64 q2, .int .i64 q3]) (by simp [results, Try.results16, go_sem, d0, d1, d2, d3]) rfl (denRes_mk HQ2.out ?_)
  (repeat' (first | (with_reducible exact Below.refl _ _) | (with_reducible refine bel_alloc ?_ ?_ _) | (with_reducible refine Below.setCell ?_ ?_ _) | (with_reducible refine below_drewN ?_ _) | (with_reducible refine Below.drew ?_) | (with_reducible refine bel_step hb1 ?_ ?_) | (with_reducible refine bel_step hb2 ?_ ?_) | (with_reducible exact Nat.le_refl _) | (with_reducible assumption) | omega | (simp only [World.size_alloc, World.size_setCell, World.size_drew]; omega) | (simp; omega) | (simp; done)))
set_option maxHeartbeats 1000000 in
theorem den_s_yes (A A' : Option Addr) (c c' : Nat) (xs ys : List T3) (a : Int) (w : World) {B B' : Nat} (hr : Rd w B A (tv xs)) (hs : Rd w B' A' (tv ys)) (hn : xs.length ≤ 1048576) (hm : ys.length ≤ 1048576) (ha : -9223372036854775808 ≤ a ∧ a ≤ 9223372036854775807) (hlay : layOk xs ys = true) :
    Calls Try.prog 18 #[.slice A xs.length c, .slice A' ys.length c', .int .i64 a] w (DenRes (den xs ys a) w) := by
  rw [den_yes hlay]
  exact denotes_s A A' c c' xs ys a w hr hs hn hm ha hlay
theorem den_i (A A' : Option Addr) (c c' : Nat) (xs ys : List T3) (a : Int) (w : World) {B B' : Nat} (hr : Rd w B A (tv xs)) (hs : Rd w B' A' (tv ys)) (hn : xs.length ≤ 1048576) (hm : ys.length ≤ 1048576) :
    Calls Try.prog 16 #[.slice A xs.length c, .slice A' ys.length c', .int .i64 a] w (DenRes (den xs ys a) w) := by
  cases h : layOk xs ys
  · exact den_i_no A A' c c' xs ys a w hr hs hn hm h
  · exact den_i_yes A A' c c' xs ys a w hr hs hn hm h
theorem den_s (A A' : Option Addr) (c c' : Nat) (xs ys : List T3) (a : Int) (w : World) {B B' : Nat} (hr : Rd w B A (tv xs)) (hs : Rd w B' A' (tv ys)) (hn : xs.length ≤ 1048576) (hm : ys.length ≤ 1048576) (ha : -9223372036854775808 ≤ a ∧ a ≤ 9223372036854775807) :
    Calls Try.prog 18 #[.slice A xs.length c, .slice A' ys.length c', .int .i64 a] w (DenRes (den xs ys a) w) := by
  cases h : layOk xs ys
  · exact den_s_no A A' c c' xs ys a w hr hs hn hm h
  · exact den_s_yes A A' c c' xs ys a w hr hs hn hm ha h
def frC (t : T4) : Int := if t.1 = 0 then 3 else if t.2.2.2 ≠ 0 then 1 else if t.1 = 2 then 2 else 0
set_option maxHeartbeats 1000000 in
theorem freeCode_i (A A' : Option Addr) (c c' : Nat) (xs ys : List T3) (a : Int) (w : World) {B B' : Nat} (hr : Rd w B A (tv xs)) (hs : Rd w B' A' (tv ys)) (hn : xs.length ≤ 1048576) (hm : ys.length ≤ 1048576)  :
    Calls Try.prog 15 #[.slice A xs.length c, .slice A' ys.length c', .int .i64 a] w fun e w' => e = .returned (.int .i64 (frC (den xs ys a))) ∧ Below w.heap.size w w' := by
  have HD := Lib.hid (den_i A A' c c' xs ys a w hr hs hn hm )
  have HF := Lib.hid (show frC (den xs ys a) = if (den xs ys a).1 = 0 then 3 else if (den xs ys a).2.2.2 ≠ 0 then 1 else if (den xs ys a).1 = 2 then 2 else 0 from rfl)
  generalize frC (den xs ys a) = v at *
  generalize den xs ys a = q at *
  obtain ⟨q0, q1, q2, q3⟩ := q
  by_cases h0 : q0 = 0
  · have HR := Lib.hid (show v = 3 by rw [HF.out]; simp [h0])
    have hb0 : (q0 == 0) = true := by simpa using h0
    clear h0
    go_enter Try.func15, Try.ntmps15
    go_wp2_with fail
    refine (HD.out).mono ?_
    rintro e w1 ⟨rfl, hb1⟩
    simp only [vO]
    go_wp2
    go_ret
    exact ⟨by rw [HR.out]; rfl, by (repeat' (first | (with_reducible exact Below.refl _ _) | (with_reducible refine bel_alloc ?_ ?_ _) | (with_reducible refine Below.setCell ?_ ?_ _) | (with_reducible refine below_drewN ?_ _) | (with_reducible refine Below.drew ?_) | (with_reducible refine bel_step hb1 ?_ ?_) | (with_reducible exact Nat.le_refl _) | (with_reducible assumption) | omega | (simp only [World.size_alloc, World.size_setCell, World.size_drew]; omega) | (simp; omega) | (simp; done)))⟩
  · have hb0 : (q0 == 0) = false := by simpa using h0
    by_cases h3 : q3 = 0
    · have hb3 : (q3 != 0) = false := by simp [h3]
      by_cases h2 : q0 = 2
      · have HR := Lib.hid (show v = 2 by rw [HF.out]; simp [h3, h2])
        have hb2 : (q0 == 2) = true := by simpa using h2
        clear h0 h2 h3
        go_enter Try.func15, Try.ntmps15
        go_wp2_with fail
        refine (HD.out).mono ?_
        rintro e w1 ⟨rfl, hb1⟩
        simp only [vO]
        go_wp2
        go_ret
        exact ⟨by rw [HR.out]; rfl, by (repeat' (first | (with_reducible exact Below.refl _ _) | (with_reducible refine bel_alloc ?_ ?_ _) | (with_reducible refine Below.setCell ?_ ?_ _) | (with_reducible refine below_drewN ?_ _) | (with_reducible refine Below.drew ?_) | (with_reducible refine bel_step hb1 ?_ ?_) | (with_reducible exact Nat.le_refl _) | (with_reducible assumption) | omega | (simp only [World.size_alloc, World.size_setCell, World.size_drew]; omega) | (simp; omega) | (simp; done)))⟩
      · have HR := Lib.hid (show v = 0 by rw [HF.out]; simp [h3, h2, h0])
        have hb2 : (q0 == 2) = false := by simpa using h2
        clear h0 h2 h3
        go_enter Try.func15, Try.ntmps15
        go_wp2_with fail
        refine (HD.out).mono ?_
        rintro e w1 ⟨rfl, hb1⟩
        simp only [vO]
        go_wp2
        go_ret
        exact ⟨by rw [HR.out]; rfl, by (repeat' (first | (with_reducible exact Below.refl _ _) | (with_reducible refine bel_alloc ?_ ?_ _) | (with_reducible refine Below.setCell ?_ ?_ _) | (with_reducible refine below_drewN ?_ _) | (with_reducible refine Below.drew ?_) | (with_reducible refine bel_step hb1 ?_ ?_) | (with_reducible exact Nat.le_refl _) | (with_reducible assumption) | omega | (simp only [World.size_alloc, World.size_setCell, World.size_drew]; omega) | (simp; omega) | (simp; done)))⟩
    · have HR := Lib.hid (show v = 1 by rw [HF.out]; simp [h3, h0])
      have hb3 : (q3 != 0) = true := by simp [h3]
      clear h0 h3
      go_enter Try.func15, Try.ntmps15
      go_wp2_with fail
      refine (HD.out).mono ?_
      rintro e w1 ⟨rfl, hb1⟩
      simp only [vO]
      go_wp2
      go_ret
      exact ⟨by rw [HR.out]; rfl, by (repeat' (first | (with_reducible exact Below.refl _ _) | (with_reducible refine bel_alloc ?_ ?_ _) | (with_reducible refine Below.setCell ?_ ?_ _) | (with_reducible refine below_drewN ?_ _) | (with_reducible refine Below.drew ?_) | (with_reducible refine bel_step hb1 ?_ ?_) | (with_reducible exact Nat.le_refl _) | (with_reducible assumption) | omega | (simp only [World.size_alloc, World.size_setCell, World.size_drew]; omega) | (simp; omega) | (simp; done)))⟩
set_option maxHeartbeats 1000000 in
theorem freeCode_s (A A' : Option Addr) (c c' : Nat) (xs ys : List T3) (a : Int) (w : World) {B B' : Nat} (hr : Rd w B A (tv xs)) (hs : Rd w B' A' (tv ys)) (hn : xs.length ≤ 1048576) (hm : ys.length ≤ 1048576) (ha : -9223372036854775808 ≤ a ∧ a ≤ 9223372036854775807) :
    Calls Try.prog 35 #[.slice A xs.length c, .slice A' ys.length c', .int .i64 a] w fun e w' => e = .returned (.int .i64 (frC (den xs ys a))) ∧ Below w.heap.size w w' := by
  have HD := Lib.hid (den_s A A' c c' xs ys a w hr hs hn hm ha)
  have HF := Lib.hid (show frC (den xs ys a) = if (den xs ys a).1 = 0 then 3 else if (den xs ys a).2.2.2 ≠ 0 then 1 else if (den xs ys a).1 = 2 then 2 else 0 from rfl)
  generalize frC (den xs ys a) = v at *
  generalize den xs ys a = q at *
  obtain ⟨q0, q1, q2, q3⟩ := q
  by_cases h0 : q0 = 0
  · have HR := Lib.hid (show v = 3 by rw [HF.out]; simp [h0])
    have hb0 : (q0 == 0) = true := by simpa using h0
    clear h0
    go_enter Try.func35, Try.ntmps35
    go_wp2_with fail
    refine (HD.out).mono ?_
    rintro e w1 ⟨rfl, hb1⟩
    simp only [vO]
    go_wp2
    go_ret
    exact ⟨by rw [HR.out]; rfl, by (repeat' (first | (with_reducible exact Below.refl _ _) | (with_reducible refine bel_alloc ?_ ?_ _) | (with_reducible refine Below.setCell ?_ ?_ _) | (with_reducible refine below_drewN ?_ _) | (with_reducible refine Below.drew ?_) | (with_reducible refine bel_step hb1 ?_ ?_) | (with_reducible exact Nat.le_refl _) | (with_reducible assumption) | omega | (simp only [World.size_alloc, World.size_setCell, World.size_drew]; omega) | (simp; omega) | (simp; done)))⟩
  · have hb0 : (q0 == 0) = false := by simpa using h0
    by_cases h3 : q3 = 0
    · have hb3 : (q3 != 0) = false := by simp [h3]
      by_cases h2 : q0 = 2
      · have HR := Lib.hid (show v = 2 by rw [HF.out]; simp [h3, h2])
        have hb2 : (q0 == 2) = true := by simpa using h2
        clear h0 h2 h3
        go_enter Try.func35, Try.ntmps35
        go_wp2_with fail
        refine (HD.out).mono ?_
        rintro e w1 ⟨rfl, hb1⟩
        simp only [vO]
        go_wp2
        go_ret
        exact ⟨by rw [HR.out]; rfl, by (repeat' (first | (with_reducible exact Below.refl _ _) | (with_reducible refine bel_alloc ?_ ?_ _) | (with_reducible refine Below.setCell ?_ ?_ _) | (with_reducible refine below_drewN ?_ _) | (with_reducible refine Below.drew ?_) | (with_reducible refine bel_step hb1 ?_ ?_) | (with_reducible exact Nat.le_refl _) | (with_reducible assumption) | omega | (simp only [World.size_alloc, World.size_setCell, World.size_drew]; omega) | (simp; omega) | (simp; done)))⟩
      · have HR := Lib.hid (show v = 0 by rw [HF.out]; simp [h3, h2, h0])
        have hb2 : (q0 == 2) = false := by simpa using h2
        clear h0 h2 h3
        go_enter Try.func35, Try.ntmps35
        go_wp2_with fail
        refine (HD.out).mono ?_
        rintro e w1 ⟨rfl, hb1⟩
        simp only [vO]
        go_wp2
        go_ret
        exact ⟨by rw [HR.out]; rfl, by (repeat' (first | (with_reducible exact Below.refl _ _) | (with_reducible refine bel_alloc ?_ ?_ _) | (with_reducible refine Below.setCell ?_ ?_ _) | (with_reducible refine below_drewN ?_ _) | (with_reducible refine Below.drew ?_) | (with_reducible refine bel_step hb1 ?_ ?_) | (with_reducible exact Nat.le_refl _) | (with_reducible assumption) | omega | (simp only [World.size_alloc, World.size_setCell, World.size_drew]; omega) | (simp; omega) | (simp; done)))⟩
    · have HR := Lib.hid (show v = 1 by rw [HF.out]; simp [h3, h0])
      have hb3 : (q3 != 0) = true := by simp [h3]
      clear h0 h3
      go_enter Try.func35, Try.ntmps35
      go_wp2_with fail
      refine (HD.out).mono ?_
      rintro e w1 ⟨rfl, hb1⟩
      simp only [vO]
      go_wp2
      go_ret
      exact ⟨by rw [HR.out]; rfl, by (repeat' (first | (with_reducible exact Below.refl _ _) | (with_reducible refine bel_alloc ?_ ?_ _) | (with_reducible refine Below.setCell ?_ ?_ _) | (with_reducible refine below_drewN ?_ _) | (with_reducible refine Below.drew ?_) | (with_reducible refine bel_step hb1 ?_ ?_) | (with_reducible exact Nat.le_refl _) | (with_reducible assumption) | omega | (simp only [World.size_alloc, World.size_setCell, World.size_drew]; omega) | (simp; omega) | (simp; done)))⟩
end Go.Proofs.Ytjimpmdelnnflaa
