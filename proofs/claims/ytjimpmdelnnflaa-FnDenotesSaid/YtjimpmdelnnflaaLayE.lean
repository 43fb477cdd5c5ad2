/- Denotes: what it computes; denotes of the program. -/
import Derived.Test.YtjimpmdelnnflaaLayC
import Derived.Test.YtjimpmdelnnflaaSpanC
import Derived.Test.YtjimpmdelnnflaaLargeK
namespace Go.Proofs.Ytjimpmdelnnflaa
open Go.ChangeShapes Go.WideShapes Go.ChangeAt Go.RowKit Go.Maps
set_option linter.unusedVariables false
set_option linter.unusedSimpArgs false

abbrev T4 := Int × Int × Int × Int
def atS (x : T3) (a : Int) : Int := sAt x.1 x.2.1 x.2.2 a
def ofS (x : T3) (a : Int) : Int := sOf x.1 x.2.1 x.2.2 a
def hasL (y : T3) (a : Int) : Bool := lHas y.1 y.2.1 y.2.2 a
def offL (y : T3) (a : Int) : Int := lOff y.1 y.2.1 y.2.2 a
def ownS (x : T3) (i : Nat) (a : Int) : T4 := (if hasS x.2.2 (atS x a) then 1 else 2, (i : Int), atS x a, ofS x a)
def ownL (y : T3) (i : Nat) (a : Int) : T4 := (3, (i : Int), 0, offL y a)
def dL (a : Int) : Nat → List T3 → T4
  | _, [] => (0, 0, 0, 0)
  | i, y :: l => if hasL y a then ownL y i a else dL a (i + 1) l
def dS (ys : List T3) (a : Int) : Nat → List T3 → T4
  | _, [] => dL a 0 ys
  | i, x :: l => if atS x a < 0 then dS ys a (i + 1) l else ownS x i a
/-- The owner of an address. -/
def den (xs ys : List T3) (a : Int) : T4 := if layOk xs ys then dS ys a 0 xs else (0, 0, 0, 0)
theorem dS_skip (ys : List T3) (a : Int) : ∀ (xs : List T3) (i k : Nat), k ≤ xs.length → (∀ j (hj : j < xs.length), j < k → atS xs[j] a < 0) → dS ys a i xs = dS ys a (i + k) (xs.drop k)
  | xs, i, 0, _, _ => by simp
  | [], i, k + 1, h, _ => by simp at h
  | x :: l, i, k + 1, h, hall => by
    have h0 := hall 0 (by simp) (by omega)
    have ih := dS_skip ys a l (i + 1) k (by simpa using h) (fun j hj hk => by have := hall (j + 1) (by simpa using hj) (by omega); simpa using this)
    simp only [List.getElem_cons_zero] at h0
    rw [dS, if_pos h0, ih, List.drop_succ_cons, show i + 1 + k = i + (k + 1) by omega]
theorem dL_skip (a : Int) : ∀ (ys : List T3) (i k : Nat), k ≤ ys.length → (∀ j (hj : j < ys.length), j < k → hasL ys[j] a = false) → dL a i ys = dL a (i + k) (ys.drop k)
  | ys, i, 0, _, _ => by simp
  | [], i, k + 1, h, _ => by simp at h
  | y :: l, i, k + 1, h, hall => by
    have h0 := hall 0 (by simp) (by omega)
    have ih := dL_skip a l (i + 1) k (by simpa using h) (fun j hj hk => by have := hall (j + 1) (by simpa using hj) (by omega); simpa using this)
    simp only [List.getElem_cons_zero] at h0
    rw [dL, h0, if_neg (by simp), ih, List.drop_succ_cons, show i + 1 + k = i + (k + 1) by omega]
theorem dS_hit {xs ys : List T3} {a : Int} {k : Nat} (hk : k < xs.length) (h : ∀ j (hj : j < xs.length), j < k → atS xs[j] a < 0) (h2 : ¬ atS xs[k] a < 0) : dS ys a 0 xs = ownS xs[k] k a := by
  rw [dS_skip ys a xs 0 k (by omega) h, List.drop_eq_getElem_cons hk, dS, if_neg h2, Nat.zero_add]
theorem dS_end {xs ys : List T3} {a : Int} (h : ∀ j (hj : j < xs.length), atS xs[j] a < 0) : dS ys a 0 xs = dL a 0 ys := by
  rw [dS_skip ys a xs 0 xs.length (Nat.le_refl _) (fun j hj _ => h j hj), List.drop_length, dS]
theorem dL_hit {ys : List T3} {a : Int} {k : Nat} (hk : k < ys.length) (h : ∀ j (hj : j < ys.length), j < k → hasL ys[j] a = false) (h2 : hasL ys[k] a = true) : dL a 0 ys = ownL ys[k] k a := by
  rw [dL_skip a ys 0 k (by omega) h, List.drop_eq_getElem_cons hk, dL, if_pos h2, Nat.zero_add]
theorem dL_end {ys : List T3} {a : Int} (h : ∀ j (hj : j < ys.length), hasL ys[j] a = false) : dL a 0 ys = (0, 0, 0, 0) := by
  rw [dL_skip a ys 0 ys.length (Nat.le_refl _) (fun j hj _ => h j hj), List.drop_length, dL]
def vO (t : T4) : Value := .agg #[.int .i64 t.1, .int .i64 t.2.1, .int .i64 t.2.2.1, .int .i64 t.2.2.2]
def DenRes (t : T4) (w : World) (e : Ending) (w' : World) : Prop := e = .returned (vO t) ∧ Below w.heap.size w w'
theorem denRes_mk {w w' : World} {t : T4} {p q r s : Int} (h : t = (p, q, r, s)) (hb : Below w.heap.size w w') : DenRes t w (.returned (.agg #[.int .i64 p, .int .i64 q, .int .i64 r, .int .i64 s])) w' := by
  subst h
  exact ⟨rfl, hb⟩
set_option maxRecDepth 100000 in
set_option maxHeartbeats 4000000 in
theorem denotes_any (A A' : Option Addr) (c c' : Nat) (xs ys : List T3) (a : Int) (w : World) {B B' : Nat} (hr : Rd w B A (tv xs)) (hs : Rd w B' A' (tv ys)) (hn : xs.length ≤ 1048576) (hm : ys.length ≤ 1048576) :
    Calls Try.prog 43 #[.slice A xs.length c, .slice A' ys.length c', .int .i64 a] w (DenRes (dS ys a 0 xs) w) := by
  replace hr := hr.lt
  replace hs := hs.lt
  go_enter Try.func43, Try.ntmps43
  go_wp2
  go_loopw [16] (fun v wr => ∃ k : Nat, k ≤ xs.length ∧ v = .int .i64 k ∧ (∀ j (hj : j < xs.length), j < k → atS xs[j] a < 0) ∧ Below w.heap.size w wr ∧ Below (w.alloc (.cells #[.int .i64 0, .int .i64 0, .int .i64 0, .int .i64 0] 33)).heap.size (w.alloc (.cells #[.int .i64 0, .int .i64 0, .int .i64 0, .int .i64 0] 33)) wr) (fun v _ => xs.length - (intOf v).toNat)
  case atStart => exact ⟨0, Nat.zero_le _, rfl, fun j _ hj => absurd hj (by omega), by (repeat' (first | (with_reducible exact Below.refl _ _) | (with_reducible refine bel_alloc ?_ ?_ _) | (with_reducible refine Below.setCell ?_ ?_ _) | (with_reducible refine below_drewN ?_ _) | (with_reducible refine Below.drew ?_) | (with_reducible exact Nat.le_refl _) | (with_reducible assumption) | omega | (simp only [World.size_alloc, World.size_setCell, World.size_drew]; omega) | (simp; omega) | (simp; done))), Below.refl _ _⟩
  case round =>
    obtain ⟨k, hk, rfl, hall, hbr, hbo⟩ := hrel
    have HA := Lib.hid hall
    clear hall
    have r0 : Cl wr ⟨w.heap.size, 0, none⟩ (.int .i64 0) := Cl.below (Cl.new rfl rfl) hbo
    have r1 : Cl wr ⟨w.heap.size, 1, none⟩ (.int .i64 0) := Cl.below (Cl.new rfl rfl) hbo
    have r2 : Cl wr ⟨w.heap.size, 2, none⟩ (.int .i64 0) := Cl.below (Cl.new rfl rfl) hbo
    have r3 : Cl wr ⟨w.heap.size, 3, none⟩ (.int .i64 0) := Cl.below (Cl.new rfl rfl) hbo
    by_cases hlt : k < xs.length
    · obtain ⟨b, off, rfl, -, hc0, hc1, hc2⟩ := (hr.below hbr).trip hlt
      have HK := Lib.hid (show atS xs[k] a = sAt xs[k].1 xs[k].2.1 xs[k].2.2 a from rfl)
      have HOF := Lib.hid (show ofS xs[k] a = sOf xs[k].1 xs[k].2.1 xs[k].2.2 a from rfl)
      have HHS := Lib.hid (show xs[k].2.2 = xs[k].2.2 from rfl)
      have HC := Lib.hid (fun W => slotAt_i xs[k].1 xs[k].2.1 xs[k].2.2 a W)
      by_cases hneg : atS xs[k] a < 0
      · have hn0 : sAt xs[k].1 xs[k].2.1 xs[k].2.2 a < 0 := by rw [← HK.out]; exact hneg
        have HN := Lib.hid hneg
        clear hneg HHS
        generalize sAt xs[k].1 xs[k].2.1 xs[k].2.2 a = sa at *
        generalize sOf xs[k].1 xs[k].2.1 xs[k].2.2 a = so at *
        generalize xs[k].1 = x1 at *
        generalize xs[k].2.1 = x2 at *
        generalize xs[k].2.2 = x3 at *
        clear r0 r1 r2 r3
        go_wp2_with fail
        refine (HC.out _).mono ?_
        rintro e w5 ⟨rfl, hb5⟩
        go_wp2
        go_roundw
        case rel =>
          refine ⟨k + 1, by omega, by go_num, fun j hj hjk => ?_, by (repeat' (first | (with_reducible exact Below.refl _ _) | (with_reducible refine bel_alloc ?_ ?_ _) | (with_reducible refine Below.setCell ?_ ?_ _) | (with_reducible refine below_drewN ?_ _) | (with_reducible refine Below.drew ?_) | (with_reducible refine bel_step hbr ?_ ?_) | (with_reducible refine bel_step hb5 ?_ ?_) | (with_reducible exact Nat.le_refl _) | (with_reducible assumption) | omega | (simp only [World.size_alloc, World.size_setCell, World.size_drew]; omega) | (simp; omega) | (simp; done))), ?_⟩
          · by_cases e : j = k
            · subst e; exact HN.out
            · exact HA.out j hj (by omega)
          · exact bel_step hb5 (bel_alloc hbo (Nat.le_refl _) _) (Nat.le_refl _)
        case measure => simp [intOf]; omega
      · have HD := Lib.hid (dS_hit (ys := ys) hlt HA.out hneg)
        have hn0 : ¬ sAt xs[k].1 xs[k].2.1 xs[k].2.2 a < 0 := by rw [← HK.out]; exact hneg
        have HS := Lib.hid (fun W => hasSlot_i xs[k].2.2 (sAt xs[k].1 xs[k].2.1 xs[k].2.2 a) W)
        have HE := Lib.hid (show ownS xs[k] k a = (if hasS xs[k].2.2 (sAt xs[k].1 xs[k].2.1 xs[k].2.2 a) then 1 else 2, (k : Int), sAt xs[k].1 xs[k].2.1 xs[k].2.2 a, sOf xs[k].1 xs[k].2.1 xs[k].2.2 a) from rfl)
        clear HHS hneg
        generalize sAt xs[k].1 xs[k].2.1 xs[k].2.2 a = sa at *
        generalize sOf xs[k].1 xs[k].2.1 xs[k].2.2 a = so at *
        generalize xs[k].1 = x1 at *
        generalize xs[k].2.1 = x2 at *
        generalize xs[k].2.2 = x3 at *
        cases hh : hasS x3 sa with
        | true =>
          have HR := Lib.hid (show dS ys a 0 xs = (1, (k : Int), sa, so) by rw [HD.out, HE.out, hh]; rfl)
          rw [hh] at HS
          clear hh HE HD
          go_wp2_with fail
          refine (HC.out _).mono ?_
          rintro e w5 ⟨rfl, hb5⟩
          have l0 : w5.cell? ⟨wr.heap.size, 0, none⟩ = some (.int .i64 x1) := keep hb5 (by simp [go_sem])
          have l1 : w5.cell? ⟨wr.heap.size, 1, none⟩ = some (.int .i64 x2) := keep hb5 (by simp [go_sem])
          have l2 : w5.cell? ⟨wr.heap.size, 2, none⟩ = some (.int .i64 x3) := keep hb5 (by simp [go_sem])
          obtain ⟨d0, e0⟩ := (r0.alloc (.cells #[.int .i64 x1, .int .i64 x2, .int .i64 x3] 50)).below hb5
          obtain ⟨d1, e1⟩ := (r1.alloc (.cells #[.int .i64 x1, .int .i64 x2, .int .i64 x3] 50)).below hb5
          obtain ⟨d2, e2⟩ := (r2.alloc (.cells #[.int .i64 x1, .int .i64 x2, .int .i64 x3] 50)).below hb5
          obtain ⟨d3, e3⟩ := (r3.alloc (.cells #[.int .i64 x1, .int .i64 x2, .int .i64 x3] 50)).below hb5
          clear r0 r1 r2 r3
          go_wp2_with (go_at_call 40; refine (HS.out _).mono ?_; rintro e w6 ⟨rfl, rfl⟩)
          refine bodyPost_ret (v := .agg #[.int .i64 1, .int .i64 k, .int .i64 sa, .int .i64 so]) (by simp [results, Try.results43, go_sem, d0, d1, d2, d3]) rfl (denRes_mk HR.out ?_)
          (repeat' (first | (with_reducible exact Below.refl _ _) | (with_reducible refine bel_alloc ?_ ?_ _) | (with_reducible refine Below.setCell ?_ ?_ _) | (with_reducible refine below_drewN ?_ _) | (with_reducible refine Below.drew ?_) | (with_reducible refine bel_step hbr ?_ ?_) | (with_reducible refine bel_step hb5 ?_ ?_) | (with_reducible exact Nat.le_refl _) | (with_reducible assumption) | omega | (simp only [World.size_alloc, World.size_setCell, World.size_drew]; omega) | (simp; omega) | (simp; done)))
        | false =>
          have HR := Lib.hid (show dS ys a 0 xs = (2, (k : Int), sa, so) by rw [HD.out, HE.out, hh]; rfl)
          rw [hh] at HS
          clear hh HE HD
          go_wp2_with fail
          refine (HC.out _).mono ?_
          rintro e w5 ⟨rfl, hb5⟩
          have l0 : w5.cell? ⟨wr.heap.size, 0, none⟩ = some (.int .i64 x1) := keep hb5 (by simp [go_sem])
          have l1 : w5.cell? ⟨wr.heap.size, 1, none⟩ = some (.int .i64 x2) := keep hb5 (by simp [go_sem])
          have l2 : w5.cell? ⟨wr.heap.size, 2, none⟩ = some (.int .i64 x3) := keep hb5 (by simp [go_sem])
          obtain ⟨d0, e0⟩ := (r0.alloc (.cells #[.int .i64 x1, .int .i64 x2, .int .i64 x3] 50)).below hb5
          obtain ⟨d1, e1⟩ := (r1.alloc (.cells #[.int .i64 x1, .int .i64 x2, .int .i64 x3] 50)).below hb5
          obtain ⟨d2, e2⟩ := (r2.alloc (.cells #[.int .i64 x1, .int .i64 x2, .int .i64 x3] 50)).below hb5
          obtain ⟨d3, e3⟩ := (r3.alloc (.cells #[.int .i64 x1, .int .i64 x2, .int .i64 x3] 50)).below hb5
          clear r0 r1 r2 r3
          go_wp2_with (go_at_call 40; refine (HS.out _).mono ?_; rintro e w6 ⟨rfl, rfl⟩)
          refine bodyPost_ret (v := .agg #[.int .i64 2, .int .i64 k, .int .i64 sa, .int .i64 so]) (by simp [results, Try.results43, go_sem, d0, d1, d2, d3]) rfl (denRes_mk HR.out ?_)
          (repeat' (first | (with_reducible exact Below.refl _ _) | (with_reducible refine bel_alloc ?_ ?_ _) | (with_reducible refine Below.setCell ?_ ?_ _) | (with_reducible refine below_drewN ?_ _) | (with_reducible refine Below.drew ?_) | (with_reducible refine bel_step hbr ?_ ?_) | (with_reducible refine bel_step hb5 ?_ ?_) | (with_reducible exact Nat.le_refl _) | (with_reducible assumption) | omega | (simp only [World.size_alloc, World.size_setCell, World.size_drew]; omega) | (simp; omega) | (simp; done)))
    · obtain rfl : k = xs.length := by omega
      have HD := Lib.hid (dS_end (ys := ys) (fun j hj => HA.out j hj hj))
      clear r0 r1 r2 r3
      go_wp2
      go_loopw [41] (fun v wr => ∃ k : Nat, k ≤ ys.length ∧ v = .int .i64 k ∧ (∀ j (hj : j < ys.length), j < k → hasL ys[j] a = false) ∧ Below w.heap.size w wr ∧ Below (w.alloc (.cells #[.int .i64 0, .int .i64 0, .int .i64 0, .int .i64 0] 33)).heap.size (w.alloc (.cells #[.int .i64 0, .int .i64 0, .int .i64 0, .int .i64 0] 33)) wr) (fun v _ => ys.length - (intOf v).toNat)
      case atStart => exact ⟨0, Nat.zero_le _, rfl, fun j _ hj => absurd hj (by omega), hbr, hbo⟩
      case round =>
        obtain ⟨wx, hwx⟩ : ∃ wx : World, wx = wr := ⟨_, rfl⟩
        subst hwx
        clear hbr hbo
        obtain ⟨k, hk, rfl, hall, hbr, hbo⟩ := hrel
        have HA := Lib.hid hall
        clear hall
        have r0 : Cl wx ⟨w.heap.size, 0, none⟩ (.int .i64 0) := Cl.below (Cl.new rfl rfl) hbo
        have r1 : Cl wx ⟨w.heap.size, 1, none⟩ (.int .i64 0) := Cl.below (Cl.new rfl rfl) hbo
        have r2 : Cl wx ⟨w.heap.size, 2, none⟩ (.int .i64 0) := Cl.below (Cl.new rfl rfl) hbo
        have r3 : Cl wx ⟨w.heap.size, 3, none⟩ (.int .i64 0) := Cl.below (Cl.new rfl rfl) hbo
        by_cases hlt : k < ys.length
        · obtain ⟨b, off, rfl, -, hc0, hc1, hc2⟩ := (hs.below hbr).trip hlt
          have HC := Lib.hid (fun W => largeHas_i ys[k].1 ys[k].2.1 ys[k].2.2 a W)
          cases hh : hasL ys[k] a with
          | false =>
            have hh2 : lHas ys[k].1 ys[k].2.1 ys[k].2.2 a = false := hh
            rw [hh2] at HC
            have HN := Lib.hid hh
            clear hh hh2 r0 r1 r2 r3
            generalize ys[k].1 = x1 at *
            generalize ys[k].2.1 = x2 at *
            generalize ys[k].2.2 = x3 at *
            go_wp2_with fail
            refine (HC.out _).mono ?_
            rintro e w5 ⟨rfl, hb5⟩
            go_wp2
            go_roundw
            case rel =>
              refine ⟨k + 1, by omega, by go_num, fun j hj hjk => ?_, by (repeat' (first | (with_reducible exact Below.refl _ _) | (with_reducible refine bel_alloc ?_ ?_ _) | (with_reducible refine Below.setCell ?_ ?_ _) | (with_reducible refine below_drewN ?_ _) | (with_reducible refine Below.drew ?_) | (with_reducible refine bel_step hbr ?_ ?_) | (with_reducible refine bel_step hb5 ?_ ?_) | (with_reducible exact Nat.le_refl _) | (with_reducible assumption) | omega | (simp only [World.size_alloc, World.size_setCell, World.size_drew]; omega) | (simp; omega) | (simp; done))), ?_⟩
              · by_cases e : j = k
                · subst e; exact HN.out
                · exact HA.out j hj (by omega)
              · exact bel_step hb5 (bel_alloc hbo (Nat.le_refl _) _) (Nat.le_refl _)
            case measure => simp [intOf]; omega
          | true =>
            have hh2 : lHas ys[k].1 ys[k].2.1 ys[k].2.2 a = true := hh
            rw [hh2] at HC
            have HF := Lib.hid (fun W => largeOffset_i ys[k].1 ys[k].2.1 ys[k].2.2 a W)
            have HR := Lib.hid (show dS ys a 0 xs = (3, (k : Int), 0, lOff ys[k].1 ys[k].2.1 ys[k].2.2 a) by rw [HD.out, dL_hit hlt HA.out hh]; rfl)
            clear hh hh2 HD
            generalize lOff ys[k].1 ys[k].2.1 ys[k].2.2 a = lo at *
            generalize ys[k].1 = x1 at *
            generalize ys[k].2.1 = x2 at *
            generalize ys[k].2.2 = x3 at *
            go_wp2_with fail
            refine (HC.out _).mono ?_
            rintro e w5 ⟨rfl, hb5⟩
            have l0 : w5.cell? ⟨wx.heap.size, 0, none⟩ = some (.int .i64 x1) := keep hb5 (by simp [go_sem])
            have l1 : w5.cell? ⟨wx.heap.size, 1, none⟩ = some (.int .i64 x2) := keep hb5 (by simp [go_sem])
            have l2 : w5.cell? ⟨wx.heap.size, 2, none⟩ = some (.int .i64 x3) := keep hb5 (by simp [go_sem])
            go_wp2_with fail
            refine (HF.out _).mono ?_
            rintro e w6 ⟨rfl, hb6⟩
            obtain ⟨d0, e0⟩ := ((r0.alloc (.cells #[.int .i64 x1, .int .i64 x2, .int .i64 x3] 62)).below hb5).below hb6
            obtain ⟨d1, e1⟩ := ((r1.alloc (.cells #[.int .i64 x1, .int .i64 x2, .int .i64 x3] 62)).below hb5).below hb6
            obtain ⟨d2, e2⟩ := ((r2.alloc (.cells #[.int .i64 x1, .int .i64 x2, .int .i64 x3] 62)).below hb5).below hb6
            obtain ⟨d3, e3⟩ := ((r3.alloc (.cells #[.int .i64 x1, .int .i64 x2, .int .i64 x3] 62)).below hb5).below hb6
            clear r0 r1 r2 r3
            go_wp2
            refine bodyPost_ret (v := .agg #[.int .i64 3, .int .i64 k, .int .i64 0, .int .i64 lo]) (by simp [results, Try.results43, go_sem, d0, d1, d2, d3]) rfl (denRes_mk HR.out ?_)
            (repeat' (first | (with_reducible exact Below.refl _ _) | (with_reducible refine bel_alloc ?_ ?_ _) | (with_reducible refine Below.setCell ?_ ?_ _) | (with_reducible refine below_drewN ?_ _) | (with_reducible refine Below.drew ?_) | (with_reducible refine bel_step hbr ?_ ?_) | (with_reducible refine bel_step hb5 ?_ ?_) | (with_reducible refine bel_step hb6 ?_ ?_) | (with_reducible exact Nat.le_refl _) | (with_reducible assumption) | omega | (simp only [World.size_alloc, World.size_setCell, World.size_drew]; omega) | (simp; omega) | (simp; done)))
        · obtain rfl : k = ys.length := by omega
          have HR := Lib.hid (show dS ys a 0 xs = (0, 0, 0, 0) by rw [HD.out]; exact dL_end (fun j hj => HA.out j hj hj))
          obtain ⟨d0, e0⟩ := r0
          obtain ⟨d1, e1⟩ := r1
          obtain ⟨d2, e2⟩ := r2
          obtain ⟨d3, e3⟩ := r3
          clear HD
          go_wp2
          refine bodyPost_ret (v := .agg #[.int .i64 0, .int .i64 0, .int .i64 0, .int .i64 0]) (by simp [results, Try.results43, go_sem, d0, d1, d2, d3]) rfl (denRes_mk HR.out ?_)
          (repeat' (first | (with_reducible exact Below.refl _ _) | (with_reducible refine bel_alloc ?_ ?_ _) | (with_reducible refine Below.setCell ?_ ?_ _) | (with_reducible refine below_drewN ?_ _) | (with_reducible refine Below.drew ?_) | (with_reducible refine bel_step hbr ?_ ?_) | (with_reducible exact Nat.le_refl _) | (with_reducible assumption) | omega | (simp only [World.size_alloc, World.size_setCell, World.size_drew]; omega) | (simp; omega) | (simp; done)))
end Go.Proofs.Ytjimpmdelnnflaa
