/- copyTable, copyMachine, of the program and of the reference. -/
import Derived.Test.YtljholnnhogdkaaGCpF
import Derived.Test.YtljholnnhogdkaaL2
import Derived.Test.YtljholnnhogdkaaIntN
import Derived.Deep.RegionHeld3
import Derived.Deep.RegionLaw
import Derived.Deep.DrawnRows
namespace Go.Proofs.Ytljholnnhogdkaa
open Go.ChangeShapes Go.WideShapes Go.ChangeAt Go.RowKit
set_option linter.unusedVariables false
set_option linter.unusedSimpArgs false
attribute [local go_sem ↓] Go.wp_at_zero Go.wp_at_succ

def MadeTableO (es : List En) (w : World) (e : Ending) (w' : World) : Prop :=
  ∃ A c S, e = .returned (.agg #[.slice A es.length c]) ∧ Wr w' S A (pv es) ∧ New S w w' ∧ Below w.heap.size w w'
set_option maxHeartbeats 4000000 in
theorem copyTable_i (A : Option Addr) (c : Nat) (es : List En) (w : World) {B : Nat} (hr : Rd w B A (pv es)) (hn : es.length ≤ 1048576) :
    Calls Try.prog 71 #[.agg #[.slice A es.length c]] w (MadeTableO es w) := by
  obtain ⟨l0, hl, lz0, lz1, lz2⟩ := info_parts infoEntry
  have hO0 := own_lit (w := (w.alloc (.cells #[.slice A es.length c] 45)).alloc (.cells #[.slice none 0 0] 45)) (g := w.heap.size + 1 + 1) (e := 79) (size := 2) (by simp)
  have f0 : Cl (((w.alloc (.cells #[.slice A es.length c] 45)).alloc (.cells #[.slice none 0 0] 45)).alloc (.cells #[] 79)) ⟨w.heap.size + 1, 0, none⟩ (.slice none 0 0) := by constructor <;> simp [go_sem]
  have hbw : Below w.heap.size w (((w.alloc (.cells #[.slice A es.length c] 45)).alloc (.cells #[.slice none 0 0] 45)).alloc (.cells #[] 79)) := by (repeat' (first | (with_reducible exact Below.refl _ _) | (with_reducible refine bel_alloc ?_ ?_ _) | (with_reducible refine Below.setCell ?_ ?_ _) | (with_reducible refine below_drewN ?_ _) | (with_reducible refine Below.drew ?_) | (with_reducible exact Nat.le_refl _) | (with_reducible assumption) | omega | (simp only [World.size_alloc, World.size_setCell, World.size_drew]; omega) | (simp; omega) | (simp; done)))
  go_enter Try.func71, Try.ntmps71
  go_wp2_with (at_builtin; refine wpList_append_new rfl (.tmp 3) (.tmp 5) _ rfl 79 l0 (.agg #[.int .i64 0, .int .i64 0]) 2 16 Try.underlying43 hl lz0 lz1 lz2 rfl (by omega) (w.heap.size + 1 + 1) rfl hO0 A es.length c (pv es) rfl (pv_length _) (((hr.alloc _).alloc _).alloc _) (pv_one _) (by unfold maxLen; omega) (by omega) (by simp) ?_; intro A9 c9 w9 ho9 hS9 hA9; have f9 := f0.outS hS9 (by simp); have f9c := f9.1; have f9f := f9.2)
  have hz9 := hS9.size
  simp only [World.size_alloc] at hz9
  have hb9 : Below w.heap.size w w9 := bel_outS hS9 (fun b hb => by omega) hbw (Nat.le_refl _)
  refine bodyPost_ret (v := .agg #[.slice A9 es.length c9]) (by simp [results, Try.results71, go_sem, f9c]) rfl ⟨A9, c9, fun b => w.heap.size + 1 + 1 ≤ b ∧ b < w9.heap.size, rfl, ho9.wr.setOut _ (fun h => by omega), fun b hb => by simp; omega, ?_⟩
  (repeat' (first | (with_reducible exact Below.refl _ _) | (with_reducible refine bel_alloc ?_ ?_ _) | (with_reducible refine Below.setCell ?_ ?_ _) | (with_reducible refine below_drewN ?_ _) | (with_reducible refine Below.drew ?_) | (with_reducible refine bel_step hb9 ?_ ?_) | (with_reducible exact Nat.le_refl _) | (with_reducible assumption) | omega | (simp only [World.size_alloc, World.size_setCell, World.size_drew]; omega) | (simp; omega) | (simp; done)))
set_option maxHeartbeats 4000000 in
theorem l06Copy_s (A : Option Addr) (c : Nat) (es : List En) (w : World) {B : Nat} (hr : Rd w B A (pv es)) (hn : es.length ≤ 1048576) :
    Calls Try.prog 74 #[.agg #[.slice A es.length c]] w (MadeTableO es w) := by
  obtain ⟨l0, hl, lz0, lz1, lz2⟩ := info_parts infoEntry
  have hO0 := own_lit (w := (w.alloc (.cells #[.slice A es.length c] 45)).alloc (.cells #[.slice none 0 0] 45)) (g := w.heap.size + 1 + 1) (e := 79) (size := 2) (by simp)
  have f0 : Cl (((w.alloc (.cells #[.slice A es.length c] 45)).alloc (.cells #[.slice none 0 0] 45)).alloc (.cells #[] 79)) ⟨w.heap.size + 1, 0, none⟩ (.slice none 0 0) := by constructor <;> simp [go_sem]
  have hbw : Below w.heap.size w (((w.alloc (.cells #[.slice A es.length c] 45)).alloc (.cells #[.slice none 0 0] 45)).alloc (.cells #[] 79)) := by (repeat' (first | (with_reducible exact Below.refl _ _) | (with_reducible refine bel_alloc ?_ ?_ _) | (with_reducible refine Below.setCell ?_ ?_ _) | (with_reducible refine below_drewN ?_ _) | (with_reducible refine Below.drew ?_) | (with_reducible exact Nat.le_refl _) | (with_reducible assumption) | omega | (simp only [World.size_alloc, World.size_setCell, World.size_drew]; omega) | (simp; omega) | (simp; done)))
  go_enter Try.func74, Try.ntmps74
  go_wp2_with (at_builtin; refine wpList_append_new rfl (.tmp 3) (.tmp 5) _ rfl 79 l0 (.agg #[.int .i64 0, .int .i64 0]) 2 16 Try.underlying43 hl lz0 lz1 lz2 rfl (by omega) (w.heap.size + 1 + 1) rfl hO0 A es.length c (pv es) rfl (pv_length _) (((hr.alloc _).alloc _).alloc _) (pv_one _) (by unfold maxLen; omega) (by omega) (by simp) ?_; intro A9 c9 w9 ho9 hS9 hA9; have f9 := f0.outS hS9 (by simp); have f9c := f9.1; have f9f := f9.2)
  have hz9 := hS9.size
  simp only [World.size_alloc] at hz9
  have hb9 : Below w.heap.size w w9 := bel_outS hS9 (fun b hb => by omega) hbw (Nat.le_refl _)
  refine bodyPost_ret (v := .agg #[.slice A9 es.length c9]) (by simp [results, Try.results74, go_sem, f9c]) rfl ⟨A9, c9, fun b => w.heap.size + 1 + 1 ≤ b ∧ b < w9.heap.size, rfl, ho9.wr.setOut _ (fun h => by omega), fun b hb => by simp; omega, ?_⟩
  (repeat' (first | (with_reducible exact Below.refl _ _) | (with_reducible refine bel_alloc ?_ ?_ _) | (with_reducible refine Below.setCell ?_ ?_ _) | (with_reducible refine below_drewN ?_ _) | (with_reducible refine Below.drew ?_) | (with_reducible refine bel_step hb9 ?_ ?_) | (with_reducible exact Nat.le_refl _) | (with_reducible assumption) | omega | (simp only [World.size_alloc, World.size_setCell, World.size_drew]; omega) | (simp; omega) | (simp; done)))
def MadeMachO (xss : List (List Int)) (us : List Bool) (es : List En) (w : World) (e : Ending) (w' : World) : Prop :=
  ∃ A c B d AE f S T U, e = .returned (.agg #[.slice A xss.length c, .slice B us.length d, .slice AE es.length f]) ∧ Wr2 iv w' S A xss ∧ Wr w' T B (bl us) ∧ Wr w' U AE (pv es) ∧ New S w w' ∧ New T w w' ∧ New U w w' ∧ (∀ b, S b → ¬ T b) ∧ (∀ b, S b → ¬ U b) ∧ (∀ b, T b → ¬ U b) ∧ Below w.heap.size w w'
set_option maxHeartbeats 8000000 in
theorem copyMachine_i (A : Option Addr) (c : Nat) (B : Option Addr) (d : Nat) (AE : Option Addr) (f : Nat) (xss : List (List Int)) (us : List Bool) (es : List En) (w : World) {B1 B2 B3 : Nat} (hr : Rd2 iv w B1 A xss) (hs : Rd w B2 B (bl us)) (ht : Rd w B3 AE (pv es)) (hn : MRows xss us es) :
    Calls Try.prog 47 #[.agg #[.slice A xss.length c, .slice B us.length d, .slice AE es.length f]] w (MadeMachO xss us es w) := by
  replace ht := ht.lt
  replace hs := hs.lt
  replace hr := hr.lt
  go_enter Try.func47, Try.ntmps47
  go_wp2_with fail
  have q0 : ((w.alloc (.cells #[.slice A xss.length c, .slice B us.length d, .slice AE es.length f] 47)).alloc (.cells #[.slice none 0 0, .slice none 0 0, .slice none 0 0] 47)).drew.cell? ⟨w.heap.size, 0, none⟩ = some (.slice A xss.length c) := by simp [go_sem]
  have q1 : ((w.alloc (.cells #[.slice A xss.length c, .slice B us.length d, .slice AE es.length f] 47)).alloc (.cells #[.slice none 0 0, .slice none 0 0, .slice none 0 0] 47)).drew.cell? ⟨w.heap.size, 1, none⟩ = some (.slice B us.length d) := by simp [go_sem]
  have q2 : ((w.alloc (.cells #[.slice A xss.length c, .slice B us.length d, .slice AE es.length f] 47)).alloc (.cells #[.slice none 0 0, .slice none 0 0, .slice none 0 0] 47)).drew.cell? ⟨w.heap.size, 2, none⟩ = some (.slice AE es.length f) := by simp [go_sem]
  have f0 : Cl ((w.alloc (.cells #[.slice A xss.length c, .slice B us.length d, .slice AE es.length f] 47)).alloc (.cells #[.slice none 0 0, .slice none 0 0, .slice none 0 0] 47)).drew ⟨w.heap.size + 1, 0, none⟩ (.slice none 0 0) := by constructor <;> simp [go_sem]
  have f1 : Cl ((w.alloc (.cells #[.slice A xss.length c, .slice B us.length d, .slice AE es.length f] 47)).alloc (.cells #[.slice none 0 0, .slice none 0 0, .slice none 0 0] 47)).drew ⟨w.heap.size + 1, 1, none⟩ (.slice none 0 0) := by constructor <;> simp [go_sem]
  have f2 : Cl ((w.alloc (.cells #[.slice A xss.length c, .slice B us.length d, .slice AE es.length f] 47)).alloc (.cells #[.slice none 0 0, .slice none 0 0, .slice none 0 0] 47)).drew ⟨w.heap.size + 1, 2, none⟩ (.slice none 0 0) := by constructor <;> simp [go_sem]
  have hrd := ((hr.alloc (.cells #[.slice A xss.length c, .slice B us.length d, .slice AE es.length f] 47)).alloc (.cells #[.slice none 0 0, .slice none 0 0, .slice none 0 0] 47)).drew
  have hsd := ((hs.alloc (.cells #[.slice A xss.length c, .slice B us.length d, .slice AE es.length f] 47)).alloc (.cells #[.slice none 0 0, .slice none 0 0, .slice none 0 0] 47)).drew
  have htd := ((ht.alloc (.cells #[.slice A xss.length c, .slice B us.length d, .slice AE es.length f] 47)).alloc (.cells #[.slice none 0 0, .slice none 0 0, .slice none 0 0] 47)).drew
  have hbd : Below w.heap.size w ((w.alloc (.cells #[.slice A xss.length c, .slice B us.length d, .slice AE es.length f] 47)).alloc (.cells #[.slice none 0 0, .slice none 0 0, .slice none 0 0] 47)).drew := by (repeat' (first | (with_reducible exact Below.refl _ _) | (with_reducible refine bel_alloc ?_ ?_ _) | (with_reducible refine Below.setCell ?_ ?_ _) | (with_reducible refine below_drewN ?_ _) | (with_reducible refine Below.drew ?_) | (with_reducible exact Nat.le_refl _) | (with_reducible assumption) | omega | (simp only [World.size_alloc, World.size_setCell, World.size_drew]; omega) | (simp; omega) | (simp; done)))
  have hzd : ((w.alloc (.cells #[.slice A xss.length c, .slice B us.length d, .slice AE es.length f] 47)).alloc (.cells #[.slice none 0 0, .slice none 0 0, .slice none 0 0] 47)).drew.heap.size = w.heap.size + 2 := by simp
  have HN := Lib.hid hn
  clear hn
  go_region_law (first | (go_simp; go_at_call 70; refine (copyFrames_i _ _ _ _ _ _ _ hrd hsd HN.out.1 HN.out.2.1).mono ?_; rintro e w3 ⟨A3, c3, B3, d3, mid, rfl, hW3, hV3, hm1, hm2, hb3⟩; have q03 := keep hb3 q0; have q13 := keep hb3 q1; have q23 := keep hb3 q2; have f03 := f0.below hb3; have f13 := f1.below hb3; have f23 := f2.below hb3; have ht3 := htd.below hb3) | (go_simp; go_at_call 71; refine (copyTable_i _ _ _ _ ht3 HN.out.2.2).mono ?_; rintro e w4 ⟨E4, e4, U4, rfl, hE4, hN4, hb4⟩; have f04 := f03.below hb4; have f14 := f13.below hb4; have f24 := f23.below hb4; have f04c := f04.1; have f04f := f04.2; have f14c := f14.1; have f14f := f14.2; have f24c := f24.1; have f24f := f24.2; have lf4 := lt_of_cell' f04c; have hW4 := hW3.below hb4; have hV4 := hV3.below hb4) | fail)
  all_goals
    rw [hzd] at hm1
    have hz4 := hb4.size
    have HW := Lib.hid hW4
    have HV := Lib.hid hV4
    have HE := Lib.hid hE4
    clear hW3 hV3 hW4 hV4 hE4
    go_wp2
    refine bodyPost_ret (v := .agg #[.slice A3 xss.length c3, .slice B3 us.length d3, .slice E4 es.length e4]) (by simp [results, Try.results47, go_sem, f04c, f14c, f24c]) rfl ⟨A3, c3, B3, d3, E4, e4, fun x => mid ≤ x ∧ x < w3.heap.size, fun x => w.heap.size + 2 ≤ x ∧ x < mid, U4, rfl, ?_, ?_, ?_, fun b hb => by simp; omega, fun b hb => by simp; omega, fun b hb => by have := hN4 b hb; simp; omega, fun b h1 h2 => by omega, fun b h1 h2 => by have := hN4 b h2; omega, fun b h1 h2 => by have := hN4 b h2; omega, ?_⟩
    · exact ((HW.out.setOut _ (fun h => by omega)).setOut _ (fun h => by omega)).setOut _ (fun h => by omega)
    · exact (((HV.out.mono (fun x hx => by rw [hzd] at hx; exact hx)).setOut _ (fun h => by omega)).setOut _ (fun h => by omega)).setOut _ (fun h => by omega)
    · exact ((HE.out.setOut _ (fun h => by have := hN4 _ h; omega)).setOut _ (fun h => by have := hN4 _ h; omega)).setOut _ (fun h => by have := hN4 _ h; omega)
    · (repeat' (first | (with_reducible exact Below.refl _ _) | (with_reducible refine bel_alloc ?_ ?_ _) | (with_reducible refine Below.setCell ?_ ?_ _) | (with_reducible refine below_drewN ?_ _) | (with_reducible refine Below.drew ?_) | (with_reducible refine bel_step hb4 ?_ ?_) | (with_reducible refine bel_step hb3 ?_ ?_) | (with_reducible refine bel_step hbd ?_ ?_) | (with_reducible exact Nat.le_refl _) | (with_reducible assumption) | omega | (simp only [World.size_alloc, World.size_setCell, World.size_drew]; omega) | (simp; omega) | (simp; done)))
set_option maxHeartbeats 8000000 in
theorem l07Copy_s (A : Option Addr) (c : Nat) (B : Option Addr) (d : Nat) (AE : Option Addr) (f : Nat) (xss : List (List Int)) (us : List Bool) (es : List En) (w : World) {B1 B2 B3 : Nat} (hr : Rd2 iv w B1 A xss) (hs : Rd w B2 B (bl us)) (ht : Rd w B3 AE (pv es)) (hn : MRows xss us es) :
    Calls Try.prog 49 #[.agg #[.slice A xss.length c, .slice B us.length d, .slice AE es.length f]] w (MadeMachO xss us es w) := by
  replace ht := ht.lt
  replace hs := hs.lt
  replace hr := hr.lt
  go_enter Try.func49, Try.ntmps49
  go_wp2_with fail
  have q0 : ((w.alloc (.cells #[.slice A xss.length c, .slice B us.length d, .slice AE es.length f] 47)).alloc (.cells #[.slice none 0 0, .slice none 0 0, .slice none 0 0] 47)).drew.cell? ⟨w.heap.size, 0, none⟩ = some (.slice A xss.length c) := by simp [go_sem]
  have q1 : ((w.alloc (.cells #[.slice A xss.length c, .slice B us.length d, .slice AE es.length f] 47)).alloc (.cells #[.slice none 0 0, .slice none 0 0, .slice none 0 0] 47)).drew.cell? ⟨w.heap.size, 1, none⟩ = some (.slice B us.length d) := by simp [go_sem]
  have q2 : ((w.alloc (.cells #[.slice A xss.length c, .slice B us.length d, .slice AE es.length f] 47)).alloc (.cells #[.slice none 0 0, .slice none 0 0, .slice none 0 0] 47)).drew.cell? ⟨w.heap.size, 2, none⟩ = some (.slice AE es.length f) := by simp [go_sem]
  have f0 : Cl ((w.alloc (.cells #[.slice A xss.length c, .slice B us.length d, .slice AE es.length f] 47)).alloc (.cells #[.slice none 0 0, .slice none 0 0, .slice none 0 0] 47)).drew ⟨w.heap.size + 1, 0, none⟩ (.slice none 0 0) := by constructor <;> simp [go_sem]
  have f1 : Cl ((w.alloc (.cells #[.slice A xss.length c, .slice B us.length d, .slice AE es.length f] 47)).alloc (.cells #[.slice none 0 0, .slice none 0 0, .slice none 0 0] 47)).drew ⟨w.heap.size + 1, 1, none⟩ (.slice none 0 0) := by constructor <;> simp [go_sem]
  have f2 : Cl ((w.alloc (.cells #[.slice A xss.length c, .slice B us.length d, .slice AE es.length f] 47)).alloc (.cells #[.slice none 0 0, .slice none 0 0, .slice none 0 0] 47)).drew ⟨w.heap.size + 1, 2, none⟩ (.slice none 0 0) := by constructor <;> simp [go_sem]
  have hrd := ((hr.alloc (.cells #[.slice A xss.length c, .slice B us.length d, .slice AE es.length f] 47)).alloc (.cells #[.slice none 0 0, .slice none 0 0, .slice none 0 0] 47)).drew
  have hsd := ((hs.alloc (.cells #[.slice A xss.length c, .slice B us.length d, .slice AE es.length f] 47)).alloc (.cells #[.slice none 0 0, .slice none 0 0, .slice none 0 0] 47)).drew
  have htd := ((ht.alloc (.cells #[.slice A xss.length c, .slice B us.length d, .slice AE es.length f] 47)).alloc (.cells #[.slice none 0 0, .slice none 0 0, .slice none 0 0] 47)).drew
  have hbd : Below w.heap.size w ((w.alloc (.cells #[.slice A xss.length c, .slice B us.length d, .slice AE es.length f] 47)).alloc (.cells #[.slice none 0 0, .slice none 0 0, .slice none 0 0] 47)).drew := by (repeat' (first | (with_reducible exact Below.refl _ _) | (with_reducible refine bel_alloc ?_ ?_ _) | (with_reducible refine Below.setCell ?_ ?_ _) | (with_reducible refine below_drewN ?_ _) | (with_reducible refine Below.drew ?_) | (with_reducible exact Nat.le_refl _) | (with_reducible assumption) | omega | (simp only [World.size_alloc, World.size_setCell, World.size_drew]; omega) | (simp; omega) | (simp; done)))
  have hzd : ((w.alloc (.cells #[.slice A xss.length c, .slice B us.length d, .slice AE es.length f] 47)).alloc (.cells #[.slice none 0 0, .slice none 0 0, .slice none 0 0] 47)).drew.heap.size = w.heap.size + 2 := by simp
  have HN := Lib.hid hn
  clear hn
  go_region_law (first | (go_simp; go_at_call 73; refine (l05Copy_s _ _ _ _ _ _ _ hrd hsd HN.out.1 HN.out.2.1).mono ?_; rintro e w3 ⟨A3, c3, B3, d3, mid, rfl, hW3, hV3, hm1, hm2, hb3⟩; have q03 := keep hb3 q0; have q13 := keep hb3 q1; have q23 := keep hb3 q2; have f03 := f0.below hb3; have f13 := f1.below hb3; have f23 := f2.below hb3; have ht3 := htd.below hb3) | (go_simp; go_at_call 74; refine (l06Copy_s _ _ _ _ ht3 HN.out.2.2).mono ?_; rintro e w4 ⟨E4, e4, U4, rfl, hE4, hN4, hb4⟩; have f04 := f03.below hb4; have f14 := f13.below hb4; have f24 := f23.below hb4; have f04c := f04.1; have f04f := f04.2; have f14c := f14.1; have f14f := f14.2; have f24c := f24.1; have f24f := f24.2; have lf4 := lt_of_cell' f04c; have hW4 := hW3.below hb4; have hV4 := hV3.below hb4) | fail)
  all_goals
    rw [hzd] at hm1
    have hz4 := hb4.size
    have HW := Lib.hid hW4
    have HV := Lib.hid hV4
    have HE := Lib.hid hE4
    clear hW3 hV3 hW4 hV4 hE4
    go_wp2
    refine bodyPost_ret (v := .agg #[.slice A3 xss.length c3, .slice B3 us.length d3, .slice E4 es.length e4]) (by simp [results, Try.results49, go_sem, f04c, f14c, f24c]) rfl ⟨A3, c3, B3, d3, E4, e4, fun x => mid ≤ x ∧ x < w3.heap.size, fun x => w.heap.size + 2 ≤ x ∧ x < mid, U4, rfl, ?_, ?_, ?_, fun b hb => by simp; omega, fun b hb => by simp; omega, fun b hb => by have := hN4 b hb; simp; omega, fun b h1 h2 => by omega, fun b h1 h2 => by have := hN4 b h2; omega, fun b h1 h2 => by have := hN4 b h2; omega, ?_⟩
    · exact ((HW.out.setOut _ (fun h => by omega)).setOut _ (fun h => by omega)).setOut _ (fun h => by omega)
    · exact (((HV.out.mono (fun x hx => by rw [hzd] at hx; exact hx)).setOut _ (fun h => by omega)).setOut _ (fun h => by omega)).setOut _ (fun h => by omega)
    · exact ((HE.out.setOut _ (fun h => by have := hN4 _ h; omega)).setOut _ (fun h => by have := hN4 _ h; omega)).setOut _ (fun h => by have := hN4 _ h; omega)
    · (repeat' (first | (with_reducible exact Below.refl _ _) | (with_reducible refine bel_alloc ?_ ?_ _) | (with_reducible refine Below.setCell ?_ ?_ _) | (with_reducible refine below_drewN ?_ _) | (with_reducible refine Below.drew ?_) | (with_reducible refine bel_step hb4 ?_ ?_) | (with_reducible refine bel_step hb3 ?_ ?_) | (with_reducible refine bel_step hbd ?_ ?_) | (with_reducible exact Nat.le_refl _) | (with_reducible assumption) | omega | (simp only [World.size_alloc, World.size_setCell, World.size_drew]; omega) | (simp; omega) | (simp; done)))
end Go.Proofs.Ytljholnnhogdkaa
