/- The laws' functions on Machine. -/
import Derived.Test.YtljholnnhogdkaaSSInt
import Derived.Test.YtljholnnhogdkaaBoolS
import Derived.Test.YtljholnnhogdkaaEntryS
import Derived.Test.YtljholnnhogdkaaMacP
namespace Go.Proofs.Ytljholnnhogdkaa
open Go.ChangeShapes Go.WideShapes Go.ChangeAt Go.RowKit
set_option linter.unusedVariables false
set_option linter.unusedSimpArgs false

abbrev Rows {α : Type} (xss : List (List α)) : Prop := xss.length ≤ 1048576 ∧ ∀ l ∈ xss, l.length ≤ 1048576
abbrev MRows (xss : List (List Int)) (us : List Bool) (es : List En) : Prop := Rows xss ∧ us.length ≤ 1048576 ∧ es.length ≤ 1048576
set_option maxHeartbeats 1000000 in
theorem szFrames_any (A : Option Addr) (c : Nat) (B : Option Addr) (d : Nat) (xss : List (List Int)) (us : List Bool) (left : Int) (w : World) {B1 : Nat} (hr : Rd2 iv w B1 A xss) (h0 : 0 ≤ left) (h1 : left ≤ 1048576)
    (hn : xss.length ≤ maxLen ∧ ∀ l ∈ xss, l.length ≤ maxLen) (hm : us.length ≤ maxLen) :
    Calls Try.prog 36 #[.agg #[.slice A xss.length c, .slice B us.length d], .int .i64 left] w (Sized left (Rows xss ∧ us.length ≤ 1048576) w) := by
  go_enter Try.func36, Try.ntmps36
  go_wp2_with fail
  refine (szIntSS_any _ _ _ _ _ (hr.alloc _) h0 h1 hn.1 hn.2).mono ?_
  rintro e w1 ⟨q, rfl, hq1, hq2, hb⟩
  have b0 : w1.cell? ⟨w.heap.size, 0, none⟩ = some (.slice A xss.length c) := keep hb (by simp [go_sem])
  have b1 : w1.cell? ⟨w.heap.size, 1, none⟩ = some (.slice B us.length d) := keep hb (by simp [go_sem])
  by_cases h : q < 0
  · go_wp2
    go_ret
    exact ⟨_, rfl, by omega, by omega, by (repeat' (first | (with_reducible exact Below.refl _ _) | (with_reducible refine bel_alloc ?_ ?_ _) | (with_reducible refine Below.setCell ?_ ?_ _) | (with_reducible refine below_drewN ?_ _) | (with_reducible refine Below.drew ?_) | (with_reducible refine bel_step hb ?_ ?_) | (with_reducible exact Nat.le_refl _) | (with_reducible assumption) | omega | (simp only [World.size_alloc, World.size_setCell, World.size_drew]; omega) | (simp; omega) | (simp; done)))⟩
  · go_wp2_with fail
    refine (szBoolS_sized _ _ _ _ _ (by omega) (by omega) hm).mono ?_
    rintro e w2 ⟨q2, rfl, hq3, hq4, hb2⟩
    by_cases h' : q2 < 0
    · go_wp2
      go_ret
      exact ⟨_, rfl, by omega, by omega, by (repeat' (first | (with_reducible exact Below.refl _ _) | (with_reducible refine bel_alloc ?_ ?_ _) | (with_reducible refine Below.setCell ?_ ?_ _) | (with_reducible refine below_drewN ?_ _) | (with_reducible refine Below.drew ?_) | (with_reducible refine bel_step hb ?_ ?_) | (with_reducible refine bel_step hb2 ?_ ?_) | (with_reducible exact Nat.le_refl _) | (with_reducible assumption) | omega | (simp only [World.size_alloc, World.size_setCell, World.size_drew]; omega) | (simp; omega) | (simp; done)))⟩
    · go_wp2
      go_ret
      exact ⟨_, rfl, by omega, fun h => ⟨hq2 (by omega), by have := hq4 (by omega); omega⟩, by (repeat' (first | (with_reducible exact Below.refl _ _) | (with_reducible refine bel_alloc ?_ ?_ _) | (with_reducible refine Below.setCell ?_ ?_ _) | (with_reducible refine below_drewN ?_ _) | (with_reducible refine Below.drew ?_) | (with_reducible refine bel_step hb ?_ ?_) | (with_reducible refine bel_step hb2 ?_ ?_) | (with_reducible exact Nat.le_refl _) | (with_reducible assumption) | omega | (simp only [World.size_alloc, World.size_setCell, World.size_drew]; omega) | (simp; omega) | (simp; done)))⟩
theorem szTable_any (A : Option Addr) (n c : Nat) (left : Int) (w : World) (h0 : 0 ≤ left) (h1 : left ≤ 1048576) (hn : n ≤ maxLen) :
    Calls Try.prog 37 #[.agg #[.slice A n c], .int .i64 left] w (Sized left ((n : Int) ≤ left) w) := by
  go_enter Try.func37, Try.ntmps37
  go_wp2_with fail
  refine (szEntryS_any _ _ _ _ _ h0 h1 hn).mono ?_
  rintro e w1 ⟨q, rfl, hq1, hq2, hb⟩
  by_cases h : q < 0
  · go_wp2
    go_ret
    exact ⟨_, rfl, by omega, by omega, by (repeat' (first | (with_reducible exact Below.refl _ _) | (with_reducible refine bel_alloc ?_ ?_ _) | (with_reducible refine Below.setCell ?_ ?_ _) | (with_reducible refine below_drewN ?_ _) | (with_reducible refine Below.drew ?_) | (with_reducible refine bel_step hb ?_ ?_) | (with_reducible exact Nat.le_refl _) | (with_reducible assumption) | omega | (simp only [World.size_alloc, World.size_setCell, World.size_drew]; omega) | (simp; omega) | (simp; done)))⟩
  · go_wp2
    go_ret
    exact ⟨_, rfl, by omega, fun h => hq2 (by omega), by (repeat' (first | (with_reducible exact Below.refl _ _) | (with_reducible refine bel_alloc ?_ ?_ _) | (with_reducible refine Below.setCell ?_ ?_ _) | (with_reducible refine below_drewN ?_ _) | (with_reducible refine Below.drew ?_) | (with_reducible refine bel_step hb ?_ ?_) | (with_reducible exact Nat.le_refl _) | (with_reducible assumption) | omega | (simp only [World.size_alloc, World.size_setCell, World.size_drew]; omega) | (simp; omega) | (simp; done)))⟩
set_option maxHeartbeats 1000000 in
theorem szMachine_any (A : Option Addr) (c : Nat) (B : Option Addr) (d : Nat) (AE : Option Addr) (f : Nat) (xss : List (List Int)) (us : List Bool) (es : List En) (left : Int) (w : World) {B1 B2 B3 : Nat} (hr : Rd2 iv w B1 A xss) (hs : Rd w B2 B (bl us)) (ht : Rd w B3 AE (pv es)) (h0 : 0 ≤ left) (h1 : left ≤ 1048576)
    (hn : xss.length ≤ maxLen ∧ ∀ l ∈ xss, l.length ≤ maxLen) (hm : us.length ≤ maxLen) (he : es.length ≤ maxLen) :
    Calls Try.prog 18 #[.agg #[.slice A xss.length c, .slice B us.length d, .slice AE es.length f], .int .i64 left] w (Sized left (MRows xss us es) w) := by
  go_enter Try.func18, Try.ntmps18
  go_wp2_with fail
  refine (szFrames_any _ _ _ _ _ _ _ _ (hr.alloc _) h0 h1 hn hm).mono ?_
  rintro e w1 ⟨q, rfl, hq1, hq2, hb⟩
  have b0 : w1.cell? ⟨w.heap.size, 0, none⟩ = some (.slice A xss.length c) := keep hb (by simp [go_sem])
  have b1 : w1.cell? ⟨w.heap.size, 1, none⟩ = some (.slice B us.length d) := keep hb (by simp [go_sem])
  have b2 : w1.cell? ⟨w.heap.size, 2, none⟩ = some (.slice AE es.length f) := keep hb (by simp [go_sem])
  by_cases h : q < 0
  · go_wp2
    go_ret
    exact ⟨_, rfl, by omega, by omega, by (repeat' (first | (with_reducible exact Below.refl _ _) | (with_reducible refine bel_alloc ?_ ?_ _) | (with_reducible refine Below.setCell ?_ ?_ _) | (with_reducible refine below_drewN ?_ _) | (with_reducible refine Below.drew ?_) | (with_reducible refine bel_step hb ?_ ?_) | (with_reducible exact Nat.le_refl _) | (with_reducible assumption) | omega | (simp only [World.size_alloc, World.size_setCell, World.size_drew]; omega) | (simp; omega) | (simp; done)))⟩
  · go_wp2_with fail
    refine (szTable_any _ _ _ _ _ (by omega) (by omega) he).mono ?_
    rintro e w2 ⟨q2, rfl, hq3, hq4, hb2⟩
    by_cases h' : q2 < 0
    · go_wp2
      go_ret
      exact ⟨_, rfl, by omega, by omega, by (repeat' (first | (with_reducible exact Below.refl _ _) | (with_reducible refine bel_alloc ?_ ?_ _) | (with_reducible refine Below.setCell ?_ ?_ _) | (with_reducible refine below_drewN ?_ _) | (with_reducible refine Below.drew ?_) | (with_reducible refine bel_step hb ?_ ?_) | (with_reducible refine bel_step hb2 ?_ ?_) | (with_reducible exact Nat.le_refl _) | (with_reducible assumption) | omega | (simp only [World.size_alloc, World.size_setCell, World.size_drew]; omega) | (simp; omega) | (simp; done)))⟩
    · go_wp2
      go_ret
      exact ⟨_, rfl, by omega, fun h => ⟨(hq2 (by omega)).1, (hq2 (by omega)).2, by have := hq4 (by omega); omega⟩, by (repeat' (first | (with_reducible exact Below.refl _ _) | (with_reducible refine bel_alloc ?_ ?_ _) | (with_reducible refine Below.setCell ?_ ?_ _) | (with_reducible refine below_drewN ?_ _) | (with_reducible refine Below.drew ?_) | (with_reducible refine bel_step hb ?_ ?_) | (with_reducible refine bel_step hb2 ?_ ?_) | (with_reducible exact Nat.le_refl _) | (with_reducible assumption) | omega | (simp only [World.size_alloc, World.size_setCell, World.size_drew]; omega) | (simp; omega) | (simp; done)))⟩
def MadeFramesW (xss : List (List Int)) (us : List Bool) (w : World) (e : Ending) (w' : World) : Prop :=
  ∃ A c B d S T, e = .returned (.agg #[.slice A xss.length c, .slice B us.length d]) ∧ (xss.length ≤ c ∧ c ≤ maxLen) ∧ (us.length ≤ d ∧ d ≤ maxLen) ∧ Wr2c iv w' S A xss ∧ Wr w' T B (bl us) ∧ New S w w' ∧ New T w w' ∧ (∀ b, S b → ¬ T b) ∧ Below w.heap.size w w'
set_option maxHeartbeats 2000000 in
theorem toFrames_w (A : Option Addr) (c : Nat) (B : Option Addr) (d : Nat) (xss : List (List Int)) (us : List Bool) (w : World) {B1 B2 : Nat} (hr : Rd2 iv w B1 A xss) (hs : Rd w B2 B (bl us)) (hn : Rows xss) (hm : us.length ≤ 1048576) :
    Calls Try.prog 38 #[.agg #[.slice A xss.length c, .slice B us.length d]] w (MadeFramesW xss us w) := by
  replace hs := hs.lt
  go_enter Try.func38, Try.ntmps38
  go_wp2_with fail
  refine (toIntSS_w _ _ _ _ (((hr.alloc _).alloc _).alloc _) hn).mono ?_
  rintro e w1 ⟨A', c', S, rfl, hcap, ho, hN, hb⟩
  have a0 : w1.cell? ⟨w.heap.size, 0, none⟩ = some (.slice A xss.length c) := keep hb (by simp [go_sem])
  have a1 : w1.cell? ⟨w.heap.size, 1, none⟩ = some (.slice B us.length d) := keep hb (by simp [go_sem])
  have b0 : Cl w1 ⟨w.heap.size + 1, 0, none⟩ (.slice none 0 0) := Cl.below (by constructor <;> simp [go_sem]) hb
  have b1 : Cl w1 ⟨w.heap.size + 1, 1, none⟩ (.slice none 0 0) := Cl.below (by constructor <;> simp [go_sem]) hb
  have d0 : Cl w1 ⟨w.heap.size + 1 + 1, 0, none⟩ (.slice none 0 0) := Cl.below (by constructor <;> simp [go_sem]) hb
  have d1 : Cl w1 ⟨w.heap.size + 1 + 1, 1, none⟩ (.slice none 0 0) := Cl.below (by constructor <;> simp [go_sem]) hb
  have hN' : ∀ b, S b → w.heap.size + 3 ≤ b ∧ b < w1.heap.size := fun b hb => by have := hN b hb; simp only [World.size_alloc] at this; omega
  have hs1 := (((hs.alloc _).alloc _).alloc _).below hb
  have hz1 := hb.size
  simp only [World.size_alloc] at hz1
  have d0c := d0.1
  have d0f := d0.2
  go_wp2_with fail
  have ho2 := ho.setOut (b := w.heap.size + 1 + 1) (o := 0) (.slice A' xss.length c') (fun h => by have := hN' _ h; omega)
  replace b0 := b0.other (q := ⟨w.heap.size + 1 + 1, 0, none⟩) (.slice A' xss.length c') (by simp)
  replace b1 := b1.other (q := ⟨w.heap.size + 1 + 1, 0, none⟩) (.slice A' xss.length c') (by simp)
  replace d1 := d1.other (q := ⟨w.heap.size + 1 + 1, 0, none⟩) (.slice A' xss.length c') (by simp)
  have d0' := d0.same (.slice A' xss.length c')
  have hs2 := hs1.outS (OutS.set (S := fun x => w.heap.size + 1 + 1 = x) w1 (b := w.heap.size + 1 + 1) (o := 0) (.slice A' xss.length c') rfl) (fun b hb => by subst hb; omega)
  refine (toBoolS_w _ _ _ _ hs2 hm).mono ?_
  rintro e w2 ⟨B', d', T, rfl, hcap2, hoT, hNT, hb2⟩
  have hz2 := hb2.size
  simp only [World.size_setCell] at hz2
  replace b0 := b0.below hb2
  replace b1 := b1.below hb2
  replace d1 := d1.below hb2
  replace d0' := d0'.below hb2
  replace ho2 := ho2.below hb2
  have hNT' : ∀ b, T b → w1.heap.size ≤ b ∧ b < w2.heap.size := fun b hb => by have := hNT b hb; simp only [World.size_setCell] at this; exact this
  clear d0c d0f d0 a0 a1
  have c1 := b0.1
  have c2 := b0.2
  have c3 := b1.1
  have c4 := b1.2
  have c5 := d0'.1
  have c6 := d0'.2
  have c7 := d1.1
  have c8 := d1.2
  go_wp2
  refine bodyPost_ret (v := .agg #[.slice A' xss.length c', .slice B' us.length d']) (by simp [results, Try.results38, go_sem, c1, c3, c5, c7]) rfl ⟨A', c', B', d', S, T, rfl, hcap, hcap2, ?_, ?_, New.mk hN' (by omega) (by simp; omega), New.mk hNT' (by omega) (by simp), fun b h1 h2 => by have := hN' b h1; have := hNT' b h2; omega, ?_⟩
  · exact ((ho2.setOut _ (fun h => by have := hN' _ h; omega)).setOut _ (fun h => by have := hN' _ h; omega)).setOut _ (fun h => by have := hN' _ h; omega)
  · exact ((hoT.setOut _ (fun h => by have := hNT' _ h; omega)).setOut _ (fun h => by have := hNT' _ h; omega)).setOut _ (fun h => by have := hNT' _ h; omega)
  · (repeat' (first | (with_reducible exact Below.refl _ _) | (with_reducible refine bel_alloc ?_ ?_ _) | (with_reducible refine Below.setCell ?_ ?_ _) | (with_reducible refine below_drewN ?_ _) | (with_reducible refine Below.drew ?_) | (with_reducible refine bel_step hb ?_ ?_) | (with_reducible refine bel_step hb2 ?_ ?_) | (with_reducible exact Nat.le_refl _) | (with_reducible assumption) | omega | (simp only [World.size_alloc, World.size_setCell, World.size_drew]; omega) | (simp; omega) | (simp; done)))
def MadeTableW (es : List En) (w : World) (e : Ending) (w' : World) : Prop :=
  ∃ A c S, e = .returned (.agg #[.slice A es.length c]) ∧ (es.length ≤ c ∧ c ≤ maxLen) ∧ Wr w' S A (pv es) ∧ New S w w' ∧ Below w.heap.size w w'
set_option maxHeartbeats 1000000 in
theorem toTable_w (A : Option Addr) (c : Nat) (es : List En) (w : World) {B : Nat} (hr : Rd w B A (pv es)) (hn : es.length ≤ 1048576) :
    Calls Try.prog 39 #[.agg #[.slice A es.length c]] w (MadeTableW es w) := by
  go_enter Try.func39, Try.ntmps39
  go_wp2_with fail
  refine (toEntryS_any _ _ _ _ (((hr.alloc _).alloc _).alloc _) hn).mono ?_
  rintro e w1 ⟨A', c', rfl, ho0, hb⟩
  have hcap := ho0.cap
  obtain ⟨S, ho, hN⟩ := ho0.wr.new _ (fun b h => h.1)
  have b0 : w1.cell? ⟨w.heap.size + 1, 0, none⟩ = some (.slice none 0 0) := keep hb (by simp [go_sem])
  have bf0 : w1.frozen? ⟨w.heap.size + 1, 0, none⟩ = false := keepf hb (by simp [go_sem]) (by simp [go_sem])
  have d0 : w1.cell? ⟨w.heap.size + 1 + 1, 0, none⟩ = some (.slice none 0 0) := keep hb (by simp [go_sem])
  have df0 : w1.frozen? ⟨w.heap.size + 1 + 1, 0, none⟩ = false := keepf hb (by simp [go_sem]) (by simp [go_sem])
  have hN' : ∀ b, S b → w.heap.size + 3 ≤ b ∧ b < w1.heap.size := fun b hb => by have := hN b hb; simp only [World.size_alloc] at this; omega
  go_wp2
  refine bodyPost_ret (v := .agg #[.slice A' es.length c']) (by simp [results, Try.results39, go_sem, b0, d0]) rfl ⟨A', c', S, rfl, hcap, (ho.setOut _ (fun h => by have := hN' _ h; omega)).setOut _ (fun h => by have := hN' _ h; omega), New.mk hN' (by omega) (by simp), ?_⟩
  (repeat' (first | (with_reducible exact Below.refl _ _) | (with_reducible refine bel_alloc ?_ ?_ _) | (with_reducible refine Below.setCell ?_ ?_ _) | (with_reducible refine below_drewN ?_ _) | (with_reducible refine Below.drew ?_) | (with_reducible refine bel_step hb ?_ ?_) | (with_reducible exact Nat.le_refl _) | (with_reducible assumption) | omega | (simp only [World.size_alloc, World.size_setCell, World.size_drew]; omega) | (simp; omega) | (simp; done)))
set_option maxHeartbeats 1000000 in
theorem eqFrames_same (A : Option Addr) (c : Nat) (B : Option Addr) (d : Nat) (A' : Option Addr) (c' : Nat) (B' : Option Addr) (d' : Nat) (xss : List (List Int)) (us : List Bool) (w : World) {B1 B2 B3 B4 : Nat}
    (hx : Rd2 iv w B1 A xss) (hx' : Rd2 iv w B3 A' xss) (hy : Rd w B2 B (bl us)) (hy' : Rd w B4 B' (bl us)) (hn : Rows xss) (hm : us.length ≤ 1048576) :
    Calls Try.prog 40 #[.agg #[.slice A xss.length c, .slice B us.length d], .agg #[.slice A' xss.length c', .slice B' us.length d']] w fun e w' => e = .returned (.bool true) ∧ Below w.heap.size w w' := by
  go_enter Try.func40, Try.ntmps40
  go_wp2_with fail
  refine (eqIntSS_same _ _ _ _ _ _ ((hx.alloc _).alloc _) ((hx'.alloc _).alloc _) hn).mono ?_
  rintro e w1 ⟨rfl, hb⟩
  have a0 : w1.cell? ⟨w.heap.size, 0, none⟩ = some (.slice A xss.length c) := keep hb (by simp [go_sem])
  have a1 : w1.cell? ⟨w.heap.size, 1, none⟩ = some (.slice B us.length d) := keep hb (by simp [go_sem])
  have b0 : w1.cell? ⟨w.heap.size + 1, 0, none⟩ = some (.slice A' xss.length c') := keep hb (by simp [go_sem])
  have b1 : w1.cell? ⟨w.heap.size + 1, 1, none⟩ = some (.slice B' us.length d') := keep hb (by simp [go_sem])
  go_wp2_with fail
  refine (eqBoolS_same _ _ _ _ _ _ (((hy.alloc _).alloc _).below hb) (((hy'.alloc _).alloc _).below hb) hm).mono ?_
  rintro e w2 ⟨rfl, hb2⟩
  go_wp2
  go_ret
  exact ⟨rfl, by (repeat' (first | (with_reducible exact Below.refl _ _) | (with_reducible refine bel_alloc ?_ ?_ _) | (with_reducible refine Below.setCell ?_ ?_ _) | (with_reducible refine below_drewN ?_ _) | (with_reducible refine Below.drew ?_) | (with_reducible refine bel_step hb ?_ ?_) | (with_reducible refine bel_step hb2 ?_ ?_) | (with_reducible exact Nat.le_refl _) | (with_reducible assumption) | omega | (simp only [World.size_alloc, World.size_setCell, World.size_drew]; omega) | (simp; omega) | (simp; done)))⟩
theorem eqTable_same (A B : Option Addr) (c d : Nat) (es : List En) (w : World) {B1 B2 : Nat} (hx : Rd w B1 A (pv es)) (hy : Rd w B2 B (pv es)) (hn : es.length ≤ 1048576) :
    Calls Try.prog 41 #[.agg #[.slice A es.length c], .agg #[.slice B es.length d]] w fun e w' => e = .returned (.bool true) ∧ Below w.heap.size w w' := by
  go_enter Try.func41, Try.ntmps41
  go_wp2_with fail
  refine (eqEntryS_same _ _ _ _ _ _ ((hx.alloc _).alloc _) ((hy.alloc _).alloc _) hn).mono ?_
  rintro e w1 ⟨rfl, hb⟩
  go_wp2
  go_ret
  exact ⟨rfl, by (repeat' (first | (with_reducible exact Below.refl _ _) | (with_reducible refine bel_alloc ?_ ?_ _) | (with_reducible refine Below.setCell ?_ ?_ _) | (with_reducible refine below_drewN ?_ _) | (with_reducible refine Below.drew ?_) | (with_reducible refine bel_step hb ?_ ?_) | (with_reducible exact Nat.le_refl _) | (with_reducible assumption) | omega | (simp only [World.size_alloc, World.size_setCell, World.size_drew]; omega) | (simp; omega) | (simp; done)))⟩
set_option maxHeartbeats 1000000 in
theorem eqMachine_same (A : Option Addr) (c : Nat) (B : Option Addr) (d : Nat) (AE : Option Addr) (f : Nat) (A' : Option Addr) (c' : Nat) (B' : Option Addr) (d' : Nat) (AE' : Option Addr) (f' : Nat) (xss : List (List Int)) (us : List Bool) (es : List En) (w : World) {B1 B2 B3 B4 B5 B6 : Nat}
    (hx : Rd2 iv w B1 A xss) (hx' : Rd2 iv w B3 A' xss) (hy : Rd w B2 B (bl us)) (hy' : Rd w B4 B' (bl us)) (he : Rd w B5 AE (pv es)) (he' : Rd w B6 AE' (pv es)) (hn : MRows xss us es) :
    Calls Try.prog 22 #[.agg #[.slice A xss.length c, .slice B us.length d, .slice AE es.length f], .agg #[.slice A' xss.length c', .slice B' us.length d', .slice AE' es.length f']] w fun e w' => e = .returned (.bool true) ∧ Below w.heap.size w w' := by
  go_enter Try.func22, Try.ntmps22
  go_wp2_with fail
  refine (eqFrames_same _ _ _ _ _ _ _ _ _ _ _ ((hx.alloc _).alloc _) ((hx'.alloc _).alloc _) ((hy.alloc _).alloc _) ((hy'.alloc _).alloc _) hn.1 hn.2.1).mono ?_
  rintro e w1 ⟨rfl, hb⟩
  have a0 : w1.cell? ⟨w.heap.size, 0, none⟩ = some (.slice A xss.length c) := keep hb (by simp [go_sem])
  have a1 : w1.cell? ⟨w.heap.size, 1, none⟩ = some (.slice B us.length d) := keep hb (by simp [go_sem])
  have a2 : w1.cell? ⟨w.heap.size, 2, none⟩ = some (.slice AE es.length f) := keep hb (by simp [go_sem])
  have b0 : w1.cell? ⟨w.heap.size + 1, 0, none⟩ = some (.slice A' xss.length c') := keep hb (by simp [go_sem])
  have b1 : w1.cell? ⟨w.heap.size + 1, 1, none⟩ = some (.slice B' us.length d') := keep hb (by simp [go_sem])
  have b2 : w1.cell? ⟨w.heap.size + 1, 2, none⟩ = some (.slice AE' es.length f') := keep hb (by simp [go_sem])
  go_wp2_with fail
  refine (eqTable_same _ _ _ _ _ _ (((he.alloc _).alloc _).below hb) (((he'.alloc _).alloc _).below hb) hn.2.2).mono ?_
  rintro e w2 ⟨rfl, hb2⟩
  go_wp2
  go_ret
  exact ⟨rfl, by (repeat' (first | (with_reducible exact Below.refl _ _) | (with_reducible refine bel_alloc ?_ ?_ _) | (with_reducible refine Below.setCell ?_ ?_ _) | (with_reducible refine below_drewN ?_ _) | (with_reducible refine Below.drew ?_) | (with_reducible refine bel_step hb ?_ ?_) | (with_reducible refine bel_step hb2 ?_ ?_) | (with_reducible exact Nat.le_refl _) | (with_reducible assumption) | omega | (simp only [World.size_alloc, World.size_setCell, World.size_drew]; omega) | (simp; omega) | (simp; done)))⟩
end Go.Proofs.Ytljholnnhogdkaa
