/- The laws' functions on Mail. -/
import Derived.Test.YtggigndkamkclaaSSPost
namespace Go.Proofs.Ytggigndkamkclaa
open Go.ChangeShapes Go.WideShapes Go.ChangeAt Go.RowKit
set_option linter.unusedVariables false

abbrev Rows {α : Type} (xss : List (List α)) : Prop := xss.length ≤ 1048576 ∧ ∀ l ∈ xss, l.length ≤ 1048576
abbrev Po := Int × Int
theorem tot_bd {α : Type} {xss : List (List α)} (h : Rows xss) : (tot xss : Int) ≤ 1099511627776 := by
  have := tot_le h.2
  have h2 : xss.length * 1048576 ≤ 1048576 * 1048576 := Nat.mul_le_mul_right _ h.1
  omega
theorem szMail_any (A : Option Addr) (c : Nat) (B : Option Addr) (d : Nat) (xss : List (List Po)) (yss : List (List Int)) (left : Int) (w : World) {B1 B2 : Nat} (hr : Rd2 pv w B1 A xss) (hs : Rd2 iv w B2 B yss) (h0 : 0 ≤ left) (h1 : left ≤ 1048576)
    (hn : xss.length ≤ maxLen ∧ ∀ l ∈ xss, l.length ≤ maxLen) (hm : yss.length ≤ maxLen ∧ ∀ l ∈ yss, l.length ≤ maxLen) :
    Calls Try.prog 21 #[.agg #[.slice A xss.length c, .slice B yss.length d], .int .i64 left] w (Sized left (Rows xss ∧ Rows yss) w) := by
  go_enter Try.func21, Try.ntmps21
  go_wp2_with fail
  refine (szPostSS_any _ _ _ _ _ (hr.alloc _) h0 h1 hn.1 hn.2).mono ?_
  rintro e w1 ⟨q, rfl, hq1, hq2, hb⟩
  have b0 : w1.cell? ⟨w.heap.size, 0, none⟩ = some (.slice A xss.length c) := keep hb (by simp [go_sem])
  have b1 : w1.cell? ⟨w.heap.size, 1, none⟩ = some (.slice B yss.length d) := keep hb (by simp [go_sem])
  by_cases h : q < 0
  · go_wp2
    go_ret
    exact ⟨_, rfl, by omega, by omega, by (repeat' (first | (with_reducible exact Below.refl _ _) | (with_reducible refine bel_alloc ?_ ?_ _) | (with_reducible refine Below.setCell ?_ ?_ _) | (with_reducible refine below_drewN ?_ _) | (with_reducible refine Below.drew ?_) | (with_reducible refine bel_step hb ?_ ?_) | (with_reducible exact Nat.le_refl _) | (with_reducible assumption) | omega | (simp only [World.size_alloc, World.size_setCell, World.size_drew]; omega) | (simp; omega) | (simp; done)))⟩
  · go_wp2_with fail
    refine (szIntSS_any _ _ _ _ _ ((hs.alloc _).below hb) (by omega) (by omega) hm.1 hm.2).mono ?_
    rintro e w2 ⟨q2, rfl, hq3, hq4, hb2⟩
    by_cases h' : q2 < 0
    · go_wp2
      go_ret
      exact ⟨_, rfl, by omega, by omega, by (repeat' (first | (with_reducible exact Below.refl _ _) | (with_reducible refine bel_alloc ?_ ?_ _) | (with_reducible refine Below.setCell ?_ ?_ _) | (with_reducible refine below_drewN ?_ _) | (with_reducible refine Below.drew ?_) | (with_reducible refine bel_step hb ?_ ?_) | (with_reducible refine bel_step hb2 ?_ ?_) | (with_reducible exact Nat.le_refl _) | (with_reducible assumption) | omega | (simp only [World.size_alloc, World.size_setCell, World.size_drew]; omega) | (simp; omega) | (simp; done)))⟩
    · go_wp2
      go_ret
      exact ⟨_, rfl, by omega, fun h => ⟨hq2 (by omega), hq4 (by omega)⟩, by (repeat' (first | (with_reducible exact Below.refl _ _) | (with_reducible refine bel_alloc ?_ ?_ _) | (with_reducible refine Below.setCell ?_ ?_ _) | (with_reducible refine below_drewN ?_ _) | (with_reducible refine Below.drew ?_) | (with_reducible refine bel_step hb ?_ ?_) | (with_reducible refine bel_step hb2 ?_ ?_) | (with_reducible exact Nat.le_refl _) | (with_reducible assumption) | omega | (simp only [World.size_alloc, World.size_setCell, World.size_drew]; omega) | (simp; omega) | (simp; done)))⟩
def MadeMailW (xss : List (List Po)) (yss : List (List Int)) (w : World) (e : Ending) (w' : World) : Prop :=
  ∃ A c B d S T, e = .returned (.agg #[.slice A xss.length c, .slice B yss.length d]) ∧ (xss.length ≤ c ∧ c ≤ maxLen) ∧ (yss.length ≤ d ∧ d ≤ maxLen) ∧ Wr2c pv w' S A xss ∧ Wr2c iv w' T B yss ∧ New S w w' ∧ New T w w' ∧ (∀ b, S b → ¬ T b) ∧ Below w.heap.size w w'
set_option maxHeartbeats 2000000 in
theorem toMail_w (A : Option Addr) (c : Nat) (B : Option Addr) (d : Nat) (xss : List (List Po)) (yss : List (List Int)) (w : World) {B1 B2 : Nat} (hr : Rd2 pv w B1 A xss) (hs : Rd2 iv w B2 B yss) (hn : Rows xss ∧ Rows yss) :
    Calls Try.prog 23 #[.agg #[.slice A xss.length c, .slice B yss.length d]] w (MadeMailW xss yss w) := by
  replace hs := hs.lt
  go_enter Try.func23, Try.ntmps23
  go_wp2_with fail
  refine (toPostSS_w _ _ _ _ (((hr.alloc _).alloc _).alloc _) hn.1).mono ?_
  rintro e w1 ⟨A', c', S, rfl, hcap, ho, hN, hb⟩
  have a0 : w1.cell? ⟨w.heap.size, 0, none⟩ = some (.slice A xss.length c) := keep hb (by simp [go_sem])
  have a1 : w1.cell? ⟨w.heap.size, 1, none⟩ = some (.slice B yss.length d) := keep hb (by simp [go_sem])
  have b0 : Cl w1 ⟨w.heap.size + 1, 0, none⟩ (.slice none 0 0) := Cl.below (by constructor <;> simp [go_sem]) hb
  have b1 : Cl w1 ⟨w.heap.size + 1, 1, none⟩ (.slice none 0 0) := Cl.below (by constructor <;> simp [go_sem]) hb
  have d0 : Cl w1 ⟨w.heap.size + 1 + 1, 0, none⟩ (.slice none 0 0) := Cl.below (by constructor <;> simp [go_sem]) hb
  have d1 : Cl w1 ⟨w.heap.size + 1 + 1, 1, none⟩ (.slice none 0 0) := Cl.below (by constructor <;> simp [go_sem]) hb
  have hN' : ∀ b, S b → w.heap.size + 3 ≤ b ∧ b < w1.heap.size := fun b hb => by have := hN b hb; simp only [World.size_alloc] at this; omega
  have hs1 := (((hs.alloc _).alloc _).alloc _).below hb
  have hz1 := hb.size
  simp only [World.size_alloc] at hz1
  have d0c := d0.1
  have d0f := d0.2
  go_wp2_with fail
  have ho2 := ho.setOut (b := w.heap.size + 1 + 1) (o := 0) (.slice A' xss.length c') (fun h => by have := hN' _ h; omega)
  replace b0 := b0.other (q := ⟨w.heap.size + 1 + 1, 0, none⟩) (.slice A' xss.length c') (by simp)
  replace b1 := b1.other (q := ⟨w.heap.size + 1 + 1, 0, none⟩) (.slice A' xss.length c') (by simp)
  replace d1 := d1.other (q := ⟨w.heap.size + 1 + 1, 0, none⟩) (.slice A' xss.length c') (by simp)
  have d0' := d0.same (.slice A' xss.length c')
  have hs2 := hs1.outS (OutS.set (S := fun x => w.heap.size + 1 + 1 = x) w1 (b := w.heap.size + 1 + 1) (o := 0) (.slice A' xss.length c') rfl) (fun b hb => by subst hb; omega)
  refine (toIntSS_w _ _ _ _ hs2 hn.2).mono ?_
  rintro e w2 ⟨B', d', T, rfl, hcap2, hoT, hNT, hb2⟩
  have hz2 := hb2.size
  simp only [World.size_setCell] at hz2
  replace b0 := b0.below hb2
  replace b1 := b1.below hb2
  replace d1 := d1.below hb2
  replace d0' := d0'.below hb2
  replace ho2 := ho2.below hb2
  have hNT' : ∀ b, T b → w1.heap.size ≤ b ∧ b < w2.heap.size := fun b hb => by have := hNT b hb; simp only [World.size_setCell] at this; exact this
  clear d0c d0f d0 a0 a1
  have c1 := b0.1
  have c2 := b0.2
  have c3 := b1.1
  have c4 := b1.2
  have c5 := d0'.1
  have c6 := d0'.2
  have c7 := d1.1
  have c8 := d1.2
  go_wp2
  refine bodyPost_ret (v := .agg #[.slice A' xss.length c', .slice B' yss.length d']) (by simp [results, Try.results23, go_sem, c1, c3, c5, c7]) rfl ⟨A', c', B', d', S, T, rfl, hcap, hcap2, ?_, ?_, New.mk hN' (by omega) (by simp; omega), New.mk hNT' (by omega) (by simp), fun b h1 h2 => by have := hN' b h1; have := hNT' b h2; omega, ?_⟩
  · exact ((ho2.setOut _ (fun h => by have := hN' _ h; omega)).setOut _ (fun h => by have := hN' _ h; omega)).setOut _ (fun h => by have := hN' _ h; omega)
  · exact ((hoT.setOut _ (fun h => by have := hNT' _ h; omega)).setOut _ (fun h => by have := hNT' _ h; omega)).setOut _ (fun h => by have := hNT' _ h; omega)
  · (repeat' (first | (with_reducible exact Below.refl _ _) | (with_reducible refine bel_alloc ?_ ?_ _) | (with_reducible refine Below.setCell ?_ ?_ _) | (with_reducible refine below_drewN ?_ _) | (with_reducible refine Below.drew ?_) | (with_reducible refine bel_step hb ?_ ?_) | (with_reducible refine bel_step hb2 ?_ ?_) | (with_reducible exact Nat.le_refl _) | (with_reducible assumption) | omega | (simp only [World.size_alloc, World.size_setCell, World.size_drew]; omega) | (simp; omega) | (simp; done)))
set_option maxHeartbeats 1000000 in
theorem eqMail_same (A : Option Addr) (c : Nat) (B : Option Addr) (d : Nat) (A' : Option Addr) (c' : Nat) (B' : Option Addr) (d' : Nat) (xss : List (List Po)) (yss : List (List Int)) (w : World) {B1 B2 B3 B4 : Nat}
    (hx : Rd2 pv w B1 A xss) (hx' : Rd2 pv w B3 A' xss) (hy : Rd2 iv w B2 B yss) (hy' : Rd2 iv w B4 B' yss) (hn : Rows xss ∧ Rows yss) :
    Calls Try.prog 18 #[.agg #[.slice A xss.length c, .slice B yss.length d], .agg #[.slice A' xss.length c', .slice B' yss.length d']] w fun e w' => e = .returned (.bool true) ∧ Below w.heap.size w w' := by
  go_enter Try.func18, Try.ntmps18
  go_wp2_with fail
  refine (eqPostSS_same _ _ _ _ _ _ ((hx.alloc _).alloc _) ((hx'.alloc _).alloc _) hn.1).mono ?_
  rintro e w1 ⟨rfl, hb⟩
  have a0 : w1.cell? ⟨w.heap.size, 0, none⟩ = some (.slice A xss.length c) := keep hb (by simp [go_sem])
  have a1 : w1.cell? ⟨w.heap.size, 1, none⟩ = some (.slice B yss.length d) := keep hb (by simp [go_sem])
  have b0 : w1.cell? ⟨w.heap.size + 1, 0, none⟩ = some (.slice A' xss.length c') := keep hb (by simp [go_sem])
  have b1 : w1.cell? ⟨w.heap.size + 1, 1, none⟩ = some (.slice B' yss.length d') := keep hb (by simp [go_sem])
  go_wp2_with fail
  refine (eqIntSS_same _ _ _ _ _ _ (((hy.alloc _).alloc _).below hb) (((hy'.alloc _).alloc _).below hb) hn.2).mono ?_
  rintro e w2 ⟨rfl, hb2⟩
  go_wp2
  go_ret
  exact ⟨rfl, by (repeat' (first | (with_reducible exact Below.refl _ _) | (with_reducible refine bel_alloc ?_ ?_ _) | (with_reducible refine Below.setCell ?_ ?_ _) | (with_reducible refine below_drewN ?_ _) | (with_reducible refine Below.drew ?_) | (with_reducible refine bel_step hb ?_ ?_) | (with_reducible refine bel_step hb2 ?_ ?_) | (with_reducible exact Nat.le_refl _) | (with_reducible assumption) | omega | (simp only [World.size_alloc, World.size_setCell, World.size_drew]; omega) | (simp; omega) | (simp; done)))⟩
set_option maxHeartbeats 1000000 in
theorem markMail_any (A : Option Addr) (c : Nat) (B : Option Addr) (d : Nat) (xss : List (List Po)) (yss : List (List Int)) (k : Int) (w : World) {S T : Nat → Prop} (ho : Wr2 pv w S A xss) (ho' : Wr2 iv w T B yss) (hD : ∀ b, S b → ¬ T b) (hn : Rows xss ∧ Rows yss) (hk0 : 0 ≤ k) (hk1 : k ≤ 1099511627) (hS : ∀ b, S b → b < w.heap.size) (hT : ∀ b, T b → b < w.heap.size) :
    Calls Try.prog 19 #[.agg #[.slice A xss.length c, .slice B yss.length d], .int .i64 k] w fun e w' => e = .returned (.int .i64 (k + 2 * (tot xss : Nat) + (tot yss : Nat))) ∧ Wr2 pv w' S A (mkPostSS k xss) ∧ Wr2 iv w' T B (mkIntSS (k + 2 * (tot xss : Nat)) yss) ∧ OutS (fun b => S b ∨ T b) w w' := by
  have hb1 := tot_bd hn.1
  have hb2 := tot_bd hn.2
  go_enter Try.func19, Try.ntmps19
  go_wp2_with fail
  refine (markPostSS_any _ _ _ _ _ (ho.alloc _) hn.1 hk0 (by omega)).mono ?_
  rintro e w1 ⟨rfl, ho1, hout⟩
  have a1 := hout.cell (p := ⟨w.heap.size, 1, none⟩) (v := .slice B yss.length d) (by simp [go_sem]) (fun h => by have := hS _ h; simp at this)
  have ho2 := (ho'.alloc (.cells #[.slice A xss.length c, .slice B yss.length d] 29)).outS hout (fun b h1 h2 => hD b h2 h1)
  go_wp2_with fail
  refine (markIntSS_any _ _ _ _ _ ho2 hn.2 (by omega) (by omega)).mono ?_
  rintro e w2 ⟨rfl, ho3, hout2⟩
  go_wp2
  go_ret
  exact ⟨rfl, ho1.outS hout2 (fun b h1 h2 => hD b h1 h2), ho3, (OutS.of_below ((Below.refl _ _).alloc (Nat.le_refl _) _)).trans ((hout.mono fun b h => .inl h).trans (hout2.mono fun b h => .inr h))⟩
set_option maxHeartbeats 1000000 in
theorem heldMail_b (A : Option Addr) (c : Nat) (B : Option Addr) (d : Nat) (xss : List (List Po)) (yss : List (List Int)) (k : Int) (w : World) {B1 B2 : Nat} (hr : Rd2 pv w B1 A (mkPostSS k xss)) (hs : Rd2 iv w B2 B (mkIntSS (k + 2 * (tot xss : Nat)) yss)) (hn : Rows xss ∧ Rows yss) (hk0 : 0 ≤ k) (hk1 : k ≤ 1099511627) :
    Calls Try.prog 20 #[.agg #[.slice A xss.length c, .slice B yss.length d], .int .i64 k] w fun e w' => e = .returned (.int .i64 (k + 2 * (tot xss : Nat) + (tot yss : Nat))) ∧ Below w.heap.size w w' := by
  have hb1 := tot_bd hn.1
  have hb2 := tot_bd hn.2
  go_enter Try.func20, Try.ntmps20
  go_wp2_with fail
  refine (heldPostSS_b _ _ _ _ _ (hr.alloc _) hn.1 hk0 (by omega)).mono ?_
  rintro e w1 ⟨rfl, hb⟩
  have a0 : w1.cell? ⟨w.heap.size, 0, none⟩ = some (.slice A xss.length c) := keep hb (by simp [go_sem])
  have a1 : w1.cell? ⟨w.heap.size, 1, none⟩ = some (.slice B yss.length d) := keep hb (by simp [go_sem])
  have hk : ¬ k + 2 * (tot xss : Int) < 0 := by omega
  go_wp2_with fail
  refine (heldIntSS_b _ _ _ _ _ ((hs.alloc _).below hb) hn.2 (by omega) (by omega)).mono ?_
  rintro e w2 ⟨rfl, hb'⟩
  have hk : ¬ k + 2 * (tot xss : Int) + (tot yss : Int) < 0 := by omega
  go_wp2
  go_ret
  exact ⟨rfl, by (repeat' (first | (with_reducible exact Below.refl _ _) | (with_reducible refine bel_alloc ?_ ?_ _) | (with_reducible refine Below.setCell ?_ ?_ _) | (with_reducible refine below_drewN ?_ _) | (with_reducible refine Below.drew ?_) | (with_reducible refine bel_step hb ?_ ?_) | (with_reducible refine bel_step hb' ?_ ?_) | (with_reducible exact Nat.le_refl _) | (with_reducible assumption) | omega | (simp only [World.size_alloc, World.size_setCell, World.size_drew]; omega) | (simp; omega) | (simp; done)))⟩
end Go.Proofs.Ytggigndkamkclaa
