/- FramesNew, TableNew, MachineNew of the reference, at two. -/
import Derived.Test.YtljholnnhogdkaaGSet
import Derived.Test.YtljholnnhogdkaaGCpM
import Derived.Deep.OwnRows
namespace Go.Proofs.Ytljholnnhogdkaa
open Go.ChangeShapes Go.WideShapes Go.ChangeAt Go.RowKit
set_option linter.unusedVariables false
set_option linter.unusedSimpArgs false
attribute [local go_sem ↓] Go.wp_at_zero Go.wp_at_succ

theorem own_z16 {w : World} {g : Nat} {e : TypeId} (hg : g = w.heap.size) : (w.alloc (.cells (madeCells #[.int .i64 0] 16) e)).ownsRow g e 1 (.slice (some ⟨g, 0, none⟩) 16 16) 16 (iv z16) := by
  subst hg
  refine ⟨rfl, .inr ⟨w.heap.size, 16, madeCells #[.int .i64 0] 16, rfl, Nat.le_refl _, by show (w.heap.push _)[w.heap.size]? = _; simp, Nat.le_refl _, by unfold maxLen; omega, by simp [size_madeCells], ?_⟩⟩
  rw [toList_madeCells_one]
  rfl
theorem O2.outS' {α : Type} {enc : List α → List Value} {e e1 : TypeId} {s1 : Nat} {w w1 : World} {lo : Nat} {A : Option Addr} {c : Nat} {cur : List Value} {hd : Nat → Option Addr × Nat} {xss : List (List α)} {S : Nat → Prop} (h : O2 enc e e1 s1 w lo A c cur hd xss) (ho : OutS S w w1) (hA : ∀ x, At A x → ¬ S x) (hR : ∀ j x, j < xss.length → At (hd j).1 x → ¬ S x) : O2 enc e e1 s1 w1 lo A c cur hd xss :=
  ⟨own_outS h.own ho hA, h.cur, fun j hj => own_outS (h.row j hj) ho (fun x hx => hR j x hj hx), h.out, h.apart⟩
def MF2 (w : World) (e : Ending) (w' : World) : Prop :=
  ∃ A c B d S T, e = .returned (.tuple #[.agg #[.slice A 2 c, .slice B 2 d], .bool true]) ∧ Wr2 iv w' S A (m2 z16) ∧ Wr w' T B (bl [false, false]) ∧ New S w w' ∧ New T w w' ∧ Below w.heap.size w w'
def FS (gq : Nat) (k : Nat) (w : World) : Prop :=
  ∃ (A : Option Addr) (c : Nat) (cur : List Value) (hd : Nat → Option Addr × Nat) (B : Option Addr) (d : Nat), O2 iv 22 3 1 w (gq + 1) A c cur hd (List.replicate k z16) ∧ w.ownsRow (gq + 1) 4 1 (.slice B k d) k (bl (List.replicate k false)) ∧ (∀ x, At B x → ¬ At A x ∧ ∀ j, j < k → ¬ At (hd j).1 x) ∧ Cl w ⟨gq, 0, none⟩ (.slice A k c) ∧ Cl w ⟨gq, 1, none⟩ (.slice B k d) ∧ gq + 1 ≤ w.heap.size
theorem FS.row {gq k : Nat} {wr w4 : World} {A2 A4 : Option Addr} {c2 c4 : Nat} {cur : List Value} {hd : Nat → Option Addr × Nat} {B2 : Option Addr} {d2 : Nat} {cs : Array Value} (hgz : gq + 1 ≤ wr.heap.size)
    (hO : O2 iv 22 3 1 wr (gq + 1) A2 c2 cur hd (List.replicate k z16)) (hB : wr.ownsRow (gq + 1) 4 1 (.slice B2 k d2) k (bl (List.replicate k false))) (hdj : ∀ x, At B2 x → ¬ At A2 x ∧ ∀ j, j < k → ¬ At (hd j).1 x)
    (hZ : (wr.alloc (.cells cs 3)).ownsRow wr.heap.size 3 1 (.slice (some ⟨wr.heap.size, 0, none⟩) 16 16) 16 (iv z16))
    (hO4 : w4.ownsRow (gq + 1) 22 1 (.slice A4 (k + 1) c4) (k + 1) (cur ++ [.slice (some ⟨wr.heap.size, 0, none⟩) 16 16]))
    (hS4 : OutS (fun b => ∃ o, A2 = some ⟨b, o, none⟩) ((wr.alloc (.cells cs 3)).alloc (.cells #[.slice (some ⟨wr.heap.size, 0, none⟩) 16 16] 22)).drew w4)
    (hA4 : ∀ x, At A4 x → At A2 x ∨ wr.heap.size + 2 ≤ x) (v : Value) :
    ∃ hd', O2 iv 22 3 1 (w4.setCell ⟨gq, 0, none⟩ v) (gq + 1) A4 c4 (cur ++ [.slice (some ⟨wr.heap.size, 0, none⟩) 16 16]) hd' (List.replicate (k + 1) z16) ∧ (w4.setCell ⟨gq, 0, none⟩ v).ownsRow (gq + 1) 4 1 (.slice B2 k d2) k (bl (List.replicate k false)) ∧ (∀ x, At B2 x → ¬ At A4 x ∧ ∀ j, j < k + 1 → ¬ At (hd' j).1 x) := by
  have hA2 : ∀ x, At A2 x → gq + 1 ≤ x ∧ x < wr.heap.size := fun x hx => own_lo' hO.own hx
  have hB2 : ∀ x, At B2 x → gq + 1 ≤ x ∧ x < wr.heap.size := fun x hx => own_lo' hB hx
  have hb1 : Below wr.heap.size wr ((wr.alloc (.cells cs 3)).alloc (.cells #[.slice (some ⟨wr.heap.size, 0, none⟩) 16 16] 22)).drew := Below.drew (((Below.refl _ _).alloc (Nat.le_refl _) _).alloc (by simp) _)
  have hall : OutS (At A2) wr w4 := (OutS.of_below hb1).trans hS4
  have hset : OutS (fun x => x = gq) w4 (w4.setCell ⟨gq, 0, none⟩ v) := OutS.set w4 _ rfl
  have hR : ∀ x, At (some ⟨wr.heap.size, 0, none⟩ : Option Addr) x → x = wr.heap.size := fun x hx => by
    obtain ⟨o, ho⟩ := hx
    injection ho with ho
    injection ho with ho
    exact ho.symm
  have hrow : (w4.setCell ⟨gq, 0, none⟩ v).ownsRow (gq + 1) 3 1 (.slice (some ⟨wr.heap.size, 0, none⟩) 16 16) 16 (iv z16) :=
    own_outS (own_outS (own_below' (own_mono hZ hgz) (Below.drew ((Below.refl _ _).alloc (Nat.le_refl _) _))) hS4 (fun x h1 h2 => by have := hR x h1; have := hA2 x h2; omega)) hset (fun x h1 e => by have := hR x h1; omega)
  refine ⟨_, by rw [List.replicate_succ']; exact hO.snoc (xs := z16) (R := some ⟨wr.heap.size, 0, none⟩) (cr := 16) hrow (fun x hx => ⟨by have := hR x hx; omega, fun ha => by have := hR x hx; exact (hA4 x ha).elim (fun h => by have := hA2 x h; omega) (fun h => by omega)⟩) (by rw [List.length_replicate]; exact own_outS hO4 hset (fun x hx e => by exact (hA4 x hx).elim (fun h => by have := hA2 x h; omega) (fun h => by omega))) ((hall.mono fun x hx => .inl hx).trans (hset.mono fun x hx => .inr (by omega))) (fun x hx => (hA4 x hx).imp id (fun h => by omega)), ?_, fun x hx => ⟨fun ha => ?_, fun j hj ha => ?_⟩⟩
  · exact own_outS (own_outS hB hall (fun x h1 h2 => (hdj x h1).1 h2)) hset (fun x h1 e => by have := hB2 x h1; omega)
  · rcases hA4 x ha with h | h
    · exact (hdj x hx).1 h
    · have := hB2 x hx; omega
  · rw [List.length_replicate] at ha
    split at ha
    · rename_i h; exact (hdj x hx).2 j h ha
    · have := hR x ha; have := hB2 x hx; omega
theorem FS.used {gq k : Nat} {w5 w6 : World} {A4 : Option Addr} {c4 : Nat} {cur : List Value} {hd : Nat → Option Addr × Nat} {B2 B6 : Option Addr} {d2 d6 : Nat} {o : Obj} (hgz : gq + 1 ≤ w5.heap.size)
    (hO : O2 iv 22 3 1 w5 (gq + 1) A4 c4 cur hd (List.replicate (k + 1) z16)) (hB : w5.ownsRow (gq + 1) 4 1 (.slice B2 k d2) k (bl (List.replicate k false))) (hdj : ∀ x, At B2 x → ¬ At A4 x ∧ ∀ j, j < k + 1 → ¬ At (hd j).1 x)
    (hO6 : w6.ownsRow (gq + 1) 4 1 (.slice B6 (k + 1) d6) (k + 1) (bl (List.replicate k false) ++ bl [false]))
    (hS6 : OutS (fun b => ∃ o, B2 = some ⟨b, o, none⟩) (w5.alloc o) w6) (hB6 : ∀ x, At B6 x → At B2 x ∨ w5.heap.size + 1 ≤ x) (p0 : Cl w5 ⟨gq, 0, none⟩ (.slice A4 (k + 1) c4)) {u : Value} (p1 : Cl w5 ⟨gq, 1, none⟩ u) :
    FS gq (k + 1) (w6.setCell ⟨gq, 1, none⟩ (.slice B6 (k + 1) d6)) := by
  have hB2 : ∀ x, At B2 x → gq + 1 ≤ x ∧ x < w5.heap.size := fun x hx => own_lo' hB hx
  have hA4 : ∀ x, At A4 x → gq + 1 ≤ x ∧ x < w5.heap.size := fun x hx => own_lo' hO.own hx
  have hrw : ∀ j x, j < k + 1 → At (hd j).1 x → gq + 1 ≤ x ∧ x < w5.heap.size := fun j x hj hx => own_lo' (hO.row j (by simpa using hj)) hx
  have hall : OutS (At B2) w5 w6 := (OutS.of_below ((Below.refl _ _).alloc (Nat.le_refl _) o)).trans hS6
  have hset : OutS (fun x => x = gq) w6 (w6.setCell ⟨gq, 1, none⟩ (.slice B6 (k + 1) d6)) := OutS.set w6 _ rfl
  have hng : ¬ At B2 gq := fun h => by have := hB2 gq h; omega
  have hz := hall.size
  refine ⟨A4, c4, cur, hd, B6, d6, (hO.outS' hall (fun x h1 h2 => (hdj x h2).1 h1) (fun j x hj h1 h2 => (hdj x h2).2 j (by simpa using hj) h1)).outS' hset (fun x h1 e => by have := hA4 x h1; omega) (fun j x hj h1 e => by have := hrw j x (by simpa using hj) h1; omega), ?_, fun x hx => ⟨fun ha => ?_, fun j hj ha => ?_⟩, (p0.outS hall hng).other _ (by simp), (p1.outS hall hng).same _, by simp; omega⟩
  · have := own_outS hO6 hset (fun x h1 e => (hB6 x h1).elim (fun h => by have := hB2 x h; omega) (fun h => by omega))
    rw [List.replicate_succ']
    simpa [bl] using this
  · rcases hB6 x hx with h | h
    · exact (hdj x h).1 ha
    · have := hA4 x ha; omega
  · rcases hB6 x hx with h | h
    · exact (hdj x h).2 j hj ha
    · have := hrw j x hj ha; omega
set_option maxHeartbeats 8000000 in
set_option maxRecDepth 100000 in
theorem framesNew_s (w : World) : Calls Try.prog 65 #[.int .i64 2] w (MF2 w) := by
  obtain ⟨i0, hi0, iz00, iz01, iz02⟩ := info_parts infoIntSS
  obtain ⟨l0, hl, lz0, lz1, lz2⟩ := info_parts infoBool
  have hmk : ∀ W : World, (Instr.makeSlice 22 (.int .i64 16) (.int .i64 16)).run Try.prog W = .ok (.slice (some ⟨W.heap.size, 0, none⟩) 16 16) (W.alloc (.cells (madeCells #[.int .i64 0] 16) 3)) := fun W => Go.run_make_row' (P := Try.prog) 22 3 (.int .i64 0) 8 Try.underlying22 infoInt rfl .i64 .i64 16 (by omega) (by omega) W
  go_enter Try.func65, Try.ntmps65
  go_wp2_with (go_at_call 30; refine (l01In_q _ _ _ _).mono ?_; rintro e w2 ⟨rfl, rfl⟩; rw [show btw 2 1 32 = true from rfl])
  obtain ⟨gq, hgq⟩ : ∃ gq, gq = w.heap.size + 1 := ⟨_, rfl⟩
  have HGQ := Lib.hid hgq
  have f0 : Cl ((w.alloc (.cells #[.slice none 0 0, .slice none 0 0] 42)).alloc (.cells #[.slice none 0 0, .slice none 0 0] 42)) ⟨w.heap.size, 0, none⟩ (.slice none 0 0) := by constructor <;> simp [go_sem]
  have f1 : Cl ((w.alloc (.cells #[.slice none 0 0, .slice none 0 0] 42)).alloc (.cells #[.slice none 0 0, .slice none 0 0] 42)) ⟨w.heap.size, 1, none⟩ (.slice none 0 0) := by constructor <;> simp [go_sem]
  have p0 : Cl ((w.alloc (.cells #[.slice none 0 0, .slice none 0 0] 42)).alloc (.cells #[.slice none 0 0, .slice none 0 0] 42)) ⟨gq, 0, none⟩ (.slice none 0 0) := Cl.new (by rw [hgq]; simp) rfl
  have p1 : Cl ((w.alloc (.cells #[.slice none 0 0, .slice none 0 0] 42)).alloc (.cells #[.slice none 0 0, .slice none 0 0] 42)) ⟨gq, 1, none⟩ (.slice none 0 0) := Cl.new (by rw [hgq]; simp) rfl
  have hst : FS gq 0 ((w.alloc (.cells #[.slice none 0 0, .slice none 0 0] 42)).alloc (.cells #[.slice none 0 0, .slice none 0 0] 42)) := ⟨none, 0, [], fun _ => (none, 0), none, 0, O2.nil, own_nil, fun x hx => by (obtain ⟨o, ho⟩ := hx; cases ho), p0, p1, by simp; omega⟩
  have hb0 : Below w.heap.size w ((w.alloc (.cells #[.slice none 0 0, .slice none 0 0] 42)).alloc (.cells #[.slice none 0 0, .slice none 0 0] 42)) := by (repeat' (first | (with_reducible exact Below.refl _ _) | (with_reducible refine bel_alloc ?_ ?_ _) | (with_reducible refine Below.setCell ?_ ?_ _) | (with_reducible refine below_drewN ?_ _) | (with_reducible refine Below.drew ?_) | (with_reducible exact Nat.le_refl _) | (with_reducible assumption) | omega | (simp only [World.size_alloc, World.size_setCell, World.size_drew]; omega) | (simp; omega) | (simp; done)))
  have hgw : w.heap.size < gq := by omega
  simp only [← HGQ.out]
  clear p0 p1 hgq
  generalize (w.alloc (.cells #[.slice none 0 0, .slice none 0 0] 42)).alloc (.cells #[.slice none 0 0, .slice none 0 0] 42) = w0 at *
  obtain ⟨cs, hcs⟩ : ∃ cs, cs = madeCells #[.int .i64 0] 16 := ⟨_, rfl⟩
  have HZ := Lib.hid (fun (w : World) => own_z16 (w := w) (e := 3) rfl)
  simp only [← hcs] at hmk HZ
  clear hcs
  go_loopw [5] (fun v wr => ∃ k : Nat, k ≤ 2 ∧ v = .int .i64 k ∧ FS gq k wr ∧ Cl wr ⟨w.heap.size, 0, none⟩ (.slice none 0 0) ∧ Cl wr ⟨w.heap.size, 1, none⟩ (.slice none 0 0) ∧ Below w.heap.size w wr) (fun v _ => 2 - (intOf v).toNat)
  case atStart => exact ⟨0, by omega, rfl, hst, f0, f1, hb0⟩
  case round =>
  clear hst f0 f1 hb0
  obtain ⟨k, hk, rfl, ⟨A2, c2, cur, hd, B2, d2, hO, hB, hdj, p0, p1, hgz⟩, f0, f1, hbr⟩ := hrel
  by_cases hlt : k < 2
  · have HO := Lib.hid hO
    have hown0 := hO.own
    rw [List.length_replicate] at hown0
    replace hown0 : wr.drew.ownsRow (gq + 1) 22 1 (.slice A2 k c2) k cur := hown0
    have hlo : ∀ x, At A2 x → (gq + 1) ≤ x ∧ x < wr.heap.size := fun x hx => own_lo' hown0 hx
    have hloB : ∀ x, At B2 x → (gq + 1) ≤ x ∧ x < wr.heap.size := fun x hx => own_lo' hB hx
    have hrow : ∀ j x, j < k → At (hd j).1 x → (gq + 1) ≤ x ∧ x < wr.heap.size := fun j x hj hx => own_lo' (hO.row j (by simpa using hj)) hx
    have HDJ := Lib.hid hdj
    have HB := Lib.hid hB
    replace p0 : Cl wr.drew ⟨gq, 0, none⟩ _ := p0
    replace p1 : Cl wr.drew ⟨gq, 1, none⟩ _ := p1
    replace f0 : Cl wr.drew ⟨w.heap.size, 0, none⟩ _ := f0
    replace f1 : Cl wr.drew ⟨w.heap.size, 1, none⟩ _ := f1
    have p0c := p0.1
    have lp0 : gq < wr.heap.size := lt_of_cell' p0c
    have p0m : wr.cell? ⟨gq, 0, none⟩ = some (.slice A2 k c2) := p0c
    have i1 : (k : Int) < 2 := by omega
    clear hO hB hdj
    go_wp2_with fail
    go_region_law (first | (refine step_append_ow (by rfl) (.tmp 17) (.tmp 19) _ (by rfl) 22 i0 (.slice none 0 0) 1 24 Try.underlying31 hi0 iz00 iz01 iz02 (by rfl) (by omega) (gq + 1) A2 k c2 cur (by rfl) (own_below' hown0 (((Below.refl _ _).alloc (Nat.le_refl _) _).alloc (by simp) _)) (some ⟨wr.heap.size + 1, 0, none⟩) 1 1 [.slice (some ⟨wr.heap.size, 0, none⟩) 16 16] (by rfl) (by rfl) (Rd.lit (by simp)) (by simp [Value.oneCell']) (by unfold maxLen; omega) (by omega) (by simp; omega) ?_; intro A4 c4 w4 hO4 hS4 hA4; have P4 := ((p0.alloc (.cells cs 3)).alloc (.cells #[.slice (some ⟨wr.heap.size, 0, none⟩) 16 16] 22)).outS hS4 (fun hx => by have := (hlo _ hx).1; dsimp only at this; omega); have P4c := P4.1; have P4f := P4.2) | fail)
    all_goals
      have hA4' : ∀ x, At A4 x → At A2 x ∨ wr.heap.size + 2 ≤ x := fun x hx => by have := at_of hA4 hx; simpa using this
      obtain ⟨hd', hO5, hB5, hdj5⟩ := FS.row hgz HO.out HB.out HDJ.out (HZ.out wr) hO4 hS4 hA4' (.slice A4 (k + 1) c4)
      have P5 : Cl (w4.setCell ⟨gq, 0, none⟩ (.slice A4 (k + 1) c4)) ⟨gq, 0, none⟩ (.slice A4 (k + 1) c4) := P4.same _
      have Q5 : Cl (w4.setCell ⟨gq, 0, none⟩ (.slice A4 (k + 1) c4)) ⟨gq, 1, none⟩ (.slice B2 k d2) := (((p1.alloc (.cells cs 3)).alloc (.cells #[.slice (some ⟨wr.heap.size, 0, none⟩) 16 16] 22)).outS hS4 (fun hx => by have := (hlo _ hx).1; dsimp only at this; omega)).other _ (by simp)
      have F0 : Cl (w4.setCell ⟨gq, 0, none⟩ (.slice A4 (k + 1) c4)) ⟨w.heap.size, 0, none⟩ (.slice none 0 0) := (((f0.alloc (.cells cs 3)).alloc (.cells #[.slice (some ⟨wr.heap.size, 0, none⟩) 16 16] 22)).outS hS4 (fun hx => by have := (hlo _ hx).1; dsimp only at this; omega)).other _ (by simp <;> omega)
      have F1 : Cl (w4.setCell ⟨gq, 0, none⟩ (.slice A4 (k + 1) c4)) ⟨w.heap.size, 1, none⟩ (.slice none 0 0) := (((f1.alloc (.cells cs 3)).alloc (.cells #[.slice (some ⟨wr.heap.size, 0, none⟩) 16 16] 22)).outS hS4 (fun hx => by have := (hlo _ hx).1; dsimp only at this; omega)).other _ (by simp <;> omega)
      have hlo' : ∀ x, (∃ o, A2 = some ⟨x, o, none⟩) → w.heap.size ≤ x := fun x hx => by have := hlo x hx; omega
      have hb5 : Below w.heap.size w (w4.setCell ⟨gq, 0, none⟩ (.slice A4 (k + 1) c4)) := (bel_outS hS4 hlo' (Below.drew ((hbr.alloc (by have := hbr.size; omega) _).alloc (by have := hbr.size; simp; omega) _)) (Nat.le_refl _)).setCell (p := ⟨gq, 0, none⟩) (by show w.heap.size ≤ gq; omega) _
      have hgz5 : gq + 1 ≤ (w4.setCell ⟨gq, 0, none⟩ (.slice A4 (k + 1) c4)).heap.size := lt_of_cell' P5.1
      have hloB5 : ∀ x, At B2 x → (gq + 1) ≤ x ∧ x < (w4.setCell ⟨gq, 0, none⟩ (.slice A4 (k + 1) c4)).heap.size := fun x hx => own_lo' hB5 hx
      have HO5 := Lib.hid hO5
      have HD5 := Lib.hid hdj5
      clear hO4 hS4 hA4 hA4' P4 P4c P4f hO5 hdj5 p0 p1 f0 f1 p0c p0m
      generalize w4.setCell ⟨gq, 0, none⟩ (.slice A4 (k + 1) c4) = w5 at *
      have P5c := P5.1
      have P5f := P5.2
      have Q5c := Q5.1
      have Q5f := Q5.2
      go_wp2_with (at_builtin; refine wpList_append_ow rfl (.tmp 23) (.tmp 24) _ rfl 4 l0 (.bool false) 1 1 Try.underlying32 hl lz0 lz1 lz2 rfl (by omega) (gq + 1) B2 k d2 (bl (List.replicate k false)) rfl (own_below' hB5 ((Below.refl _ _).alloc (Nat.le_refl _) _)) (some ⟨_, 0, none⟩) 1 1 (bl [false]) rfl rfl (Rd.lit rfl) (bl_one _) (by unfold maxLen; omega) (by omega) (by simp; omega) ?_; intro B6 d6 w6 hO6 hS6 hB6; have Q6 := (Q5.alloc (.cells #[.bool false] 4)).outS hS6 (fun hx => by have := (hloB5 _ hx).1; dsimp only at this; omega); have Q6c := Q6.1; have Q6f := Q6.2)
      have hB6' : ∀ x, At B6 x → At B2 x ∨ w5.heap.size + 1 ≤ x := fun x hx => by have := at_of hB6 hx; simpa using this
      have hlo6 : ∀ x, (∃ o, B2 = some ⟨x, o, none⟩) → w.heap.size ≤ x := fun x hx => by have := hloB5 x hx; omega
      have F06 := (F0.alloc (.cells #[.bool false] 4)).outS hS6 (fun hx => by have := (hloB5 _ hx).1; dsimp only at this; omega)
      have F16 := (F1.alloc (.cells #[.bool false] 4)).outS hS6 (fun hx => by have := (hloB5 _ hx).1; dsimp only at this; omega)
      have hb6 : Below w.heap.size w (w6.setCell ⟨gq, 1, none⟩ (.slice B6 (k + 1) d6)) := (bel_outS hS6 hlo6 (hb5.alloc (by omega) _) (Nat.le_refl _)).setCell (p := ⟨gq, 1, none⟩) (by show w.heap.size ≤ gq; omega) _
      have hfs := FS.used hgz5 HO5.out hB5 HD5.out hO6 hS6 hB6' P5 Q5
      go_roundw
      case rel => exact ⟨k + 1, by omega, by go_num, hfs, F06.other _ (by simp <;> omega), F16.other _ (by simp <;> omega), hb6⟩
      case measure => simp [intOf]; omega
  · obtain rfl : k = 2 := by omega
    obtain ⟨p0c, p0f⟩ := p0
    obtain ⟨p1c, p1f⟩ := p1
    obtain ⟨f0c, f0f⟩ := f0
    obtain ⟨f1c, f1f⟩ := f1
    have R0 := Lib.hid (((hO.own2.setOut (g := w.heap.size) (o := 0) (.slice A2 2 c2) (.inl (by omega))).setOut (g := w.heap.size) (o := 1) (.slice B2 2 d2) (.inl (by omega))).wr2)
    have hloB : ∀ x, At B2 x → (gq + 1) ≤ x ∧ x < wr.heap.size := fun x hx => own_lo' hB hx
    have hO7 := own_outS (own_outS hB (S := fun x => x = w.heap.size) (OutS.set (o := 0) wr (.slice A2 2 c2) rfl) (fun x hx e => by have := hloB x hx; omega)) (S := fun x => x = w.heap.size) (OutS.set (o := 1) _ (.slice B2 2 d2) rfl) (fun x hx e => by have := hloB x hx; omega)
    have lp0 := lt_of_cell' p0c
    have HO7 := Lib.hid hO7
    clear hO hB hO7
    go_wp2_with fail
    refine bodyPost_ret (v := .tuple #[.agg #[.slice A2 2 c2, .slice B2 2 d2], .bool true]) (by simp [results, Try.results65, go_sem, f0c, f1c]) rfl ⟨A2, c2, B2, d2, _, _, rfl, R0.out, own_wr HO7.out, ?_, ?_, ?_⟩
    · exact fun b hb => by simp; omega
    · exact fun b hb => by have := hloB b hb; simp; omega
    · exact (hbr.setCell (p := ⟨w.heap.size, 0, none⟩) (Nat.le_refl _) _).setCell (p := ⟨w.heap.size, 1, none⟩) (Nat.le_refl _) _
end Go.Proofs.Ytljholnnhogdkaa
