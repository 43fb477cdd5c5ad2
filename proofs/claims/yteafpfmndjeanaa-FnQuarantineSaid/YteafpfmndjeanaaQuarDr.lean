/- A drawn quarantine is valid. -/
import Derived.Test.YteafpfmndjeanaaQuarW
import Derived.Test.YteafpfmndjeanaaQuarM
import Derived.Test.YteafpfmndjeanaaQuarN
import Derived.Test.YteafpfmndjeanaaQuarQ
import Derived.Test.YteafpfmndjeanaaDrawO
import Derived.Deep.RegionLaw
namespace Go.Proofs.Yteafpfmndjeanaa
open Go.ChangeShapes Go.WideShapes Go.ChangeAt Go.RowKit
set_option linter.unusedVariables false
set_option linter.unusedSimpArgs false

/-- Only the cursor, and what is new, has turned. -/
theorem out_new {g : Nat} {T : Nat → Prop} {w w1 w2 : World} (h : Out g (g + 1) w w1) (k : OutS T w1 w2) (hT : ∀ b, T b → b = g ∨ w.heap.size ≤ b) : Out g (g + 1) w w2 :=
  ⟨k.os.trans h.os, k.tape.trans h.tape, k.output.trans h.output, Nat.le_trans h.size k.size, fun i h1 h2 => (k.block i (Nat.lt_of_lt_of_le h1 h.size) (fun e => by have := hT i e; omega)).trans (h.block i h1 h2)⟩
theorem Cl.cur {g : Nat} {w w1 : World} {p : Addr} {v : Value} (h : Cl w p v) (ho : Out g (g + 1) w w1) (hp : p.block ≠ g) : Cl w1 p v := h.outS ho.setOf hp
def small (t : Int) (x : St) : Prop := x.1 < 64 ∧ x.2.2 ≤ t
def AddRes (r t : Int) (w : World) (e : Ending) (w' : World) : Prop :=
  ∃ (A : Option Addr) (c : Nat) (A' : Option Addr) (c' : Nat) (S : Nat → Prop) (ys zs : List St), e = .returned (.tuple #[.agg #[.int .i64 r, .slice A ys.length c], .slice A' zs.length c']) ∧ Wr w' S A (tv ys) ∧ New S w w' ∧ (ys.length ≤ c ∧ c ≤ maxLen) ∧ qOkB r ys = true ∧ (∀ z ∈ ys, small t z) ∧ Below w.heap.size w w'
theorem quarAdd_draw (r t : Int) (A : Option Addr) (c : Nat) (xs : List St) (x y z : Int) (w : World) {B : Nat} (hr : Rd w B A (tv xs)) (hcap : xs.length ≤ c ∧ c ≤ maxLen) (hq : qOkB r xs = true) (hs : ∀ z ∈ xs, small t z) (hx : small t (x, y, z)) :
    Calls Try.prog 31 #[.agg #[.int .i64 r, .slice A xs.length c], .agg #[.int .i64 x, .int .i64 y, .int .i64 z]] w (AddRes r t w) := by
  have hl := qOk_len hq
  cases hst : stOk xs (x, y, z) with
  | false =>
    refine (quarAdd_s_no r A xs.length c xs x y z w hr rfl (by omega) hcap (.inr hst)).mono ?_
    rintro e w' ⟨A1, c1, A2, c2, S, S', rfl, hW, -, hN, -, -, hb, hc⟩
    exact ⟨A1, c1, A2, c2, S, xs, [], rfl, hW, hN, hc, hq, hs, hb⟩
  | true =>
    refine (quarAdd_s_yes r A xs.length c xs x y z w hr rfl (by omega) hcap hq hst (qOk_room hq) _ _ rfl rfl).mono ?_
    rintro e w' ⟨A1, c1, A2, c2, S, S', rfl, hW, -, hN, -, -, hb, hc⟩
    refine ⟨A1, c1, A2, c2, S, _, _, rfl, hW, hN, hc, qOk_add hq hst, fun v hv => ?_, hb⟩
    rcases List.mem_append.1 (List.mem_of_mem_drop hv) with h | h
    · exact hs v h
    · simp at h
      subst h
      exact hx
def QCaseOut (g B : Nat) (A : Option Addr) (c : Nat) (bs : List Int) (w : World) (e : Ending) (w' : World) : Prop :=
  ∃ (r : Int) (A1 : Option Addr) (c1 : Nat) (xs : List St) (S : Nat → Prop), e = .returned (.agg #[.int .i64 r, .slice A1 xs.length c1]) ∧ qOkB r xs = true ∧ (∀ z ∈ xs, small 100 z) ∧ Wr w' S A1 (tv xs) ∧ (∀ b, S b → w.heap.size < b) ∧ (xs.length ≤ c1 ∧ c1 ≤ maxLen) ∧ Out g (g + 1) w w'
set_option maxRecDepth 100000 in
set_option maxHeartbeats 8000000 in
theorem l22Case_any (g B : Nat) (A : Option Addr) (c : Nat) (bs : List Int) (w : World) (hb : Bytes bs) (hB : B ≤ g) (hc : Cur w g B A c bs) :
    Calls Try.prog 42 #[.pointer (some ⟨g, 0, none⟩)] w (QCaseOut g B A c bs w) := by
  have hgl := hc.lt
  go_enter Try.func42, Try.ntmps42
  go_wp2_with fail
  refine (l01Below_any 30 g B A c bs _ hb hB (hc.alloc _) (by omega)).mono ?_
  rintro e w1 ⟨x, rfl, hx0, hx1, -, hc1, ho1⟩
  have hx1 := hx1 (by omega)
  have hz1 := ho1.size
  simp only [World.size_alloc] at hz1
  have r0 : Cl w1 ⟨w.heap.size, 0, none⟩ (.int .i64 0) := Cl.cur (Cl.new rfl rfl) ho1 (by simp; omega)
  have r1 : Cl w1 ⟨w.heap.size, 1, none⟩ (.slice none 0 0) := Cl.cur (Cl.new rfl rfl) ho1 (by simp; omega)
  have hor : Out g (g + 1) w w1 := (Out.refl.alloc _).trans ho1
  have hqn : btw x 0 500 = true := btw_t (by omega) (by omega)
  have hr : qn x = x := by simp [qn, hqn]
  have hok : qOkB x [] = true := qOk_iff.2 ⟨⟨by simp, List.Pairwise.nil⟩, by omega, by simp [qsum]; omega⟩
  have HK := Lib.hid hok
  have HQN := Lib.hid (fun W => quarNew_s x W true hqn)
  rw [hr] at HQN
  clear hok hqn hr hc ho1
  go_wp2_with fail
  refine (HQN.out _).mono ?_
  rintro e w2 ⟨A2, c2, S2, rfl, hW2, hN2, hb2, hcap2⟩
  replace hor := hor.below hb2
  replace hc1 := hc1.below hb2
  replace r0 := r0.below hb2
  replace r1 := r1.below hb2
  have hz2 := hb2.size
  obtain ⟨gq, hgq⟩ : ∃ gq, gq = w2.heap.size := ⟨_, rfl⟩
  have HGQ := Lib.hid hgq
  have hgq1 : w.heap.size < gq := by omega
  clear hgq
  have hS2 : ∀ b, S2 b → w.heap.size < b ∧ b ≠ gq := fun b h => by have := hN2 b h; have := HGQ.out; omega
  have g0 : Cl (w2.alloc (.cells #[.int .i64 x, .slice A2 0 c2] 24)) ⟨gq, 0, none⟩ (.int .i64 x) := Cl.new HGQ.out rfl
  have g1 : Cl (w2.alloc (.cells #[.int .i64 x, .slice A2 0 c2] 24)) ⟨gq, 1, none⟩ (.slice A2 0 c2) := Cl.new HGQ.out rfl
  go_wp2
  simp only [← HGQ.out]
  go_loopw [5, 6] (fun u v wr => ∃ (k : Nat) (t : Int) (A1 : Option Addr) (c1 : Nat) (S : Nat → Prop) (xs : List St), k ≤ 12 ∧ v = .int .i64 k ∧ u = .int .i64 t ∧ 0 ≤ t ∧ t ≤ 3 * (k : Int) ∧ qOkB x xs = true ∧ (∀ z ∈ xs, small t z) ∧ (xs.length ≤ c1 ∧ c1 ≤ maxLen) ∧ Cl wr ⟨gq, 0, none⟩ (.int .i64 x) ∧ Cl wr ⟨gq, 1, none⟩ (.slice A1 xs.length c1) ∧ Cl wr ⟨w.heap.size, 0, none⟩ (.int .i64 0) ∧ Cl wr ⟨w.heap.size, 1, none⟩ (.slice none 0 0) ∧ Wr wr S A1 (tv xs) ∧ (∀ b, S b → w.heap.size < b ∧ b ≠ gq) ∧ Cur wr g B A c bs ∧ Out g (g + 1) w wr) (fun _ v _ => 12 - (intOf v).toNat)
  case atStart => exact ⟨0, 0, A2, c2, S2, [], Nat.zero_le _, rfl, rfl, by omega, by omega, HK.out, by simp, hcap2, g0, g1, r0.alloc _, r1.alloc _, hW2.alloc _, hS2, hc1.alloc _, hor.alloc _⟩
  case round =>
    clear g0 g1 r0 r1 hW2 hc1 hor HK hz1 hz2 hN2 hS2 hcap2
    obtain ⟨k, t, A1, c1, S, xs, hk, rfl, rfl, ht0, ht1, hok, hsm, hcap, g0, g1, r0, r1, hW, hS, hcr, hor⟩ := hrel
    have HK := Lib.hid hok
    have HSM := Lib.hid hsm
    clear hok hsm
    have hzr := hor.size
    go_wp2_with fail
    refine (l01Below_any 12 g B A c bs _ hb hB hcr (by omega)).mono ?_
    rintro e w3 ⟨y, rfl, hy0, hy1, -, hc3, ho3⟩
    have hy1 := hy1 (by omega)
    replace hW := hW.cur ho3 (fun b h => by have := hS b h; omega)
    replace g0 := g0.cur ho3 (by simp; omega)
    replace g1 := g1.cur ho3 (by simp; omega)
    replace r0 := r0.cur ho3 (by simp; omega)
    replace r1 := r1.cur ho3 (by simp; omega)
    have hor3 := hor.trans ho3
    have hz3 := ho3.size
    clear hcr ho3 hor
    by_cases hlt : (k : Int) < y
    · go_wp2_with fail
      refine (l01Below_any 4 g B A c bs _ hb hB hc3 (by omega)).mono ?_
      rintro e w4 ⟨z, rfl, hz0, hz4, -, hc4, ho4⟩
      have hz5 := hz4 (by omega)
      replace hW := hW.cur ho4 (fun b h => by have := hS b h; omega)
      replace g0 := g0.cur ho4 (by simp; omega)
      replace g1 := g1.cur ho4 (by simp; omega)
      replace r0 := r0.cur ho4 (by simp; omega)
      replace r1 := r1.cur ho4 (by simp; omega)
      have hor4 := hor3.trans ho4
      have hzw := ho4.size
      clear hc3 ho4 hor3 hz4
      obtain ⟨tt, htt⟩ : ∃ tt, tt = t + z := ⟨_, rfl⟩
      have HTT := Lib.hid htt
      have htt0 : 0 ≤ tt := by omega
      have htt1 : tt ≤ 3 * ((k : Int) + 1) := by omega
      have HSM2 := Lib.hid (show ∀ v ∈ xs, small tt v from fun v hv => ⟨(HSM.out v hv).1, Int.le_trans (HSM.out v hv).2 (by omega)⟩)
      clear htt
      have hcd : Cur w4.drew g B A c bs := hc4
      have g0d : w4.drew.cell? ⟨gq, 0, none⟩ = some (.int .i64 x) := g0.1
      have g1d : w4.drew.cell? ⟨gq, 1, none⟩ = some (.slice A1 xs.length c1) := g1.1
      replace g0 : Cl w4.drew ⟨gq, 0, none⟩ (.int .i64 x) := g0
      replace g1 : Cl w4.drew ⟨gq, 1, none⟩ (.slice A1 xs.length c1) := g1
      replace r0 : Cl w4.drew ⟨w.heap.size, 0, none⟩ (.int .i64 0) := r0
      replace r1 : Cl w4.drew ⟨w.heap.size, 1, none⟩ (.slice none 0 0) := r1
      replace hW := hW.drew
      replace hor4 : Out g (g + 1) w w4.drew := hor4.drewN 1
      go_wp2_with fail
      rw [← HTT.out]
      go_region_law (first | (go_simp; go_at_call 44; (with_reducible refine (l01Below_any 64 g B A c bs _ hb hB hcd (by omega)).mono ?_); rintro e w5 ⟨x5, rfl, h50, h51, -, hc5, ho5⟩; replace h51 := h51 (by omega); have g05 := g0.cur ho5 (by simp; omega); have g15 := g1.cur ho5 (by simp; omega); have r05 := r0.cur ho5 (by simp; omega); have r15 := r1.cur ho5 (by simp; omega); have hW5 := hW.cur ho5 (fun b h => by have := hS b h; omega); have g05c := g05.1; have g15c := g15.1; have hor5 := hor4.trans ho5) | (go_simp; go_at_call 44; (with_reducible refine (l01Below_any 4 g B A c bs _ hb hB hc5 (by omega)).mono ?_); rintro e w6 ⟨x6, rfl, h60, h61, -, hc6, ho6⟩; replace h61 := h61 (by omega); have g06 := g05.cur ho6 (by simp; omega); have g16 := g15.cur ho6 (by simp; omega); have r06 := r05.cur ho6 (by simp; omega); have r16 := r15.cur ho6 (by simp; omega); have hW6 := hW5.cur ho6 (fun b h => by have := hS b h; omega); have g06c := g06.1; have g16c := g16.1; have hor6 := hor5.trans ho6; have hz6 := hor6.size) | (go_simp; go_at_call 31; refine (quarAdd_draw x tt A1 c1 xs x5 x6 tt _ hW6.rd hcap HK.out HSM2.out ⟨h51, Int.le_refl _⟩).mono ?_; rintro e w7 ⟨A7, c7, A8, c8, S7, ys, zs, rfl, hW7, hN7, hcap7, hok7, hsm7, hb7⟩; have g07 := g06.below hb7; have g17 := g16.below hb7; have r07 := r06.below hb7; have r17 := r16.below hb7; have g07c := g07.1; have g17c := g17.1; have g07f := g07.2; have g17f := g17.2; have hc7 := hc6.below hb7; have hor7 := hor6.below hb7; have hgq7 := lt_of_cell' g06.1) | fail)
      all_goals
        have hS7 : ∀ b, S7 b → w.heap.size < b ∧ b ≠ gq := fun b h => by have := hN7 b h; omega
        go_wp2
        go_roundw
        case rel =>
          refine ⟨k + 1, tt, A7, c7, S7, ys, by omega, by go_num, rfl, htt0, by omega, hok7, hsm7, hcap7, (g07.same _).other _ (by simp), (g17.other _ (by simp)).same _, (r07.other _ (by simp <;> omega)).other _ (by simp <;> omega), (r17.other _ (by simp <;> omega)).other _ (by simp <;> omega), (hW7.setOut _ (fun h => (hS7 _ h).2 rfl)).setOut _ (fun h => (hS7 _ h).2 rfl), hS7, (hc7.out (Out.set _ gq 0 _) (by omega) (by omega)).out (Out.set _ gq 1 _) (by omega) (by omega), ?_⟩
          exact out_new (out_new hor7 (OutS.set (S := fun b => b = gq) _ _ rfl) (fun b h => by omega)) (OutS.set (S := fun b => b = gq) _ _ rfl) (fun b h => by omega)
        case measure => simp [intOf]; omega
    · obtain ⟨g0c, g0f⟩ := g0
      obtain ⟨g1c, g1f⟩ := g1
      obtain ⟨r0c, r0f⟩ := r0
      obtain ⟨r1c, r1f⟩ := r1
      go_wp2
      refine bodyPost_ret (v := .agg #[.int .i64 x, .slice A1 xs.length c1]) (by simp [results, Try.results42, go_sem, r0c, r1c]) rfl ⟨x, A1, c1, xs, S, rfl, HK.out, fun v hv => ⟨(HSM.out v hv).1, Int.le_trans (HSM.out v hv).2 (by omega)⟩, ?_, fun b h => (hS b h).1, hcap, ?_⟩
      · have hWr := (hW.setOut (b := w.heap.size) (o := 0) (.int .i64 x) (fun h => by have := hS _ h; omega)).setOut (b := w.heap.size) (o := 1) (.slice A1 xs.length c1) (fun h => by have := hS _ h; omega)
        exact hWr
      · exact out_new (out_new hor3 (OutS.set (S := fun b => b = w.heap.size) _ _ rfl) (fun b h => by omega)) (OutS.set (S := fun b => b = w.heap.size) _ _ rfl) (fun b h => by omega)
def DrawnQ (w : World) (e : Ending) (w' : World) : Prop :=
  ∃ (r : Int) (A1 : Option Addr) (c1 : Nat) (xs : List St), e = .returned (.agg #[.int .i64 r, .slice A1 xs.length c1]) ∧ qOkB r xs = true ∧ (∀ z ∈ xs, small 100 z) ∧ Rd w' w'.heap.size A1 (tv xs) ∧ (xs.length ≤ c1 ∧ c1 ≤ maxLen) ∧ Below w.heap.size w w'
theorem drawQuar_any {B : Nat} (A : Option Addr) (c : Nat) (bs : List Int) (w : World) (hb : Bytes bs) (hr : Rd w B A (bv bs)) :
    Calls Try.prog 22 #[.slice A bs.length c] w (DrawnQ w) := by
  go_enter Try.func22, Try.ntmps22
  go_wp2_with fail
  refine (l01New_any _ A c bs _ hb (hr.lt.alloc _)).mono ?_
  rintro e w1 ⟨g, rfl, hg0, hg1, hc, hb1⟩
  have hsz : w.heap.size + 1 ≤ g := by simpa using hg0
  have d0 := (Cl.new (w := w) (n := w.heap.size) (cs := #[.int .i64 0, .slice none 0 0]) (t := 24) (i := 0) (v := .int .i64 0) rfl rfl).below hb1
  have d1 := (Cl.new (w := w) (n := w.heap.size) (cs := #[.int .i64 0, .slice none 0 0]) (t := 24) (i := 1) (v := .slice none 0 0) rfl rfl).below hb1
  go_wp2_with fail
  refine (l22Case_any g _ A c bs _ hb (by omega) hc).mono ?_
  rintro e w2 ⟨r, A1, c1, xs, S, rfl, h1, h2, h3, hS, h4, ho⟩
  have HB := Lib.hid (ho.bel (a := w) (by (repeat' (first | (with_reducible exact Below.refl _ _) | (with_reducible refine bel_alloc ?_ ?_ _) | (with_reducible refine Below.setCell ?_ ?_ _) | (with_reducible refine below_drewN ?_ _) | (with_reducible refine Below.drew ?_) | (with_reducible refine bel_step hb1 ?_ ?_) | (with_reducible exact Nat.le_refl _) | (with_reducible assumption) | omega | (simp only [World.size_alloc, World.size_setCell, World.size_drew]; omega) | (simp; omega) | (simp; done)))) (by omega))
  replace d0 := d0.cur ho (by simp; omega)
  replace d1 := d1.cur ho (by simp; omega)
  obtain ⟨d0c, d0f⟩ := d0
  obtain ⟨d1c, d1f⟩ := d1
  have hz := ho.size
  have hz1 := hb1.size
  simp only [World.size_alloc] at hz1
  go_wp2
  refine bodyPost_ret (v := .agg #[.int .i64 r, .slice A1 xs.length c1]) (by simp [results, Try.results22, go_sem, d0c, d1c]) rfl ⟨r, A1, c1, xs, rfl, h1, h2, ?_, h4, ?_⟩
  · exact ((h3.setOut (b := w.heap.size) (o := 0) _ (fun h => by have := hS _ h; omega)).setOut (b := w.heap.size) (o := 1) _ (fun h => by have := hS _ h; omega)).rd
  · exact (HB.out.setCell (Nat.le_refl _) _).setCell (Nat.le_refl _) _
end Go.Proofs.Yteafpfmndjeanaa
