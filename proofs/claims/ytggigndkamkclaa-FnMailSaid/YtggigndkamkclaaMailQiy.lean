/- Deliver, one way.
The state: see MailQ. -/
import Derived.Test.YtggigndkamkclaaMailQ
import Derived.Deep.RegionLaw
import Derived.Deep.DeepCutAuto
import Derived.Deep.RegionHeld3
import Derived.Deep.DrawnRows
namespace Go.Proofs.Ytggigndkamkclaa
open Go.ChangeShapes Go.WideShapes Go.ChangeAt Go.RowKit
set_option linter.unusedVariables false
attribute [local go_sem ↓] Go.wp_at_zero Go.wp_at_succ

set_option maxHeartbeats 8000000 in
set_option maxRecDepth 100000 in
theorem deliver_i_yes (A : Option Addr) (c : Nat) (B : Option Addr) (d : Nat) (xss : List (List Po)) (yss : List (List Int)) (κ τ m : Nat) (q : List Po) (a : Int) (r : List Int) (w : World) {B1 B2 : Nat} (hr : Rd2 pv w B1 A xss) (hs : Rd2 iv w B2 B yss) (hn : Rows xss ∧ Rows yss) (hv : hasTh xss yss κ = true) (hlt : κ < xss.length) (hq : q = xss[κ]) (hm : q.length = m + 1) (h0 : q[0]? = some ((τ : Int), a)) (hlt2 : τ < yss.length) (hr2 : r = yss[τ]) (hr30 : r.length ≤ 30) :
    Calls Try.prog 15 #[.agg #[.slice A xss.length c, .slice B yss.length d], .int .i64 κ] w (MadeMB (xss.set κ (q.drop 1)) (yss.set τ (r ++ [a])) true w) := by
  have i0 : (0 : Int) ≤ (κ : Int) := by omega
  have i1 : (κ : Int) < (xss.length : Int) := by omega
  have hr0 := hr.lt
  have hs0 := hs.lt
  obtain ⟨b, off, R0, cr, rfl, -, hc, hrq⟩ := hr.lt.row hlt
  have hbl := lt_of_cell' hc
  have hqm := hn.1.2 _ (List.getElem_mem hlt)
  have HQ := Lib.hid hq
  rw [← hq] at hc hrq hqm
  have hql : 0 < q.length := by omega
  obtain ⟨b3, off3, hR0, -, hx0, hx1⟩ := hrq.pair (k := 0) hql
  subst hR0
  have hqe : q[0] = ((τ : Int), a) := by rw [List.getElem?_eq_getElem hql] at h0; injection h0
  rw [hqe] at hx0 hx1
  simp only [Nat.zero_mul, Nat.add_zero] at hx0 hx1
  have hqi : (0 : Int) < (q.length : Int) := by omega
  have hqb : ((q.length : Int) == 0) = false := by rw [hm]; simp; omega
  have HM := Lib.hid hm
  have HR2 := Lib.hid hr2
  clear hq h0 hqe hm hr2
  go_enter Try.func15, Try.ntmps15
  go_wp2_with fail
  refine (copyMail_i _ _ _ _ _ _ _ ((hr.alloc _).alloc _) ((hs.alloc _).alloc _) hn).mono ?_
  rintro e u1 ⟨A1, c1, C1, d1, mid, rfl, hcA, hcB, hOA, hOB, hm1, hm2, hb1⟩
  replace hr := ((hr.alloc _).alloc _).below hb1
  replace hs := ((hs.alloc _).alloc _).below hb1
  replace hc := keep hb1 (cell_al (cell_al hc _) _)
  replace hx0 := keep hb1 (cell_al (cell_al hx0 _) _)
  replace hx1 := keep hb1 (cell_al (cell_al hx1 _) _)
  have q0 : u1.cell? ⟨w.heap.size, 0, none⟩ = some (.slice (some ⟨b, off, none⟩) xss.length c) := keep hb1 (by simp [go_sem])
  have q1 : u1.cell? ⟨w.heap.size, 1, none⟩ = some (.slice B yss.length d) := keep hb1 (by simp [go_sem])
  have f0 : Cl u1 ⟨w.heap.size + 1, 0, none⟩ (.slice none 0 0) := Cl.below (by constructor <;> simp [go_sem]) hb1
  have f1 : Cl u1 ⟨w.heap.size + 1, 1, none⟩ (.slice none 0 0) := Cl.below (by constructor <;> simp [go_sem]) hb1
  have hz1 := hb1.size
  try simp only [World.size_alloc, World.size_drew] at hz1
  have lq0 := lt_of_cell' q0
  have f0c := f0.1
  have f0f := f0.2
  have lf0 := lt_of_cell' f0c
  have f1c := f1.1
  have f1f := f1.2
  replace hOA := hOA.mono (lo' := w.heap.size + 2) (by first | omega | (simp only [World.size_alloc]; omega))
  try simp only [World.size_alloc] at hm1
  go_wp2_with fail
  refine (hasThread_i _ _ _ _ _ _ _ _ (hr.alloc _) (hs.alloc _) hn true hv).mono ?_
  rintro e u2 ⟨rfl, hb2⟩
  clear lq0
  clear f0c f0f f1c f1f
  clear lf0
  replace hr := (hr.alloc _).below hb2
  replace hs := (hs.alloc _).below hb2
  replace hc := keep hb2 (cell_al hc _)
  replace hx0 := keep hb2 (cell_al hx0 _)
  replace hx1 := keep hb2 (cell_al hx1 _)
  replace q0 := keep hb2 (cell_al q0 _)
  replace q1 := keep hb2 (cell_al q1 _)
  replace f0 := (f0.alloc _).below hb2
  replace f1 := (f1.alloc _).below hb2
  replace hOA := (hOA.alloc _).below hb2
  replace hOB := (hOB.alloc _).below hb2
  have o0 : u2.cell? ⟨u1.heap.size, 0, none⟩ = some (.slice A1 xss.length c1) := keep hb2 (by simp [go_sem])
  have o1 : u2.cell? ⟨u1.heap.size, 1, none⟩ = some (.slice C1 yss.length d1) := keep hb2 (by simp [go_sem])
  have hz2 := hb2.size
  try simp only [World.size_alloc, World.size_drew] at hz2
  have lq0 := lt_of_cell' q0
  have lo0 := lt_of_cell' o0
  have f0c := f0.1
  have f0f := f0.2
  have lf0 := lt_of_cell' f0c
  have f1c := f1.1
  have f1f := f1.2
  clear hv
  go_wp2_with fail
  have hbU : Below u2.heap.size u2 (u2.alloc (.cells #[.int .i64 (τ : Int), .int .i64 a] 34)) := (Below.refl _ _).alloc (Nat.le_refl _) _
  have p0 : (u2.alloc (.cells #[.int .i64 (τ : Int), .int .i64 a] 34)).cell? ⟨u2.heap.size, 0, none⟩ = some (.int .i64 (τ : Int)) := by simp [go_sem]
  have p1 : (u2.alloc (.cells #[.int .i64 (τ : Int), .int .i64 a] 34)).cell? ⟨u2.heap.size, 1, none⟩ = some (.int .i64 a) := by simp [go_sem]
  have hzU : u2.heap.size + 1 ≤ (u2.alloc (.cells #[.int .i64 (τ : Int), .int .i64 a] 34)).heap.size := by simp
  generalize u2.alloc (.cells #[.int .i64 (τ : Int), .int .i64 a] 34) = U at *
  clear lq0 lo0
  clear f0c f0f f1c f1f
  clear lf0
  replace hr := hr.below hbU
  replace hs := hs.below hbU
  replace hc := keep hbU hc
  replace hx0 := keep hbU hx0
  replace hx1 := keep hbU hx1
  replace q0 := keep hbU q0
  replace q1 := keep hbU q1
  replace f0 := f0.below hbU
  replace f1 := f1.below hbU
  replace hOA := hOA.below hbU
  replace hOB := hOB.below hbU
  replace o0 := keep hbU o0
  replace o1 := keep hbU o1
  obtain ⟨b1, off1, hd, rfl, hb1lo, hb1hi, hRow, hhi, hL⟩ := hOA.open_ (by omega)
  have hcl := hL.cell κ hlt
  have hrk := hL.row κ hlt
  have hcap := (Ow.mk' hrk).cap
  rw [← HQ.out] at hcl hrk hcap
  obtain ⟨g, hg, -, -⟩ := (Ow.mk' hrk).some_ (by omega)
  obtain ⟨cp, hcp'⟩ : ∃ cp, cp = (hd κ).2 := ⟨_, rfl⟩
  rw [hg, ← hcp'] at hcl
  rw [← hcp'] at hcap
  have hclc := hcl.1
  have hclf := hcl.2
  have HH := Lib.hid hg
  clear hg hcp'
  have j1 : (1 : Int) ≤ (cp : Int) := by omega
  have j2 : (1 : Int) ≤ (q.length : Int) := by omega
  have j3 : (q.length : Int) ≤ (cp : Int) := by omega
  have hX : ∃ (X : Option Addr) (cx : Nat), Wr U (At (some ⟨g, 0, none⟩)) X (pv (q.drop 1)) ∧ ((cp = 1 ∧ X = some ⟨g, 0, none⟩ ∧ cx = 0) ∨ (cp ≠ 1 ∧ X = some ⟨g, 2, none⟩ ∧ cx = cp - 1)) := by
    have hw := own_wr hrk
    rw [HH.out, pv_take q 1] at hw
    by_cases hc1 : cp = 1
    · refine ⟨_, _, ?_, .inl ⟨hc1, rfl, rfl⟩⟩
      rw [List.drop_eq_nil_of_le (by omega)]
      exact Wr.nil
    · refine ⟨_, _, ?_, .inr ⟨hc1, rfl, rfl⟩⟩
      have h3 := hw.post
      have e : (pv (q.take 1)).length = 2 := by rw [pv_length, List.length_take]; omega
      rw [e, Nat.zero_add] at h3
      exact h3
  obtain ⟨X, cx, hWX, hXC⟩ := hX
  have hU := L2.upd (T := At (some ⟨g, 0, none⟩)) (A' := X) (n' := q.length - 1) (c' := cx) (xs' := q.drop 1) hL hb1lo hb1hi hRow hhi hlt OutS.refl (by simp) hWX (fun x hx => ⟨.inl (by rw [HH.out]; exact hx), (own_lo' hrk (by rw [HH.out]; exact hx)).2⟩)
  replace hU := hU.new (lo := w.heap.size + 2) (hi := mid) (fun x hx => by omega)
  have HXC := Lib.hid hXC
  clear hXC
  go_cut [40] (fun s0 W => W = (U.setCell ⟨b1, off1 + κ, none⟩ (.slice X (q.length - 1) cx)).drew)
  case first =>
    rcases HXC.out with ⟨rfl, rfl, rfl⟩ | ⟨hc1, rfl, rfl⟩
    · have e1 : q.length - 1 = 0 := by omega
      go_region_law (fail)
      all_goals
        go_wp2_with fail
        go_meet
        case rel => first | exact rfl | (rw [e1])
    · go_region_law (fail)
      all_goals
        go_wp2_with fail
        go_meet
        case rel => exact rfl
  case rest =>
    have hV : wc = (U.setCell ⟨b1, off1 + κ, none⟩ (.slice X (q.length - 1) cx)).drew := hcut
    have hzc : wc.heap.size = U.heap.size := by rw [hV]; simp
    replace hU : Wr2 pv wc (fun x => w.heap.size + 2 ≤ x ∧ x < mid) (some ⟨b1, off1, none⟩) (xss.set κ (q.drop 1)) := by rw [hV]; exact hU.drew
    replace o0 : wc.cell? ⟨u1.heap.size, 0, none⟩ = some (.slice (some ⟨b1, off1, none⟩) xss.length c1) := by rw [hV]; exact set_other o0 (by omega)
    replace o1 : wc.cell? ⟨u1.heap.size, 1, none⟩ = some (.slice C1 yss.length d1) := by rw [hV]; exact set_other o1 (by omega)
    replace p0 : wc.cell? ⟨u2.heap.size, 0, none⟩ = some (.int .i64 (τ : Int)) := by rw [hV]; exact set_other p0 (by omega)
    replace p1 : wc.cell? ⟨u2.heap.size, 1, none⟩ = some (.int .i64 a) := by rw [hV]; exact set_other p1 (by omega)
    replace f0 : Cl wc ⟨w.heap.size + 1, 0, none⟩ (.slice none 0 0) := by rw [hV]; exact f0.other (q := ⟨b1, off1 + κ, none⟩) _ (by simp <;> omega)
    replace f1 : Cl wc ⟨w.heap.size + 1, 1, none⟩ (.slice none 0 0) := by rw [hV]; exact f1.other (q := ⟨b1, off1 + κ, none⟩) _ (by simp <;> omega)
    replace hOB : Own2 iv 3 1 wc mid u1.heap.size C1 yss := by rw [hV]; exact (hOB.setOut (g := b1) (o := off1 + κ) _ (.inl (by omega))).drew
    have hbW : Below w.heap.size w wc := by
      have hbA : Below w.heap.size w U := by (repeat' (first | (with_reducible exact Below.refl _ _) | (with_reducible refine bel_alloc ?_ ?_ _) | (with_reducible refine Below.setCell ?_ ?_ _) | (with_reducible refine below_drewN ?_ _) | (with_reducible refine Below.drew ?_) | (with_reducible refine bel_step hb1 ?_ ?_) | (with_reducible refine bel_step hb2 ?_ ?_) | (with_reducible refine bel_step hbU ?_ ?_) | (with_reducible exact Nat.le_refl _) | (with_reducible assumption) | omega | (simp only [World.size_alloc, World.size_setCell, World.size_drew]; omega) | (simp; omega) | (simp; done)))
      rw [hV]
      exact (hbA.setCell (by show w.heap.size ≤ b1; omega) _).drew
    clear hc hx0 hx1 q0 q1 hL hcl hclc hclf hrk hRow hr hs hrq hcut hV hWX HXC HH hcap
    obtain ⟨b2, off2, hd2, rfl, hb2lo, hb2hi, hRow2, hhi2, hL2⟩ := hOB.open_ (by omega)
    have hcl2 := hL2.cell τ hlt2
    have hrk2 := hL2.row τ hlt2
    rw [← HR2.out] at hcl2 hrk2
    obtain ⟨R2, hR2⟩ : ∃ R, R = (hd2 τ).1 := ⟨_, rfl⟩
    obtain ⟨cp2, hcp2⟩ : ∃ cp, cp = (hd2 τ).2 := ⟨_, rfl⟩
    rw [← hR2, ← hcp2] at hcl2 hrk2
    have HRR := Lib.hid hR2
    clear hR2 hcp2
    have hapt2 : ∀ x, (∃ o, R2 = some ⟨x, o, none⟩) → mid ≤ x ∧ x < u1.heap.size := fun x hx => hRow2 τ x hlt2 (by rw [← HRR.out]; exact hx)
    have hapb2 : ¬ ∃ o, R2 = some ⟨b2, o, none⟩ := fun hx => hL2.out τ hlt2 (by rw [← HRR.out]; exact hx)
    obtain ⟨t0, ht, tz0, tz1, tz2⟩ := info_parts infoInt
    have k0 : (0 : Int) ≤ (τ : Int) := by omega
    have k1 : (τ : Int) < (yss.length : Int) := by omega
    have Y0 : wc.drew.cell? ⟨u1.heap.size, 1, none⟩ = some (.slice (some ⟨b2, off2, none⟩) yss.length d1) := o1
    have Y1 : wc.drew.cell? ⟨u2.heap.size, 0, none⟩ = some (.int .i64 (τ : Int)) := p0
    have Y2 : wc.drew.cell? ⟨u2.heap.size, 1, none⟩ = some (.int .i64 a) := p1
    have hcd2 : wc.drew.cell? ⟨b2, off2 + τ, none⟩ = some (.slice R2 r.length cp2) := hcl2.1
    have lcd2 : b2 < wc.heap.size := lt_of_cell' hcd2
    have hcl4 := Cl.alloc (w := wc.drew) hcl2 (.cells #[.int .i64 a] 3)
    have hca2 := hcl4.1
    have hca3 : (wc.alloc (.cells #[.int .i64 a] 3)).cell? ⟨b2, off2 + τ, none⟩ = some (.slice R2 r.length cp2) := cell_al hcl2.1 _
    have hrd2 : (wc.drew.alloc (.cells #[.int .i64 a] 3)).ownsRow mid 3 1 (.slice R2 r.length cp2) r.length (iv r) := own_below' (w := wc.drew) hrk2 ((Below.refl _ _).alloc (Nat.le_refl _) _)
    have HWCS := Lib.hid hzc
    clear hzc
    go_wp2_with fail
    refine wp_region_held_drew (S := fun w' => w'.cell? ⟨u1.heap.size, 1, none⟩ = some (.slice (some ⟨b2, off2, none⟩) yss.length d1) ∧ w'.cell? ⟨u2.heap.size, 0, none⟩ = some (.int .i64 (τ : Int)) ∧ w'.cell? ⟨u2.heap.size, 1, none⟩ = some (.int .i64 a)) (by kernel_rfl) ⟨Y0, Y1, Y2⟩ (fun hHeld => ?_)
    refine wpAnyH_take (i := 0) (v := ?v0) rfl (by kernel_rfl) (by kernel_rfl) (by kernel_rfl) (fun _ _ _ h => h) (Or.inl ⟨by rfl, ?q0⟩) (by assumption) ?r0
    case q0 =>
      intro ww hSw
      (try dsimp only at hSw)
      go_simp
      try with_reducible rfl
    case' r0 => try simp only [Act.put, List.setIfInBounds_toArray, List.set_cons_zero, List.set_cons_succ]
    refine wpAnyH_take (i := 1) (v := ?v1) rfl (by kernel_rfl) (by kernel_rfl) (by kernel_rfl) (fun _ _ _ h => h) (Or.inl ⟨by rfl, ?q1⟩) (by assumption) ?r1
    case q1 =>
      intro ww hSw
      (try dsimp only at hSw)
      go_simp
      try with_reducible rfl
    case' r1 => try simp only [Act.put, List.setIfInBounds_toArray, List.set_cons_zero, List.set_cons_succ]
    refine wpAnyH_take (i := 2) (v := ?v2) rfl (by kernel_rfl) (by kernel_rfl) (by kernel_rfl) (fun _ _ _ h => h) (Or.inl ⟨by rfl, ?q2⟩) (by assumption) ?r2
    case q2 =>
      intro ww hSw
      (try dsimp only at hSw)
      go_simp
      try with_reducible rfl
    case' r2 => try simp only [Act.put, List.setIfInBounds_toArray, List.set_cons_zero, List.set_cons_succ]
    refine wpAnyH_take (i := 3) (v := ?v3) rfl (by kernel_rfl) (by kernel_rfl) (by kernel_rfl) (fun _ _ _ h => h) (Or.inl ⟨by rfl, ?q3⟩) (by assumption) ?r3
    case q3 =>
      intro ww hSw
      (try dsimp only at hSw)
      go_simp
      try with_reducible rfl
    case' r3 => try simp only [Act.put, List.setIfInBounds_toArray, List.set_cons_zero, List.set_cons_succ]
    refine wpAnyH_take (i := 4) (v := ?v4) rfl (by kernel_rfl) (by kernel_rfl) (by kernel_rfl) (fun _ _ _ h => h) (Or.inl ⟨by rfl, ?q4⟩) (by assumption) ?r4
    case q4 =>
      intro ww hSw
      (try dsimp only at hSw)
      go_simp
      try with_reducible rfl
    case' r4 => try simp only [Act.put, List.setIfInBounds_toArray, List.set_cons_zero, List.set_cons_succ]
    refine wpAnyH_take (i := 5) (v := ?v5) rfl (by kernel_rfl) (by kernel_rfl) (by kernel_rfl) (fun _ _ _ h => h) (Or.inl ⟨by rfl, ?q5⟩) (by assumption) ?r5
    case q5 =>
      intro ww hSw
      (try dsimp only at hSw)
      go_simp
      try with_reducible rfl
    case' r5 => try simp only [Act.put, List.setIfInBounds_toArray, List.set_cons_zero, List.set_cons_succ]
    refine wpAnyH_take (i := 6) (v := ?v6) rfl (by kernel_rfl) (by kernel_rfl) (by kernel_rfl) (fun _ _ _ h => h) (Or.inl ⟨by rfl, ?q6⟩) (by assumption) ?r6
    case q6 =>
      intro ww hSw
      (try dsimp only at hSw)
      go_simp
      try with_reducible rfl
    case' r6 => try simp only [Act.put, List.setIfInBounds_toArray, List.set_cons_zero, List.set_cons_succ]
    refine wpAnyH_take (i := 7) (v := ?v7) rfl (by kernel_rfl) (by kernel_rfl) (by kernel_rfl) (fun _ _ _ h => h) (Or.inl ⟨by rfl, ?q7⟩) (by assumption) ?r7
    case q7 =>
      intro ww hSw
      (try dsimp only at hSw)
      go_simp
      try with_reducible rfl
    case' r7 => try simp only [Act.put, List.setIfInBounds_toArray, List.set_cons_zero, List.set_cons_succ]
    refine wpAnyH_take (i := 8) (v := ?v8) rfl (by kernel_rfl) (by kernel_rfl) (by kernel_rfl) (fun _ _ _ h => h) (Or.inl ⟨by rfl, ?q8⟩) (by assumption) ?r8
    case q8 =>
      intro ww hSw
      (try dsimp only at hSw)
      go_simp
      try with_reducible rfl
    case' r8 => try simp only [Act.put, List.setIfInBounds_toArray, List.set_cons_zero, List.set_cons_succ]
    refine wpAnyH_take (i := 10) (v := ?v10) rfl (by kernel_rfl) (by kernel_rfl) (by kernel_rfl) (fun _ _ _ h => h) (Or.inl ⟨by rfl, ?q10⟩) (by assumption) ?r10
    case q10 =>
      intro ww hSw
      (try dsimp only at hSw)
      go_simp
      try with_reducible rfl
    case' r10 => try simp only [Act.put, List.setIfInBounds_toArray, List.set_cons_zero, List.set_cons_succ]
    refine wpAnyH_take (i := 11) (v := ?v11) rfl (by kernel_rfl) (by kernel_rfl) (by kernel_rfl) (fun _ _ _ h => h) (Or.inl ⟨by rfl, ?q11⟩) (by assumption) ?r11
    case q11 =>
      intro ww hSw
      (try dsimp only at hSw)
      go_simp
      try with_reducible rfl
    case' r11 => try simp only [Act.put, List.setIfInBounds_toArray, List.set_cons_zero, List.set_cons_succ]
    refine wpAnyH_ready (rs := [9, 12]) (by kernel_rfl) (by simp) ?_
    refine AllReadyH.cons rfl (fun K hK => ?ya) (AllReadyH.cons rfl (fun K hK => ?yb) AllReadyH.nil)
    case ya =>
      go_simp
      refine hK.out _ _ hHeld (fun hHeld => ?_)
      clear hK K
      try simp only [Act.put, List.setIfInBounds_toArray, List.set_cons_zero, List.set_cons_succ]
      refine wpAnyH_ready (rs := [12]) (by kernel_rfl) (by simp) ?_
      refine AllReadyH.cons rfl (fun K hK => ?_) AllReadyH.nil
      go_simp
      refine hK.out _ _ ⟨cell_al Y0 _, cell_al Y1 _, cell_al Y2 _⟩ (fun hHeld => ?_)
      clear hK K
      try simp only [Act.put, List.setIfInBounds_toArray, List.set_cons_zero, List.set_cons_succ]
      refine wpAnyH_ready (rs := [13]) (by kernel_rfl) (by simp) ?_
      refine AllReadyH.cons rfl (fun K hK => ?_) AllReadyH.nil
      refine step_append_ow (by rfl) (.tmp 50) (.tmp 53) _ (by rfl) 3 t0 (.int .i64 0) 1 8 Try.underlying24 ht tz0 tz1 tz2 (by rfl) (by omega) mid R2 r.length cp2 (iv r) (by rfl) hrd2 (some ⟨wc.heap.size, 0, none⟩) 1 1 (iv [a]) (by rfl) (by rfl) (Rd.lit (by rfl)) (iv_one _) (by unfold maxLen; omega) (by omega) (by simp; omega) ?_
      intro A4 c4 w4 hO4 hS4 hA4
      have Z0 := hS4.cell (cell_al Y0 _) (fun hx => by have := hapt2 _ hx; dsimp only at this; omega)
      have Z1 := hS4.cell (cell_al Y1 _) (fun hx => by have := hapt2 _ hx; dsimp only at this; omega)
      have Z2 := hS4.cell (cell_al Y2 _) (fun hx => by have := hapt2 _ hx; dsimp only at this; omega)
      have hcl5 := hcl4.outS hS4 hapb2
      have hcl5c := hcl5.1
      have hcl5f := hcl5.2
      refine hK.out _ _ ⟨Z0, Z1, Z2⟩ (fun hHeld => ?_)
      clear hK K
      try simp only [Act.put, List.setIfInBounds_toArray, List.set_cons_zero, List.set_cons_succ]
      refine wpAnyH_take (i := 14) (v := ?v14) rfl (by kernel_rfl) (by kernel_rfl) (by kernel_rfl) (fun _ _ _ h => h) (Or.inl ⟨by rfl, ?q14⟩) (by assumption) ?r14
      case q14 =>
        intro ww hSw
        (try dsimp only at hSw)
        go_simp
        try with_reducible rfl
      case' r14 => try simp only [Act.put, List.setIfInBounds_toArray, List.set_cons_zero, List.set_cons_succ]
      refine wpAnyH_ready (rs := [15]) (by kernel_rfl) (by simp) ?_
      refine AllReadyH.cons rfl (fun K hK => ?_) AllReadyH.nil
      go_simp
      refine hK.out _ _ ⟨set_other Z0 (by omega), set_other Z1 (by omega), set_other Z2 (by omega)⟩ (fun hHeld => ?_)
      clear hK K
      try simp only [Act.put, List.setIfInBounds_toArray, List.set_cons_zero, List.set_cons_succ]
      refine wpAnyH_done (by kernel_rfl) ?_ _
      have hz4 := hS4.size
      simp only [World.size_alloc, World.size_drew] at hz4
      have hzc := HWCS.out
      have hS5 : OutS (At (hd2 τ).1) wc w4 := OutS.trans (OutS.of_below ((Below.drew (Below.refl _ _)).alloc (Nat.le_refl _) (.cells #[.int .i64 a] 3))) (hS4.mono fun x hx => by rw [← HRR.out]; exact hx)
      have hA4l : ∀ x, At A4 x → x < w4.heap.size := fun x hx => (own_lo' hO4 hx).2
      have hW4 := own_wr hO4
      rw [← iv_app] at hW4
      have hU2 := L2.upd (T := At A4) (A' := A4) (n' := r.length + 1) (c' := c4) (xs' := r ++ [a]) hL2 hb2lo hb2hi hRow2 hhi2 hlt2 hS5 (by simp) hW4 (fun x hx => ⟨by rcases at_of hA4 hx with h | h; exact .inl (by rw [← HRR.out]; exact h); exact .inr (by simp only [World.size_alloc, World.size_drew] at h; omega), hA4l x hx⟩)
      have hbS : Below w.heap.size w (w4.setCell ⟨b2, off2 + τ, none⟩ (.slice A4 (r.length + 1) c4)) :=
        (bel_outS hS4 (fun x hx => by have := hapt2 x hx; omega) (bel_alloc (Below.drew hbW) (Nat.le_refl _) _) (Nat.le_refl _)).setCell (by show w.heap.size ≤ b2; omega) _
      have G0 := set_other (b' := b2) (o' := off2 + τ) (u := .slice A4 (r.length + 1) c4) (hS4.cell (cell_al (w := wc.drew) o0 (.cells #[.int .i64 a] 3)) (fun hx => by have := (hapt2 _ hx).2; dsimp only at this; omega)) (by omega)
      have G1 := set_other (b' := b2) (o' := off2 + τ) (u := .slice A4 (r.length + 1) c4) Z0 (by omega)
      have F0 := (Cl.outS (Cl.alloc (w := wc.drew) f0 (.cells #[.int .i64 a] 3)) hS4 (fun hx => by have := (hapt2 _ hx).1; dsimp only at this; omega)).other (q := ⟨b2, off2 + τ, none⟩) (.slice A4 (r.length + 1) c4) (by simp <;> omega)
      have F1 := (Cl.outS (Cl.alloc (w := wc.drew) f1 (.cells #[.int .i64 a] 3)) hS4 (fun hx => by have := (hapt2 _ hx).1; dsimp only at this; omega)).other (q := ⟨b2, off2 + τ, none⟩) (.slice A4 (r.length + 1) c4) (by simp <;> omega)
      have hUU : Wr2 pv (w4.setCell ⟨b2, off2 + τ, none⟩ (.slice A4 (r.length + 1) c4)) (fun x => w.heap.size + 2 ≤ x ∧ x < mid) (some ⟨b1, off1, none⟩) (xss.set κ (q.drop 1)) :=
        ((hU.drew.alloc _).outS hS4 (fun x hx hx2 => by have := hapt2 x hx2; omega)).setOut _ (fun h => by omega)
      have hzV : w4.heap.size = (w4.setCell ⟨b2, off2 + τ, none⟩ (.slice A4 (r.length + 1) c4)).heap.size := by simp
      rw [hzV] at hU2 hz4
      clear hca2 hca3 hcl4 hcl5 hcl5c hcl5f Z0 Z1 Z2 hHeld hS4 hS5 hO4 hA4 hA4l hW4 hzV Y0 Y1 Y2 hcd2 hrd2 hcl2 hrk2 hL2
      generalize w4.setCell ⟨b2, off2 + τ, none⟩ (.slice A4 (r.length + 1) c4) = V6 at *
      have F0c := F0.1
      have F0f := F0.2
      have F1c := F1.1
      have F1f := F1.2
      have lG0 := lt_of_cell' G0
      have lF0 := lt_of_cell' F0c
      have hNA : ∀ x, (w.heap.size + 2 ≤ x ∧ x < mid) → (w.heap.size + 2 ≤ x ∧ x < mid) := fun _ h => h
      have hNB : ∀ x, ((mid ≤ x ∧ x < u1.heap.size) ∨ (wc.heap.size ≤ x ∧ x < V6.heap.size)) → mid ≤ x := fun _ h => by omega
      have HUU := Lib.hid hUU
      have HU2 := Lib.hid hU2
      clear hUU hU2
      go_wp2
      refine bodyPost_ret (v := .tuple #[.agg #[.slice (some ⟨b1, off1, none⟩) xss.length c1, .slice (some ⟨b2, off2, none⟩) yss.length d1], .bool true]) (by simp [results, Try.results15, go_sem, F0c, F1c]) rfl ⟨_, c1, _, d1, (fun x => w.heap.size + 2 ≤ x ∧ x < mid), (fun x => (mid ≤ x ∧ x < u1.heap.size) ∨ (wc.heap.size ≤ x ∧ x < V6.heap.size)), by rw [List.length_set, List.length_set], ?_, ?_, ?_, ?_, fun b h1 h2 => by omega, ?_⟩
      · exact by (repeat' (first | (with_reducible exact HUU.out) | (with_reducible refine Wr2.setOut ?_ _ (fun h => by have := hNA _ h; first | omega | (simp at this; omega))) | (with_reducible refine Wr2.alloc ?_ _) | (with_reducible refine Wr2.drewN ?_ _) | (with_reducible refine Wr2.drew ?_)))
      · exact by (repeat' (first | (with_reducible exact HU2.out) | (with_reducible refine Wr2.setOut ?_ _ (fun h => by have := hNB _ h; first | omega | (simp at this; omega))) | (with_reducible refine Wr2.alloc ?_ _) | (with_reducible refine Wr2.drewN ?_ _) | (with_reducible refine Wr2.drew ?_)))
      · intro b hb
        simp only [World.size_setCell, World.size_alloc, World.size_drew]
        omega
      · intro b hb
        simp only [World.size_setCell, World.size_alloc, World.size_drew]
        omega
      · (repeat' (first | (with_reducible exact Below.refl _ _) | (with_reducible refine bel_alloc ?_ ?_ _) | (with_reducible refine Below.setCell ?_ ?_ _) | (with_reducible refine below_drewN ?_ _) | (with_reducible refine Below.drew ?_) | (with_reducible refine bel_step hbS ?_ ?_) | (with_reducible exact Nat.le_refl _) | (with_reducible assumption) | omega | (simp only [World.size_alloc, World.size_setCell, World.size_drew]; omega) | (simp; omega) | (simp; done)))
    case yb =>
      go_simp
      refine hK.out _ _ ⟨cell_al Y0 _, cell_al Y1 _, cell_al Y2 _⟩ (fun hHeld => ?_)
      clear hK K
      try simp only [Act.put, List.setIfInBounds_toArray, List.set_cons_zero, List.set_cons_succ]
      refine wpAnyH_ready (rs := [9]) (by kernel_rfl) (by simp) ?_
      refine AllReadyH.cons rfl (fun K hK => ?_) AllReadyH.nil
      go_simp
      refine hK.out _ _ hHeld (fun hHeld => ?_)
      clear hK K
      try simp only [Act.put, List.setIfInBounds_toArray, List.set_cons_zero, List.set_cons_succ]
      refine wpAnyH_ready (rs := [13]) (by kernel_rfl) (by simp) ?_
      refine AllReadyH.cons rfl (fun K hK => ?_) AllReadyH.nil
      refine step_append_ow (by rfl) (.tmp 50) (.tmp 53) _ (by rfl) 3 t0 (.int .i64 0) 1 8 Try.underlying24 ht tz0 tz1 tz2 (by rfl) (by omega) mid R2 r.length cp2 (iv r) (by rfl) hrd2 (some ⟨wc.heap.size, 0, none⟩) 1 1 (iv [a]) (by rfl) (by rfl) (Rd.lit (by rfl)) (iv_one _) (by unfold maxLen; omega) (by omega) (by simp; omega) ?_
      intro A4 c4 w4 hO4 hS4 hA4
      have Z0 := hS4.cell (cell_al Y0 _) (fun hx => by have := hapt2 _ hx; dsimp only at this; omega)
      have Z1 := hS4.cell (cell_al Y1 _) (fun hx => by have := hapt2 _ hx; dsimp only at this; omega)
      have Z2 := hS4.cell (cell_al Y2 _) (fun hx => by have := hapt2 _ hx; dsimp only at this; omega)
      have hcl5 := hcl4.outS hS4 hapb2
      have hcl5c := hcl5.1
      have hcl5f := hcl5.2
      refine hK.out _ _ ⟨Z0, Z1, Z2⟩ (fun hHeld => ?_)
      clear hK K
      try simp only [Act.put, List.setIfInBounds_toArray, List.set_cons_zero, List.set_cons_succ]
      refine wpAnyH_take (i := 14) (v := ?v140) rfl (by kernel_rfl) (by kernel_rfl) (by kernel_rfl) (fun _ _ _ h => h) (Or.inl ⟨by rfl, ?q140⟩) (by assumption) ?r140
      case q140 =>
        intro ww hSw
        (try dsimp only at hSw)
        go_simp
        try with_reducible rfl
      case' r140 => try simp only [Act.put, List.setIfInBounds_toArray, List.set_cons_zero, List.set_cons_succ]
      refine wpAnyH_ready (rs := [15]) (by kernel_rfl) (by simp) ?_
      refine AllReadyH.cons rfl (fun K hK => ?_) AllReadyH.nil
      go_simp
      refine hK.out _ _ ⟨set_other Z0 (by omega), set_other Z1 (by omega), set_other Z2 (by omega)⟩ (fun hHeld => ?_)
      clear hK K
      try simp only [Act.put, List.setIfInBounds_toArray, List.set_cons_zero, List.set_cons_succ]
      refine wpAnyH_done (by kernel_rfl) ?_ _
      have hz4 := hS4.size
      simp only [World.size_alloc, World.size_drew] at hz4
      have hzc := HWCS.out
      have hS5 : OutS (At (hd2 τ).1) wc w4 := OutS.trans (OutS.of_below ((Below.drew (Below.refl _ _)).alloc (Nat.le_refl _) (.cells #[.int .i64 a] 3))) (hS4.mono fun x hx => by rw [← HRR.out]; exact hx)
      have hA4l : ∀ x, At A4 x → x < w4.heap.size := fun x hx => (own_lo' hO4 hx).2
      have hW4 := own_wr hO4
      rw [← iv_app] at hW4
      have hU2 := L2.upd (T := At A4) (A' := A4) (n' := r.length + 1) (c' := c4) (xs' := r ++ [a]) hL2 hb2lo hb2hi hRow2 hhi2 hlt2 hS5 (by simp) hW4 (fun x hx => ⟨by rcases at_of hA4 hx with h | h; exact .inl (by rw [← HRR.out]; exact h); exact .inr (by simp only [World.size_alloc, World.size_drew] at h; omega), hA4l x hx⟩)
      have hbS : Below w.heap.size w (w4.setCell ⟨b2, off2 + τ, none⟩ (.slice A4 (r.length + 1) c4)) :=
        (bel_outS hS4 (fun x hx => by have := hapt2 x hx; omega) (bel_alloc (Below.drew hbW) (Nat.le_refl _) _) (Nat.le_refl _)).setCell (by show w.heap.size ≤ b2; omega) _
      have G0 := set_other (b' := b2) (o' := off2 + τ) (u := .slice A4 (r.length + 1) c4) (hS4.cell (cell_al (w := wc.drew) o0 (.cells #[.int .i64 a] 3)) (fun hx => by have := (hapt2 _ hx).2; dsimp only at this; omega)) (by omega)
      have G1 := set_other (b' := b2) (o' := off2 + τ) (u := .slice A4 (r.length + 1) c4) Z0 (by omega)
      have F0 := (Cl.outS (Cl.alloc (w := wc.drew) f0 (.cells #[.int .i64 a] 3)) hS4 (fun hx => by have := (hapt2 _ hx).1; dsimp only at this; omega)).other (q := ⟨b2, off2 + τ, none⟩) (.slice A4 (r.length + 1) c4) (by simp <;> omega)
      have F1 := (Cl.outS (Cl.alloc (w := wc.drew) f1 (.cells #[.int .i64 a] 3)) hS4 (fun hx => by have := (hapt2 _ hx).1; dsimp only at this; omega)).other (q := ⟨b2, off2 + τ, none⟩) (.slice A4 (r.length + 1) c4) (by simp <;> omega)
      have hUU : Wr2 pv (w4.setCell ⟨b2, off2 + τ, none⟩ (.slice A4 (r.length + 1) c4)) (fun x => w.heap.size + 2 ≤ x ∧ x < mid) (some ⟨b1, off1, none⟩) (xss.set κ (q.drop 1)) :=
        ((hU.drew.alloc _).outS hS4 (fun x hx hx2 => by have := hapt2 x hx2; omega)).setOut _ (fun h => by omega)
      have hzV : w4.heap.size = (w4.setCell ⟨b2, off2 + τ, none⟩ (.slice A4 (r.length + 1) c4)).heap.size := by simp
      rw [hzV] at hU2 hz4
      clear hca2 hca3 hcl4 hcl5 hcl5c hcl5f Z0 Z1 Z2 hHeld hS4 hS5 hO4 hA4 hA4l hW4 hzV Y0 Y1 Y2 hcd2 hrd2 hcl2 hrk2 hL2
      generalize w4.setCell ⟨b2, off2 + τ, none⟩ (.slice A4 (r.length + 1) c4) = V6 at *
      have F0c := F0.1
      have F0f := F0.2
      have F1c := F1.1
      have F1f := F1.2
      have lG0 := lt_of_cell' G0
      have lF0 := lt_of_cell' F0c
      have hNA : ∀ x, (w.heap.size + 2 ≤ x ∧ x < mid) → (w.heap.size + 2 ≤ x ∧ x < mid) := fun _ h => h
      have hNB : ∀ x, ((mid ≤ x ∧ x < u1.heap.size) ∨ (wc.heap.size ≤ x ∧ x < V6.heap.size)) → mid ≤ x := fun _ h => by omega
      have HUU := Lib.hid hUU
      have HU2 := Lib.hid hU2
      clear hUU hU2
      go_wp2
      refine bodyPost_ret (v := .tuple #[.agg #[.slice (some ⟨b1, off1, none⟩) xss.length c1, .slice (some ⟨b2, off2, none⟩) yss.length d1], .bool true]) (by simp [results, Try.results15, go_sem, F0c, F1c]) rfl ⟨_, c1, _, d1, (fun x => w.heap.size + 2 ≤ x ∧ x < mid), (fun x => (mid ≤ x ∧ x < u1.heap.size) ∨ (wc.heap.size ≤ x ∧ x < V6.heap.size)), by rw [List.length_set, List.length_set], ?_, ?_, ?_, ?_, fun b h1 h2 => by omega, ?_⟩
      · exact by (repeat' (first | (with_reducible exact HUU.out) | (with_reducible refine Wr2.setOut ?_ _ (fun h => by have := hNA _ h; first | omega | (simp at this; omega))) | (with_reducible refine Wr2.alloc ?_ _) | (with_reducible refine Wr2.drewN ?_ _) | (with_reducible refine Wr2.drew ?_)))
      · exact by (repeat' (first | (with_reducible exact HU2.out) | (with_reducible refine Wr2.setOut ?_ _ (fun h => by have := hNB _ h; first | omega | (simp at this; omega))) | (with_reducible refine Wr2.alloc ?_ _) | (with_reducible refine Wr2.drewN ?_ _) | (with_reducible refine Wr2.drew ?_)))
      · intro b hb
        simp only [World.size_setCell, World.size_alloc, World.size_drew]
        omega
      · intro b hb
        simp only [World.size_setCell, World.size_alloc, World.size_drew]
        omega
      · (repeat' (first | (with_reducible exact Below.refl _ _) | (with_reducible refine bel_alloc ?_ ?_ _) | (with_reducible refine Below.setCell ?_ ?_ _) | (with_reducible refine below_drewN ?_ _) | (with_reducible refine Below.drew ?_) | (with_reducible refine bel_step hbS ?_ ?_) | (with_reducible exact Nat.le_refl _) | (with_reducible assumption) | omega | (simp only [World.size_alloc, World.size_setCell, World.size_drew]; omega) | (simp; omega) | (simp; done)))
end Go.Proofs.Ytggigndkamkclaa
