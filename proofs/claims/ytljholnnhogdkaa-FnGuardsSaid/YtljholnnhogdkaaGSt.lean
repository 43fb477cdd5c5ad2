/- Store, of the program and of the reference: where it stores. -/
import Derived.Test.YtljholnnhogdkaaGCpM
import Derived.Test.YtljholnnhogdkaaMacF
namespace Go.Proofs.Ytljholnnhogdkaa
open Go.ChangeShapes Go.WideShapes Go.ChangeAt Go.RowKit
set_option linter.unusedVariables false
set_option linter.unusedSimpArgs false
attribute [local go_sem ↓] Go.wp_at_zero Go.wp_at_succ

/-- One cell of one row is written. -/
theorem Wr2.cellSet {w : World} {S : Nat → Prop} {A : Option Addr} {xss : List (List Int)} (h : Wr2 iv w S A xss) {κ t : Nat} (hk : κ < xss.length) (ht : t < xss[κ].length) :
    ∃ b off rb ro c, A = some ⟨b, off, none⟩ ∧ w.cell? ⟨b, off + κ, none⟩ = some (.slice (some ⟨rb, ro, none⟩) xss[κ].length c) ∧ Cl w ⟨rb, ro + t, none⟩ (.int .i64 xss[κ][t]) ∧ S rb ∧ S b ∧ rb ≠ b ∧ ∀ v, Wr2 iv (w.setCell ⟨rb, ro + t, none⟩ (.int .i64 v)) S A (xss.set κ (xss[κ].set t v)) := by
  rcases h with rfl | ⟨b, off, T, hd, rfl, hb, hT, h⟩
  · simp at hk
  · obtain ⟨rb, ro, hA', hTb, hcl⟩ := (h.row κ hk).at_ (iv_at ht)
    have hne := h.out κ rb hk hTb
    refine ⟨b, off, rb, ro, (hd κ).2, rfl, by rw [← hA']; exact h.cell κ hk, hcl, hT κ rb hk hTb, hb, hne, fun v => ?_⟩
    refine .inr ⟨b, off, T, hd, rfl, hb, fun j x hj hx => hT j x (by rw [List.length_set] at hj; exact hj) hx, ⟨fun j hj => ?_, fun j hj => ?_, fun j x hj hx => h.out j x (by rw [List.length_set] at hj; exact hj) hx, fun i j x hi hj h1 h2 => h.apart i j x (by rw [List.length_set] at hi; exact hi) (by rw [List.length_set] at hj; exact hj) h1 h2⟩⟩
    · rw [List.length_set] at hj
      have e : ((xss.set κ (xss[κ].set t v))[j]'(by rw [List.length_set]; exact hj)).length = xss[j].length := by
        rw [List.getElem_set]
        split
        · rename_i e; subst e; rw [List.length_set]
        · rfl
      rw [e]
      exact set_other (h.cell j hj) hne
    · rw [List.length_set] at hj
      by_cases e : j = κ
      · subst e
        rw [List.getElem_set_self]
        have := (h.row j hk).set (k := t) hA' (.int .i64 v)
        simpa [iv, List.map_set] using this
      · rw [List.getElem_set_ne (fun e' => e e'.symm)]
        exact (h.row j hj).setOut _ (fun hx => e (h.apart κ j rb hk hj hTb hx))
def MadeSt (xss : List (List Int)) (us : List Bool) (es : List En) (ft : Int) (w : World) (e : Ending) (w' : World) : Prop :=
  ∃ A c B d AE f S T U, e = .returned (.tuple #[.agg #[.slice A xss.length c, .slice B us.length d, .slice AE es.length f], .int .i64 ft]) ∧ Wr2 iv w' S A xss ∧ Wr w' T B (bl us) ∧ Wr w' U AE (pv es) ∧ New S w w' ∧ New T w w' ∧ New U w w' ∧ Below w.heap.size w w'
set_option maxRecDepth 100000 in
set_option maxHeartbeats 8000000 in
theorem store_i (A : Option Addr) (c : Nat) (B : Option Addr) (d : Nat) (AE : Option Addr) (f : Nat) (xss : List (List Int)) (us : List Bool) (es : List En) (a v : Int) (κ t : Nat) (w : World) {B1 B2 B3 : Nat} (hr : Rd2 iv w B1 A xss) (hs : Rd w B2 B (bl us)) (ht : Rd w B3 AE (pv es)) (hn : MRows xss us es) (hen : enOf xss us es a = (2, (κ : Int))) (h0 : 0 ≤ a) (ha : a ≤ 9223372036854775807) (hat : a % 16 = t) (hk : κ < xss.length) (htl : t < xss[κ].length) (hv : btw v 0 999 = true) :
    Calls Try.prog 48 #[.agg #[.slice A xss.length c, .slice B us.length d, .slice AE es.length f], .int .i64 a, .int .i64 v] w (MadeSt (xss.set κ (xss[κ].set t v)) us es 0 w) := by
  replace ht := ht.lt
  replace hs := hs.lt
  replace hr := hr.lt
  have htm : a.tmod 16 = (t : Int) := by rw [Int.tmod_eq_emod_of_nonneg h0]; exact hat
  have HN := Lib.hid hn
  have HAT := Lib.hid hat
  clear hn hat
  go_enter Try.func48, Try.ntmps48
  go_wp2_with fail
  refine (copyMachine_i _ _ _ _ _ _ _ _ _ _ ((hr.alloc _).alloc _) ((hs.alloc _).alloc _) ((ht.alloc _).alloc _) HN.out).mono ?_
  rintro e u1 ⟨A1, c1, D1, d1, E1, f1, S, T, U, rfl, hW, hV, hE, hS, hT, hU, hST, hSU, hTU, hb1⟩
  have q0 : u1.cell? ⟨w.heap.size, 0, none⟩ = some (.slice A xss.length c) := keep hb1 (by simp [go_sem])
  have q1 : u1.cell? ⟨w.heap.size, 1, none⟩ = some (.slice B us.length d) := keep hb1 (by simp [go_sem])
  have q2 : u1.cell? ⟨w.heap.size, 2, none⟩ = some (.slice AE es.length f) := keep hb1 (by simp [go_sem])
  have r0 : Cl u1 ⟨w.heap.size + 1, 0, none⟩ (.slice none 0 0) := Cl.below (by constructor <;> simp [go_sem]) hb1
  have r1 : Cl u1 ⟨w.heap.size + 1, 1, none⟩ (.slice none 0 0) := Cl.below (by constructor <;> simp [go_sem]) hb1
  have r2 : Cl u1 ⟨w.heap.size + 1, 2, none⟩ (.slice none 0 0) := Cl.below (by constructor <;> simp [go_sem]) hb1
  have hz1 := hb1.size
  simp only [World.size_alloc] at hz1
  have hS' : ∀ b, S b → w.heap.size + 2 ≤ b ∧ b < u1.heap.size := fun b h => by have := hS b h; simp only [World.size_alloc] at this; omega
  have hT' : ∀ b, T b → w.heap.size + 2 ≤ b ∧ b < u1.heap.size := fun b h => by have := hT b h; simp only [World.size_alloc] at this; omega
  have hU' : ∀ b, U b → w.heap.size + 2 ≤ b ∧ b < u1.heap.size := fun b h => by have := hU b h; simp only [World.size_alloc] at this; omega
  have hr1 := (((hr.alloc _).alloc _).below hb1).alloc (.cells #[.slice A1 xss.length c1, .slice D1 us.length d1, .slice E1 es.length f1] 47)
  have hs1 := (((hs.alloc _).alloc _).below hb1).alloc (.cells #[.slice A1 xss.length c1, .slice D1 us.length d1, .slice E1 es.length f1] 47)
  have ht1 := (((ht.alloc _).alloc _).below hb1).alloc (.cells #[.slice A1 xss.length c1, .slice D1 us.length d1, .slice E1 es.length f1] 47)
  have lq0 := lt_of_cell' q0
  clear hS hT hU
  go_wp2_with fail
  refine (entryAt_i _ _ _ _ _ _ _ _ _ _ ha _ hr1 hs1 ht1 HN.out _ _ hen).mono ?_
  rintro e u2 ⟨rfl, hb2⟩
  have o0 : u2.cell? ⟨u1.heap.size, 0, none⟩ = some (.slice A1 xss.length c1) := keep hb2 (by simp [go_sem])
  have o1 : u2.cell? ⟨u1.heap.size, 1, none⟩ = some (.slice D1 us.length d1) := keep hb2 (by simp [go_sem])
  have o2 : u2.cell? ⟨u1.heap.size, 2, none⟩ = some (.slice E1 es.length f1) := keep hb2 (by simp [go_sem])
  replace hW := (hW.alloc _).below hb2
  replace hV := (hV.alloc _).below hb2
  replace hE := (hE.alloc _).below hb2
  replace r0 := (r0.alloc _).below hb2
  replace r1 := (r1.alloc _).below hb2
  replace r2 := (r2.alloc _).below hb2
  replace q0 := keep hb2 (cell_al q0 _)
  replace q1 := keep hb2 (cell_al q1 _)
  replace q2 := keep hb2 (cell_al q2 _)
  have hz2 := hb2.size
  simp only [World.size_alloc] at hz2
  have hbV : Below w.heap.size w (u2.alloc (.cells #[.int .i64 2, .int .i64 (κ : Int)] 79)) := by (repeat' (first | (with_reducible exact Below.refl _ _) | (with_reducible refine bel_alloc ?_ ?_ _) | (with_reducible refine Below.setCell ?_ ?_ _) | (with_reducible refine below_drewN ?_ _) | (with_reducible refine Below.drew ?_) | (with_reducible refine bel_step hb1 ?_ ?_) | (with_reducible refine bel_step hb2 ?_ ?_) | (with_reducible exact Nat.le_refl _) | (with_reducible assumption) | omega | (simp only [World.size_alloc, World.size_setCell, World.size_drew]; omega) | (simp; omega) | (simp; done)))
  have x0 : (u2.alloc (.cells #[.int .i64 2, .int .i64 (κ : Int)] 79)).cell? ⟨u2.heap.size, 0, none⟩ = some (.int .i64 2) := by simp [go_sem]
  have x1 : (u2.alloc (.cells #[.int .i64 2, .int .i64 (κ : Int)] 79)).cell? ⟨u2.heap.size, 1, none⟩ = some (.int .i64 (κ : Int)) := by simp [go_sem]
  replace hW := hW.alloc (.cells #[.int .i64 2, .int .i64 (κ : Int)] 79)
  replace hV := hV.alloc (.cells #[.int .i64 2, .int .i64 (κ : Int)] 79)
  replace hE := hE.alloc (.cells #[.int .i64 2, .int .i64 (κ : Int)] 79)
  replace r0 := r0.alloc (.cells #[.int .i64 2, .int .i64 (κ : Int)] 79)
  replace r1 := r1.alloc (.cells #[.int .i64 2, .int .i64 (κ : Int)] 79)
  replace r2 := r2.alloc (.cells #[.int .i64 2, .int .i64 (κ : Int)] 79)
  replace o0 := cell_al o0 (.cells #[.int .i64 2, .int .i64 (κ : Int)] 79)
  replace o1 := cell_al o1 (.cells #[.int .i64 2, .int .i64 (κ : Int)] 79)
  replace o2 := cell_al o2 (.cells #[.int .i64 2, .int .i64 (κ : Int)] 79)
  have hzV : u1.heap.size + 1 ≤ (u2.alloc (.cells #[.int .i64 2, .int .i64 (κ : Int)] 79)).heap.size := by simp; omega
  clear hr1 hs1 ht1 q0 q1 q2 lq0 hb2 hb1 hr hs ht hz2 hz1 hen
  go_wp2_with fail
  generalize u2.alloc (.cells #[.int .i64 2, .int .i64 (κ : Int)] 79) = u3 at *
  refine (between_q _ _ _ _).mono ?_
  rintro e wz ⟨rfl, hwz⟩
  replace hwz := hwz.symm
  subst hwz
  rw [hv]
  obtain ⟨b1, off1, rb, ro, cr, rfl, hhd, hcl, hSr, hSb, hrb, hset⟩ := hW.cellSet hk htl
  have hclc := hcl.1
  have hclf := hcl.2
  have lhd := lt_of_cell' hhd
  have lcl := lt_of_cell' hclc
  have i0 : (0 : Int) ≤ (κ : Int) := by omega
  have i1 : (κ : Int) < (xss.length : Int) := by omega
  have j0 : (0 : Int) ≤ (t : Int) := by omega
  have j1 : (t : Int) < (xss[κ].length : Int) := by omega
  have hWs := hset v
  have hRb := hS' _ hSr
  have hVs := hV.setOut (b := rb) (o := ro + t) (.int .i64 v) (hST _ hSr)
  have hEs := hE.setOut (b := rb) (o := ro + t) (.int .i64 v) (hSU _ hSr)
  have r0s := r0.other (q := ⟨rb, ro + t, none⟩) (.int .i64 v) (by simp <;> omega)
  have r1s := r1.other (q := ⟨rb, ro + t, none⟩) (.int .i64 v) (by simp <;> omega)
  have r2s := r2.other (q := ⟨rb, ro + t, none⟩) (.int .i64 v) (by simp <;> omega)
  have o0s := set_other (b' := rb) (o' := ro + t) (u := .int .i64 v) o0 (by omega)
  have o1s := set_other (b' := rb) (o' := ro + t) (u := .int .i64 v) o1 (by omega)
  have o2s := set_other (b' := rb) (o' := ro + t) (u := .int .i64 v) o2 (by omega)
  have hbs := hbV.setCell (p := ⟨rb, ro + t, none⟩) (by show w.heap.size ≤ rb; omega) (.int .i64 v)
  have lo0' := lt_of_cell' o0
  have lx0' := lt_of_cell' x0
  have HXL := Lib.hid (show (xss.set κ (xss[κ].set t v)).length = xss.length from List.length_set)
  have hzs : (u3.setCell ⟨rb, ro + t, none⟩ (.int .i64 v)).heap.size = u3.heap.size := by simp
  have HWs := Lib.hid hWs
  have HVs := Lib.hid hVs
  have HEs := Lib.hid hEs
  clear hset hWs hVs hEs hW hV hE
  generalize xss[κ][t] = old at *
  generalize xss[κ].length = ql at *
  obtain ⟨r0c, r0f⟩ := r0s
  obtain ⟨r1c, r1f⟩ := r1s
  obtain ⟨r2c, r2f⟩ := r2s
  go_wp2_with fail
  try (generalize u3.setCell ⟨rb, ro + t, none⟩ (.int .i64 v) = u4 at *)
  refine bodyPost_ret (v := .tuple #[.agg #[.slice (some ⟨b1, off1, none⟩) xss.length c1, .slice D1 us.length d1, .slice E1 es.length f1], .int .i64 0]) (by simp [results, Try.results48, go_sem, r0c, r1c, r2c]) rfl ⟨some ⟨b1, off1, none⟩, c1, D1, d1, E1, f1, S, T, U, by rw [List.length_set], ?_, ?_, ?_, ?_, ?_, ?_, ?_⟩
  · exact ((HWs.out.setOut (b := w.heap.size + 1) _ (fun h => by have := hS' _ h; omega)).setOut (b := w.heap.size + 1) _ (fun h => by have := hS' _ h; omega)).setOut (b := w.heap.size + 1) _ (fun h => by have := hS' _ h; omega)
  · exact ((HVs.out.setOut _ (fun h => by have := hT' _ h; omega)).setOut _ (fun h => by have := hT' _ h; omega)).setOut _ (fun h => by have := hT' _ h; omega)
  · exact ((HEs.out.setOut _ (fun h => by have := hU' _ h; omega)).setOut _ (fun h => by have := hU' _ h; omega)).setOut _ (fun h => by have := hU' _ h; omega)
  · exact fun b hb => by have := hS' b hb; simp; omega
  · exact fun b hb => by have := hT' b hb; simp; omega
  · exact fun b hb => by have := hU' b hb; simp; omega
  · exact ((hbs.setCell (by simp) _).setCell (by simp) _).setCell (by simp) _
set_option maxRecDepth 100000 in
set_option maxHeartbeats 8000000 in
theorem store_s (A : Option Addr) (c : Nat) (B : Option Addr) (d : Nat) (AE : Option Addr) (f : Nat) (xss : List (List Int)) (us : List Bool) (es : List En) (a v : Int) (κ t : Nat) (w : World) {B1 B2 B3 : Nat} (hr : Rd2 iv w B1 A xss) (hs : Rd w B2 B (bl us)) (ht : Rd w B3 AE (pv es)) (hn : MRows xss us es) (hen : enOf xss us es a = (2, (κ : Int))) (h0 : 0 ≤ a) (ha : a ≤ 9223372036854775807) (hat : a % 16 = t) (hk : κ < xss.length) (htl : t < xss[κ].length) (hv : btw v 0 999 = true) :
    Calls Try.prog 27 #[.agg #[.slice A xss.length c, .slice B us.length d, .slice AE es.length f], .int .i64 a, .int .i64 v] w (MadeSt (xss.set κ (xss[κ].set t v)) us es 0 w) := by
  replace ht := ht.lt
  replace hs := hs.lt
  replace hr := hr.lt
  have htm : a.tmod 16 = (t : Int) := by rw [Int.tmod_eq_emod_of_nonneg h0]; exact hat
  have hmk : mkOkB xss us es = true := by
    unfold enOf at hen
    split at hen
    · assumption
    · injection hen with h1; cases h1
  have hpe : peA es a = (2, (κ : Int)) := by unfold enOf at hen; rw [if_pos hmk] at hen; exact hen
  have hte : (if 0 ≤ a then a % 16 else 0) = (t : Int) := by rw [if_pos h0]; exact hat
  have HN := Lib.hid hn
  have HAT := Lib.hid hat
  clear hn hat
  go_enter Try.func27, Try.ntmps27
  go_wp2_with fail
  refine (l07Copy_s _ _ _ _ _ _ _ _ _ _ ((hr.alloc _).alloc _) ((hs.alloc _).alloc _) ((ht.alloc _).alloc _) HN.out).mono ?_
  rintro e u1 ⟨A1, c1, D1, d1, E1, f1, S, T, U, rfl, hW, hV, hE, hS, hT, hU, hST, hSU, hTU, hb1⟩
  have q0 : u1.cell? ⟨w.heap.size, 0, none⟩ = some (.slice A xss.length c) := keep hb1 (by simp [go_sem])
  have q1 : u1.cell? ⟨w.heap.size, 1, none⟩ = some (.slice B us.length d) := keep hb1 (by simp [go_sem])
  have q2 : u1.cell? ⟨w.heap.size, 2, none⟩ = some (.slice AE es.length f) := keep hb1 (by simp [go_sem])
  have r0 : Cl u1 ⟨w.heap.size + 1, 0, none⟩ (.slice none 0 0) := Cl.below (by constructor <;> simp [go_sem]) hb1
  have r1 : Cl u1 ⟨w.heap.size + 1, 1, none⟩ (.slice none 0 0) := Cl.below (by constructor <;> simp [go_sem]) hb1
  have r2 : Cl u1 ⟨w.heap.size + 1, 2, none⟩ (.slice none 0 0) := Cl.below (by constructor <;> simp [go_sem]) hb1
  have hz1 := hb1.size
  simp only [World.size_alloc] at hz1
  have hS' : ∀ b, S b → w.heap.size + 2 ≤ b ∧ b < u1.heap.size := fun b h => by have := hS b h; simp only [World.size_alloc] at this; omega
  have hT' : ∀ b, T b → w.heap.size + 2 ≤ b ∧ b < u1.heap.size := fun b h => by have := hT b h; simp only [World.size_alloc] at this; omega
  have hU' : ∀ b, U b → w.heap.size + 2 ≤ b ∧ b < u1.heap.size := fun b h => by have := hU b h; simp only [World.size_alloc] at this; omega
  have hr1 := (((hr.alloc _).alloc _).below hb1).alloc (.cells #[.slice A1 xss.length c1, .slice D1 us.length d1, .slice E1 es.length f1] 47)
  have hs1 := (((hs.alloc _).alloc _).below hb1).alloc (.cells #[.slice A1 xss.length c1, .slice D1 us.length d1, .slice E1 es.length f1] 47)
  have ht1 := (((ht.alloc _).alloc _).below hb1).alloc (.cells #[.slice A1 xss.length c1, .slice D1 us.length d1, .slice E1 es.length f1] 47)
  have lq0 := lt_of_cell' q0
  clear hS hT hU
  go_wp2_with fail
  refine (l07Entry_s _ _ _ _ _ _ _ _ _ _ ha _ ht1.lt HN.out _ _ hpe).mono ?_
  rintro e u2 ⟨rfl, hb2⟩
  rw [hte]
  have o0 : u2.cell? ⟨u1.heap.size, 0, none⟩ = some (.slice A1 xss.length c1) := keep hb2 (by simp [go_sem])
  have o1 : u2.cell? ⟨u1.heap.size, 1, none⟩ = some (.slice D1 us.length d1) := keep hb2 (by simp [go_sem])
  have o2 : u2.cell? ⟨u1.heap.size, 2, none⟩ = some (.slice E1 es.length f1) := keep hb2 (by simp [go_sem])
  replace hW := (hW.alloc _).below hb2
  replace hV := (hV.alloc _).below hb2
  replace hE := (hE.alloc _).below hb2
  replace r0 := (r0.alloc _).below hb2
  replace r1 := (r1.alloc _).below hb2
  replace r2 := (r2.alloc _).below hb2
  replace q0 := keep hb2 (cell_al q0 _)
  replace q1 := keep hb2 (cell_al q1 _)
  replace q2 := keep hb2 (cell_al q2 _)
  have hz2 := hb2.size
  simp only [World.size_alloc] at hz2
  replace hr1 := hr1.lt.below hb2
  replace hs1 := hs1.lt.below hb2
  replace ht1 := ht1.lt.below hb2
  clear lq0
  have lq0 := lt_of_cell' q0
  have lo0 := lt_of_cell' o0
  clear hpe hte hen
  go_wp2_with fail
  refine (machineOk_s _ _ _ _ _ _ _ _ _ _ (hr1.alloc _) (hs1.alloc _) (ht1.alloc _) HN.out _ hmk).mono ?_
  rintro e u3 ⟨rfl, hb3⟩
  have x0 : u3.cell? ⟨u2.heap.size, 0, none⟩ = some (.int .i64 2) := keep hb3 (by simp [go_sem])
  have x1 : u3.cell? ⟨u2.heap.size, 1, none⟩ = some (.int .i64 (κ : Int)) := keep hb3 (by simp [go_sem])
  replace hW := (hW.alloc _).below hb3
  replace hV := (hV.alloc _).below hb3
  replace hE := (hE.alloc _).below hb3
  replace r0 := (r0.alloc _).below hb3
  replace r1 := (r1.alloc _).below hb3
  replace r2 := (r2.alloc _).below hb3
  replace o0 := keep hb3 (cell_al o0 _)
  replace o1 := keep hb3 (cell_al o1 _)
  replace o2 := keep hb3 (cell_al o2 _)
  have hz3 := hb3.size
  simp only [World.size_alloc] at hz3
  have hbV : Below w.heap.size w u3 := by (repeat' (first | (with_reducible exact Below.refl _ _) | (with_reducible refine bel_alloc ?_ ?_ _) | (with_reducible refine Below.setCell ?_ ?_ _) | (with_reducible refine below_drewN ?_ _) | (with_reducible refine Below.drew ?_) | (with_reducible refine bel_step hb1 ?_ ?_) | (with_reducible refine bel_step hb2 ?_ ?_) | (with_reducible refine bel_step hb3 ?_ ?_) | (with_reducible exact Nat.le_refl _) | (with_reducible assumption) | omega | (simp only [World.size_alloc, World.size_setCell, World.size_drew]; omega) | (simp; omega) | (simp; done)))
  have hzV : u1.heap.size + 1 ≤ u3.heap.size := by omega
  clear hmk hr1 hs1 ht1 q0 q1 q2 lq0 lo0 hb2 hb3 hb1 hr hs ht hz2 hz3 hz1
  have lo0 := lt_of_cell' o0
  have lx0 := lt_of_cell' x0
  go_wp2_with fail
  refine (l01In_q _ _ _ _).mono ?_
  rintro e wz ⟨rfl, hwz⟩
  replace hwz := hwz.symm
  subst hwz
  rw [hv]
  obtain ⟨b1, off1, rb, ro, cr, rfl, hhd, hcl, hSr, hSb, hrb, hset⟩ := hW.cellSet hk htl
  have hclc := hcl.1
  have hclf := hcl.2
  have lhd := lt_of_cell' hhd
  have lcl := lt_of_cell' hclc
  have i0 : (0 : Int) ≤ (κ : Int) := by omega
  have i1 : (κ : Int) < (xss.length : Int) := by omega
  have j0 : (0 : Int) ≤ (t : Int) := by omega
  have j1 : (t : Int) < (xss[κ].length : Int) := by omega
  have hWs := hset v
  have hRb := hS' _ hSr
  have hVs := hV.setOut (b := rb) (o := ro + t) (.int .i64 v) (hST _ hSr)
  have hEs := hE.setOut (b := rb) (o := ro + t) (.int .i64 v) (hSU _ hSr)
  have r0s := r0.other (q := ⟨rb, ro + t, none⟩) (.int .i64 v) (by simp <;> omega)
  have r1s := r1.other (q := ⟨rb, ro + t, none⟩) (.int .i64 v) (by simp <;> omega)
  have r2s := r2.other (q := ⟨rb, ro + t, none⟩) (.int .i64 v) (by simp <;> omega)
  have o0s := set_other (b' := rb) (o' := ro + t) (u := .int .i64 v) o0 (by omega)
  have o1s := set_other (b' := rb) (o' := ro + t) (u := .int .i64 v) o1 (by omega)
  have o2s := set_other (b' := rb) (o' := ro + t) (u := .int .i64 v) o2 (by omega)
  have hbs := hbV.setCell (p := ⟨rb, ro + t, none⟩) (by show w.heap.size ≤ rb; omega) (.int .i64 v)
  have lo0' := lt_of_cell' o0
  have lx0' := lt_of_cell' x0
  have HXL := Lib.hid (show (xss.set κ (xss[κ].set t v)).length = xss.length from List.length_set)
  have hzs : (u3.setCell ⟨rb, ro + t, none⟩ (.int .i64 v)).heap.size = u3.heap.size := by simp
  have HWs := Lib.hid hWs
  have HVs := Lib.hid hVs
  have HEs := Lib.hid hEs
  clear hset hWs hVs hEs hW hV hE
  generalize xss[κ][t] = old at *
  generalize xss[κ].length = ql at *
  obtain ⟨r0c, r0f⟩ := r0s
  obtain ⟨r1c, r1f⟩ := r1s
  obtain ⟨r2c, r2f⟩ := r2s
  go_wp2_with fail
  try (generalize u3.setCell ⟨rb, ro + t, none⟩ (.int .i64 v) = u4 at *)
  refine bodyPost_ret (v := .tuple #[.agg #[.slice (some ⟨b1, off1, none⟩) xss.length c1, .slice D1 us.length d1, .slice E1 es.length f1], .int .i64 0]) (by simp [results, Try.results27, go_sem, r0c, r1c, r2c]) rfl ⟨some ⟨b1, off1, none⟩, c1, D1, d1, E1, f1, S, T, U, by rw [List.length_set], ?_, ?_, ?_, ?_, ?_, ?_, ?_⟩
  · exact ((HWs.out.setOut (b := w.heap.size + 1) _ (fun h => by have := hS' _ h; omega)).setOut (b := w.heap.size + 1) _ (fun h => by have := hS' _ h; omega)).setOut (b := w.heap.size + 1) _ (fun h => by have := hS' _ h; omega)
  · exact ((HVs.out.setOut _ (fun h => by have := hT' _ h; omega)).setOut _ (fun h => by have := hT' _ h; omega)).setOut _ (fun h => by have := hT' _ h; omega)
  · exact ((HEs.out.setOut _ (fun h => by have := hU' _ h; omega)).setOut _ (fun h => by have := hU' _ h; omega)).setOut _ (fun h => by have := hU' _ h; omega)
  · exact fun b hb => by have := hS' b hb; simp; omega
  · exact fun b hb => by have := hT' b hb; simp; omega
  · exact fun b hb => by have := hU' b hb; simp; omega
  · exact ((hbs.setCell (by simp) _).setCell (by simp) _).setCell (by simp) _
end Go.Proofs.Ytljholnnhogdkaa
