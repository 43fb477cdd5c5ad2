/- Deliver where nothing is done. -/
import Derived.Test.YtggigndkamkclaaMailJ
import Derived.Deep.RegionHeld3
import Derived.Deep.DrawnRows
namespace Go.Proofs.Ytggigndkamkclaa
open Go.ChangeShapes Go.WideShapes Go.ChangeAt Go.RowKit
set_option linter.unusedVariables false
attribute [local go_sem ↓] Go.wp_at_zero Go.wp_at_succ

set_option maxHeartbeats 8000000 in
set_option maxRecDepth 100000 in
theorem deliver_i_no1 (A : Option Addr) (c : Nat) (B : Option Addr) (d : Nat) (xss : List (List Po)) (yss : List (List Int)) (k : Int) (w : World) {B1 B2 : Nat} (hr : Rd2 pv w B1 A xss) (hs : Rd2 iv w B2 B yss) (hn : Rows xss ∧ Rows yss) (hv : hasTh xss yss k = false) :
    Calls Try.prog 15 #[.agg #[.slice A xss.length c, .slice B yss.length d], .int .i64 k] w (MadeMB xss yss false w) := by
  go_enter Try.func15, Try.ntmps15
  go_wp2_with fail
  refine (copyMail_i _ _ _ _ _ _ _ ((hr.alloc _).alloc _) ((hs.alloc _).alloc _) hn).mono ?_
  rintro e u1 ⟨A1, c1, C1, d1, mid, rfl, hcA, hcB, hOA, hOB, hm1, hm2, hb1⟩
  replace hr := ((hr.alloc _).alloc _).below hb1
  replace hs := ((hs.alloc _).alloc _).below hb1
  have q0 : u1.cell? ⟨w.heap.size, 0, none⟩ = some (.slice A xss.length c) := keep hb1 (by simp [go_sem])
  have q1 : u1.cell? ⟨w.heap.size, 1, none⟩ = some (.slice B yss.length d) := keep hb1 (by simp [go_sem])
  have f0 : Cl u1 ⟨w.heap.size + 1, 0, none⟩ (.slice none 0 0) := Cl.below (by constructor <;> simp [go_sem]) hb1
  have f1 : Cl u1 ⟨w.heap.size + 1, 1, none⟩ (.slice none 0 0) := Cl.below (by constructor <;> simp [go_sem]) hb1
  have hz1 := hb1.size
  try simp only [World.size_alloc, World.size_drew] at hz1
  have lq0 := lt_of_cell' q0
  have f0c := f0.1
  have f0f := f0.2
  have lf0 := lt_of_cell' f0c
  have f1c := f1.1
  have f1f := f1.2
  replace hOA := hOA.mono (lo' := w.heap.size + 2) (by first | omega | (simp only [World.size_alloc]; omega))
  try simp only [World.size_alloc] at hm1
  go_wp2_with fail
  refine (hasThread_i _ _ _ _ _ _ _ _ (hr.alloc _) (hs.alloc _) hn false hv).mono ?_
  rintro e u2 ⟨rfl, hb2⟩
  clear lq0
  clear f0c f0f f1c f1f
  clear lf0
  replace hr := (hr.alloc _).below hb2
  replace hs := (hs.alloc _).below hb2
  replace q0 := keep hb2 (cell_al q0 _)
  replace q1 := keep hb2 (cell_al q1 _)
  replace f0 := (f0.alloc _).below hb2
  replace f1 := (f1.alloc _).below hb2
  replace hOA := (hOA.alloc _).below hb2
  replace hOB := (hOB.alloc _).below hb2
  have o0 : u2.cell? ⟨u1.heap.size, 0, none⟩ = some (.slice A1 xss.length c1) := keep hb2 (by simp [go_sem])
  have o1 : u2.cell? ⟨u1.heap.size, 1, none⟩ = some (.slice C1 yss.length d1) := keep hb2 (by simp [go_sem])
  have hz2 := hb2.size
  try simp only [World.size_alloc, World.size_drew] at hz2
  have lq0 := lt_of_cell' q0
  have lo0 := lt_of_cell' o0
  have f0c := f0.1
  have f0f := f0.2
  have lf0 := lt_of_cell' f0c
  have f1c := f1.1
  have f1f := f1.2
  clear hv
  have HWhOA := Lib.hid hOA.wr2
  have hNhOA : ∀ b, (w.heap.size + 2 ≤ b ∧ b < mid) → (w.heap.size + 2 ≤ b ∧ b < mid) := fun _ h => h
  clear hOA
  have HWhOB := Lib.hid hOB.wr2
  have hNhOB : ∀ b, (mid ≤ b ∧ b < u1.heap.size) → (mid ≤ b ∧ b < u1.heap.size) := fun _ h => h
  clear hOB
  go_wp2
  refine bodyPost_ret (v := .tuple #[.agg #[.slice A1 xss.length c1, .slice C1 yss.length d1], .bool false]) (by simp [results, Try.results15, go_sem, f0c, f1c]) rfl ⟨_, c1, _, d1, (fun x => w.heap.size + 2 ≤ x ∧ x < mid), (fun x => mid ≤ x ∧ x < u1.heap.size), rfl, ?_, ?_, ?_, ?_, fun b h1 h2 => by omega, ?_⟩
  · exact by (repeat' (first | (with_reducible exact HWhOA.out) | (with_reducible refine Wr2.setOut ?_ _ (fun h => by have := hNhOA _ h; first | omega | (simp at this; omega))) | (with_reducible refine Wr2.alloc ?_ _) | (with_reducible refine Wr2.drewN ?_ _) | (with_reducible refine Wr2.drew ?_)))
  · exact by (repeat' (first | (with_reducible exact HWhOB.out) | (with_reducible refine Wr2.setOut ?_ _ (fun h => by have := hNhOB _ h; first | omega | (simp at this; omega))) | (with_reducible refine Wr2.alloc ?_ _) | (with_reducible refine Wr2.drewN ?_ _) | (with_reducible refine Wr2.drew ?_)))
  · intro b hb
    simp only [World.size_setCell, World.size_alloc, World.size_drew]
    omega
  · intro b hb
    simp only [World.size_setCell, World.size_alloc, World.size_drew]
    omega
  · (repeat' (first | (with_reducible exact Below.refl _ _) | (with_reducible refine bel_alloc ?_ ?_ _) | (with_reducible refine Below.setCell ?_ ?_ _) | (with_reducible refine below_drewN ?_ _) | (with_reducible refine Below.drew ?_) | (with_reducible refine bel_step hb1 ?_ ?_) | (with_reducible refine bel_step hb2 ?_ ?_) | (with_reducible exact Nat.le_refl _) | (with_reducible assumption) | omega | (simp only [World.size_alloc, World.size_setCell, World.size_drew]; omega) | (simp; omega) | (simp; done)))
set_option maxHeartbeats 8000000 in
set_option maxRecDepth 100000 in
theorem deliver_s_no1 (A : Option Addr) (c : Nat) (B : Option Addr) (d : Nat) (xss : List (List Po)) (yss : List (List Int)) (k : Int) (w : World) {B1 B2 : Nat} (hr : Rd2 pv w B1 A xss) (hs : Rd2 iv w B2 B yss) (hn : Rows xss ∧ Rows yss) (hv : hasTh xss yss k = false) :
    Calls Try.prog 33 #[.agg #[.slice A xss.length c, .slice B yss.length d], .int .i64 k] w (MadeMB xss yss false w) := by
  go_enter Try.func33, Try.ntmps33
  go_wp2_with fail
  refine (l18Copy_s _ _ _ _ _ _ _ ((hr.alloc _).alloc _) ((hs.alloc _).alloc _) hn).mono ?_
  rintro e u1 ⟨A1, c1, C1, d1, mid, rfl, hcA, hcB, hOA, hOB, hm1, hm2, hb1⟩
  replace hr := ((hr.alloc _).alloc _).below hb1
  replace hs := ((hs.alloc _).alloc _).below hb1
  have q0 : u1.cell? ⟨w.heap.size, 0, none⟩ = some (.slice A xss.length c) := keep hb1 (by simp [go_sem])
  have q1 : u1.cell? ⟨w.heap.size, 1, none⟩ = some (.slice B yss.length d) := keep hb1 (by simp [go_sem])
  have f0 : Cl u1 ⟨w.heap.size + 1, 0, none⟩ (.slice none 0 0) := Cl.below (by constructor <;> simp [go_sem]) hb1
  have f1 : Cl u1 ⟨w.heap.size + 1, 1, none⟩ (.slice none 0 0) := Cl.below (by constructor <;> simp [go_sem]) hb1
  have hz1 := hb1.size
  try simp only [World.size_alloc, World.size_drew] at hz1
  have lq0 := lt_of_cell' q0
  have f0c := f0.1
  have f0f := f0.2
  have lf0 := lt_of_cell' f0c
  have f1c := f1.1
  have f1f := f1.2
  replace hOA := hOA.mono (lo' := w.heap.size + 2) (by first | omega | (simp only [World.size_alloc]; omega))
  try simp only [World.size_alloc] at hm1
  go_wp2_with fail
  refine (l18Is_s _ _ _ _ _ _ _ _ (hr.alloc _) (hs.alloc _) hn false hv).mono ?_
  rintro e u2 ⟨rfl, hb2⟩
  clear lq0
  clear f0c f0f f1c f1f
  clear lf0
  replace hr := (hr.alloc _).below hb2
  replace hs := (hs.alloc _).below hb2
  replace q0 := keep hb2 (cell_al q0 _)
  replace q1 := keep hb2 (cell_al q1 _)
  replace f0 := (f0.alloc _).below hb2
  replace f1 := (f1.alloc _).below hb2
  replace hOA := (hOA.alloc _).below hb2
  replace hOB := (hOB.alloc _).below hb2
  have o0 : u2.cell? ⟨u1.heap.size, 0, none⟩ = some (.slice A1 xss.length c1) := keep hb2 (by simp [go_sem])
  have o1 : u2.cell? ⟨u1.heap.size, 1, none⟩ = some (.slice C1 yss.length d1) := keep hb2 (by simp [go_sem])
  have hz2 := hb2.size
  try simp only [World.size_alloc, World.size_drew] at hz2
  have lq0 := lt_of_cell' q0
  have lo0 := lt_of_cell' o0
  have f0c := f0.1
  have f0f := f0.2
  have lf0 := lt_of_cell' f0c
  have f1c := f1.1
  have f1f := f1.2
  clear hv
  have HWhOA := Lib.hid hOA.wr2
  have hNhOA : ∀ b, (w.heap.size + 2 ≤ b ∧ b < mid) → (w.heap.size + 2 ≤ b ∧ b < mid) := fun _ h => h
  clear hOA
  have HWhOB := Lib.hid hOB.wr2
  have hNhOB : ∀ b, (mid ≤ b ∧ b < u1.heap.size) → (mid ≤ b ∧ b < u1.heap.size) := fun _ h => h
  clear hOB
  go_wp2
  refine bodyPost_ret (v := .tuple #[.agg #[.slice A1 xss.length c1, .slice C1 yss.length d1], .bool false]) (by simp [results, Try.results33, go_sem, f0c, f1c]) rfl ⟨_, c1, _, d1, (fun x => w.heap.size + 2 ≤ x ∧ x < mid), (fun x => mid ≤ x ∧ x < u1.heap.size), rfl, ?_, ?_, ?_, ?_, fun b h1 h2 => by omega, ?_⟩
  · exact by (repeat' (first | (with_reducible exact HWhOA.out) | (with_reducible refine Wr2.setOut ?_ _ (fun h => by have := hNhOA _ h; first | omega | (simp at this; omega))) | (with_reducible refine Wr2.alloc ?_ _) | (with_reducible refine Wr2.drewN ?_ _) | (with_reducible refine Wr2.drew ?_)))
  · exact by (repeat' (first | (with_reducible exact HWhOB.out) | (with_reducible refine Wr2.setOut ?_ _ (fun h => by have := hNhOB _ h; first | omega | (simp at this; omega))) | (with_reducible refine Wr2.alloc ?_ _) | (with_reducible refine Wr2.drewN ?_ _) | (with_reducible refine Wr2.drew ?_)))
  · intro b hb
    simp only [World.size_setCell, World.size_alloc, World.size_drew]
    omega
  · intro b hb
    simp only [World.size_setCell, World.size_alloc, World.size_drew]
    omega
  · (repeat' (first | (with_reducible exact Below.refl _ _) | (with_reducible refine bel_alloc ?_ ?_ _) | (with_reducible refine Below.setCell ?_ ?_ _) | (with_reducible refine below_drewN ?_ _) | (with_reducible refine Below.drew ?_) | (with_reducible refine bel_step hb1 ?_ ?_) | (with_reducible refine bel_step hb2 ?_ ?_) | (with_reducible exact Nat.le_refl _) | (with_reducible assumption) | omega | (simp only [World.size_alloc, World.size_setCell, World.size_drew]; omega) | (simp; omega) | (simp; done)))
set_option maxHeartbeats 8000000 in
set_option maxRecDepth 100000 in
theorem deliver_i_no2 (A : Option Addr) (c : Nat) (B : Option Addr) (d : Nat) (xss : List (List Po)) (yss : List (List Int)) (κ : Nat) (w : World) {B1 B2 : Nat} (hr : Rd2 pv w B1 A xss) (hs : Rd2 iv w B2 B yss) (hn : Rows xss ∧ Rows yss) (hv : hasTh xss yss κ = true) (hlt : κ < xss.length) (hq : xss[κ].length = 0) :
    Calls Try.prog 15 #[.agg #[.slice A xss.length c, .slice B yss.length d], .int .i64 κ] w (MadeMB xss yss false w) := by
  have i0 : (0 : Int) ≤ (κ : Int) := by omega
  have i1 : (κ : Int) < (xss.length : Int) := by omega
  obtain ⟨b, off, R0, cr, rfl, -, hc, -⟩ := hr.lt.row hlt
  have hbl := lt_of_cell' hc
  rw [hq] at hc
  clear hq
  go_enter Try.func15, Try.ntmps15
  go_wp2_with fail
  refine (copyMail_i _ _ _ _ _ _ _ ((hr.alloc _).alloc _) ((hs.alloc _).alloc _) hn).mono ?_
  rintro e u1 ⟨A1, c1, C1, d1, mid, rfl, hcA, hcB, hOA, hOB, hm1, hm2, hb1⟩
  replace hr := ((hr.alloc _).alloc _).below hb1
  replace hs := ((hs.alloc _).alloc _).below hb1
  replace hc := keep hb1 (cell_al (cell_al hc _) _)
  have q0 : u1.cell? ⟨w.heap.size, 0, none⟩ = some (.slice (some ⟨b, off, none⟩) xss.length c) := keep hb1 (by simp [go_sem])
  have q1 : u1.cell? ⟨w.heap.size, 1, none⟩ = some (.slice B yss.length d) := keep hb1 (by simp [go_sem])
  have f0 : Cl u1 ⟨w.heap.size + 1, 0, none⟩ (.slice none 0 0) := Cl.below (by constructor <;> simp [go_sem]) hb1
  have f1 : Cl u1 ⟨w.heap.size + 1, 1, none⟩ (.slice none 0 0) := Cl.below (by constructor <;> simp [go_sem]) hb1
  have hz1 := hb1.size
  try simp only [World.size_alloc, World.size_drew] at hz1
  have lq0 := lt_of_cell' q0
  have f0c := f0.1
  have f0f := f0.2
  have lf0 := lt_of_cell' f0c
  have f1c := f1.1
  have f1f := f1.2
  replace hOA := hOA.mono (lo' := w.heap.size + 2) (by first | omega | (simp only [World.size_alloc]; omega))
  try simp only [World.size_alloc] at hm1
  go_wp2_with fail
  refine (hasThread_i _ _ _ _ _ _ _ _ (hr.alloc _) (hs.alloc _) hn true hv).mono ?_
  rintro e u2 ⟨rfl, hb2⟩
  clear lq0
  clear f0c f0f f1c f1f
  clear lf0
  replace hr := (hr.alloc _).below hb2
  replace hs := (hs.alloc _).below hb2
  replace hc := keep hb2 (cell_al hc _)
  replace q0 := keep hb2 (cell_al q0 _)
  replace q1 := keep hb2 (cell_al q1 _)
  replace f0 := (f0.alloc _).below hb2
  replace f1 := (f1.alloc _).below hb2
  replace hOA := (hOA.alloc _).below hb2
  replace hOB := (hOB.alloc _).below hb2
  have o0 : u2.cell? ⟨u1.heap.size, 0, none⟩ = some (.slice A1 xss.length c1) := keep hb2 (by simp [go_sem])
  have o1 : u2.cell? ⟨u1.heap.size, 1, none⟩ = some (.slice C1 yss.length d1) := keep hb2 (by simp [go_sem])
  have hz2 := hb2.size
  try simp only [World.size_alloc, World.size_drew] at hz2
  have lq0 := lt_of_cell' q0
  have lo0 := lt_of_cell' o0
  have f0c := f0.1
  have f0f := f0.2
  have lf0 := lt_of_cell' f0c
  have f1c := f1.1
  have f1f := f1.2
  clear hv
  have HWhOA := Lib.hid hOA.wr2
  have hNhOA : ∀ b, (w.heap.size + 2 ≤ b ∧ b < mid) → (w.heap.size + 2 ≤ b ∧ b < mid) := fun _ h => h
  clear hOA
  have HWhOB := Lib.hid hOB.wr2
  have hNhOB : ∀ b, (mid ≤ b ∧ b < u1.heap.size) → (mid ≤ b ∧ b < u1.heap.size) := fun _ h => h
  clear hOB
  go_wp2
  refine bodyPost_ret (v := .tuple #[.agg #[.slice A1 xss.length c1, .slice C1 yss.length d1], .bool false]) (by simp [results, Try.results15, go_sem, f0c, f1c]) rfl ⟨_, c1, _, d1, (fun x => w.heap.size + 2 ≤ x ∧ x < mid), (fun x => mid ≤ x ∧ x < u1.heap.size), rfl, ?_, ?_, ?_, ?_, fun b h1 h2 => by omega, ?_⟩
  · exact by (repeat' (first | (with_reducible exact HWhOA.out) | (with_reducible refine Wr2.setOut ?_ _ (fun h => by have := hNhOA _ h; first | omega | (simp at this; omega))) | (with_reducible refine Wr2.alloc ?_ _) | (with_reducible refine Wr2.drewN ?_ _) | (with_reducible refine Wr2.drew ?_)))
  · exact by (repeat' (first | (with_reducible exact HWhOB.out) | (with_reducible refine Wr2.setOut ?_ _ (fun h => by have := hNhOB _ h; first | omega | (simp at this; omega))) | (with_reducible refine Wr2.alloc ?_ _) | (with_reducible refine Wr2.drewN ?_ _) | (with_reducible refine Wr2.drew ?_)))
  · intro b hb
    simp only [World.size_setCell, World.size_alloc, World.size_drew]
    omega
  · intro b hb
    simp only [World.size_setCell, World.size_alloc, World.size_drew]
    omega
  · (repeat' (first | (with_reducible exact Below.refl _ _) | (with_reducible refine bel_alloc ?_ ?_ _) | (with_reducible refine Below.setCell ?_ ?_ _) | (with_reducible refine below_drewN ?_ _) | (with_reducible refine Below.drew ?_) | (with_reducible refine bel_step hb1 ?_ ?_) | (with_reducible refine bel_step hb2 ?_ ?_) | (with_reducible exact Nat.le_refl _) | (with_reducible assumption) | omega | (simp only [World.size_alloc, World.size_setCell, World.size_drew]; omega) | (simp; omega) | (simp; done)))
set_option maxHeartbeats 8000000 in
set_option maxRecDepth 100000 in
theorem deliver_s_no2 (A : Option Addr) (c : Nat) (B : Option Addr) (d : Nat) (xss : List (List Po)) (yss : List (List Int)) (κ : Nat) (w : World) {B1 B2 : Nat} (hr : Rd2 pv w B1 A xss) (hs : Rd2 iv w B2 B yss) (hn : Rows xss ∧ Rows yss) (hv : hasTh xss yss κ = true) (hlt : κ < xss.length) (hq : xss[κ].length = 0) :
    Calls Try.prog 33 #[.agg #[.slice A xss.length c, .slice B yss.length d], .int .i64 κ] w (MadeMB xss yss false w) := by
  have i0 : (0 : Int) ≤ (κ : Int) := by omega
  have i1 : (κ : Int) < (xss.length : Int) := by omega
  obtain ⟨b, off, R0, cr, rfl, -, hc, -⟩ := hr.lt.row hlt
  have hbl := lt_of_cell' hc
  rw [hq] at hc
  clear hq
  go_enter Try.func33, Try.ntmps33
  go_wp2_with fail
  refine (l18Copy_s _ _ _ _ _ _ _ ((hr.alloc _).alloc _) ((hs.alloc _).alloc _) hn).mono ?_
  rintro e u1 ⟨A1, c1, C1, d1, mid, rfl, hcA, hcB, hOA, hOB, hm1, hm2, hb1⟩
  replace hr := ((hr.alloc _).alloc _).below hb1
  replace hs := ((hs.alloc _).alloc _).below hb1
  replace hc := keep hb1 (cell_al (cell_al hc _) _)
  have q0 : u1.cell? ⟨w.heap.size, 0, none⟩ = some (.slice (some ⟨b, off, none⟩) xss.length c) := keep hb1 (by simp [go_sem])
  have q1 : u1.cell? ⟨w.heap.size, 1, none⟩ = some (.slice B yss.length d) := keep hb1 (by simp [go_sem])
  have f0 : Cl u1 ⟨w.heap.size + 1, 0, none⟩ (.slice none 0 0) := Cl.below (by constructor <;> simp [go_sem]) hb1
  have f1 : Cl u1 ⟨w.heap.size + 1, 1, none⟩ (.slice none 0 0) := Cl.below (by constructor <;> simp [go_sem]) hb1
  have hz1 := hb1.size
  try simp only [World.size_alloc, World.size_drew] at hz1
  have lq0 := lt_of_cell' q0
  have f0c := f0.1
  have f0f := f0.2
  have lf0 := lt_of_cell' f0c
  have f1c := f1.1
  have f1f := f1.2
  replace hOA := hOA.mono (lo' := w.heap.size + 2) (by first | omega | (simp only [World.size_alloc]; omega))
  try simp only [World.size_alloc] at hm1
  go_wp2_with fail
  refine (l18Is_s _ _ _ _ _ _ _ _ (hr.alloc _) (hs.alloc _) hn true hv).mono ?_
  rintro e u2 ⟨rfl, hb2⟩
  clear lq0
  clear f0c f0f f1c f1f
  clear lf0
  replace hr := (hr.alloc _).below hb2
  replace hs := (hs.alloc _).below hb2
  replace hc := keep hb2 (cell_al hc _)
  replace q0 := keep hb2 (cell_al q0 _)
  replace q1 := keep hb2 (cell_al q1 _)
  replace f0 := (f0.alloc _).below hb2
  replace f1 := (f1.alloc _).below hb2
  replace hOA := (hOA.alloc _).below hb2
  replace hOB := (hOB.alloc _).below hb2
  have o0 : u2.cell? ⟨u1.heap.size, 0, none⟩ = some (.slice A1 xss.length c1) := keep hb2 (by simp [go_sem])
  have o1 : u2.cell? ⟨u1.heap.size, 1, none⟩ = some (.slice C1 yss.length d1) := keep hb2 (by simp [go_sem])
  have hz2 := hb2.size
  try simp only [World.size_alloc, World.size_drew] at hz2
  have lq0 := lt_of_cell' q0
  have lo0 := lt_of_cell' o0
  have f0c := f0.1
  have f0f := f0.2
  have lf0 := lt_of_cell' f0c
  have f1c := f1.1
  have f1f := f1.2
  clear hv
  have HWhOA := Lib.hid hOA.wr2
  have hNhOA : ∀ b, (w.heap.size + 2 ≤ b ∧ b < mid) → (w.heap.size + 2 ≤ b ∧ b < mid) := fun _ h => h
  clear hOA
  have HWhOB := Lib.hid hOB.wr2
  have hNhOB : ∀ b, (mid ≤ b ∧ b < u1.heap.size) → (mid ≤ b ∧ b < u1.heap.size) := fun _ h => h
  clear hOB
  go_wp2
  refine bodyPost_ret (v := .tuple #[.agg #[.slice A1 xss.length c1, .slice C1 yss.length d1], .bool false]) (by simp [results, Try.results33, go_sem, f0c, f1c]) rfl ⟨_, c1, _, d1, (fun x => w.heap.size + 2 ≤ x ∧ x < mid), (fun x => mid ≤ x ∧ x < u1.heap.size), rfl, ?_, ?_, ?_, ?_, fun b h1 h2 => by omega, ?_⟩
  · exact by (repeat' (first | (with_reducible exact HWhOA.out) | (with_reducible refine Wr2.setOut ?_ _ (fun h => by have := hNhOA _ h; first | omega | (simp at this; omega))) | (with_reducible refine Wr2.alloc ?_ _) | (with_reducible refine Wr2.drewN ?_ _) | (with_reducible refine Wr2.drew ?_)))
  · exact by (repeat' (first | (with_reducible exact HWhOB.out) | (with_reducible refine Wr2.setOut ?_ _ (fun h => by have := hNhOB _ h; first | omega | (simp at this; omega))) | (with_reducible refine Wr2.alloc ?_ _) | (with_reducible refine Wr2.drewN ?_ _) | (with_reducible refine Wr2.drew ?_)))
  · intro b hb
    simp only [World.size_setCell, World.size_alloc, World.size_drew]
    omega
  · intro b hb
    simp only [World.size_setCell, World.size_alloc, World.size_drew]
    omega
  · (repeat' (first | (with_reducible exact Below.refl _ _) | (with_reducible refine bel_alloc ?_ ?_ _) | (with_reducible refine Below.setCell ?_ ?_ _) | (with_reducible refine below_drewN ?_ _) | (with_reducible refine Below.drew ?_) | (with_reducible refine bel_step hb1 ?_ ?_) | (with_reducible refine bel_step hb2 ?_ ?_) | (with_reducible exact Nat.le_refl _) | (with_reducible assumption) | omega | (simp only [World.size_alloc, World.size_setCell, World.size_drew]; omega) | (simp; omega) | (simp; done)))
end Go.Proofs.Ytggigndkamkclaa
