/- hasThread, l18Is; Collect where nothing is done. -/
import Derived.Test.YtggigndkamkclaaMailI
import Derived.Test.YtggigndkamkclaaMailF
import Derived.Deep.RegionHeld3
import Derived.Deep.DrawnRows
namespace Go.Proofs.Ytggigndkamkclaa
open Go.ChangeShapes Go.WideShapes Go.ChangeAt Go.RowKit
set_option linter.unusedVariables false
attribute [local go_sem ↓] Go.wp_at_zero Go.wp_at_succ

def hasTh (xss : List (List Po)) (yss : List (List Int)) (k : Int) : Bool := btw k 0 ((xss.length : Int) - 1) && mOkB xss yss
theorem hasTh_nat {xss : List (List Po)} {yss : List (List Int)} {k : Int} (h : hasTh xss yss k = true) : ∃ κ : Nat, k = κ ∧ κ < xss.length ∧ κ < yss.length ∧ xss.length ≤ 4 ∧ yss.length ≤ 4 ∧ tot xss + tot yss ≤ 30 := by
  simp only [hasTh, Bool.and_eq_true] at h
  have h1 := of_btw h.1
  obtain ⟨h2, h3, h4⟩ := mOk_facts h.2
  exact ⟨k.toNat, by omega, by omega, by omega, h3, by omega, h4⟩
theorem hasThread_i (A : Option Addr) (c : Nat) (B : Option Addr) (d : Nat) (xss : List (List Po)) (yss : List (List Int)) (k : Int) (w : World) {B1 B2 : Nat} (hr : Rd2 pv w B1 A xss) (hs : Rd2 iv w B2 B yss) (hn : Rows xss ∧ Rows yss) (v : Bool) (hv : hasTh xss yss k = v) :
    Calls Try.prog 39 #[.agg #[.slice A xss.length c, .slice B yss.length d], .int .i64 k] w fun e w' => e = .returned (.bool v) ∧ Below w.heap.size w w' := by
  subst hv
  have hl := hn.1.1
  cases hb : btw k 0 ((xss.length : Int) - 1) with
  | false =>
    have HR := Lib.hid (show hasTh xss yss k = false by simp [hasTh, hb])
    go_enter Try.func39, Try.ntmps39
    go_wp2_with (go_at_call 38; refine (between_q _ _ _ _).mono ?_; rintro e w2 ⟨rfl, rfl⟩)
    go_ret
    exact ⟨by rw [HR.out]; rfl, by (repeat' (first | (with_reducible exact Below.refl _ _) | (with_reducible refine bel_alloc ?_ ?_ _) | (with_reducible refine Below.setCell ?_ ?_ _) | (with_reducible refine below_drewN ?_ _) | (with_reducible refine Below.drew ?_) | (with_reducible exact Nat.le_refl _) | (with_reducible assumption) | omega | (simp only [World.size_alloc, World.size_setCell, World.size_drew]; omega) | (simp; omega) | (simp; done)))⟩
  | true =>
    have HR := Lib.hid (show hasTh xss yss k = mOkB xss yss by simp [hasTh, hb])
    go_enter Try.func39, Try.ntmps39
    go_wp2_with (go_at_call 38; refine (between_q _ _ _ _).mono ?_; rintro e w2 ⟨rfl, rfl⟩)
    refine (mailOk_i _ _ _ _ _ _ _ (hr.alloc _) (hs.alloc _) hn _ rfl).mono ?_
    rintro e w2 ⟨rfl, hb2⟩
    go_wp2
    go_ret
    exact ⟨by rw [HR.out]; rfl, by (repeat' (first | (with_reducible exact Below.refl _ _) | (with_reducible refine bel_alloc ?_ ?_ _) | (with_reducible refine Below.setCell ?_ ?_ _) | (with_reducible refine below_drewN ?_ _) | (with_reducible refine Below.drew ?_) | (with_reducible refine bel_step hb2 ?_ ?_) | (with_reducible exact Nat.le_refl _) | (with_reducible assumption) | omega | (simp only [World.size_alloc, World.size_setCell, World.size_drew]; omega) | (simp; omega) | (simp; done)))⟩
theorem l18Is_s (A : Option Addr) (c : Nat) (B : Option Addr) (d : Nat) (xss : List (List Po)) (yss : List (List Int)) (k : Int) (w : World) {B1 B2 : Nat} (hr : Rd2 pv w B1 A xss) (hs : Rd2 iv w B2 B yss) (hn : Rows xss ∧ Rows yss) (v : Bool) (hv : hasTh xss yss k = v) :
    Calls Try.prog 57 #[.agg #[.slice A xss.length c, .slice B yss.length d], .int .i64 k] w fun e w' => e = .returned (.bool v) ∧ Below w.heap.size w w' := by
  subst hv
  have hl := hn.1.1
  cases ho : mOkB xss yss with
  | false =>
    have HR := Lib.hid (show hasTh xss yss k = false by simp [hasTh, ho])
    go_enter Try.func57, Try.ntmps57
    go_wp2_with fail
    refine (mailOk_s _ _ _ _ _ _ _ (hr.alloc _) (hs.alloc _) hn _ ho).mono ?_
    rintro e w2 ⟨rfl, hb2⟩
    clear ho
    go_wp2
    go_ret
    exact ⟨by rw [HR.out]; rfl, by (repeat' (first | (with_reducible exact Below.refl _ _) | (with_reducible refine bel_alloc ?_ ?_ _) | (with_reducible refine Below.setCell ?_ ?_ _) | (with_reducible refine below_drewN ?_ _) | (with_reducible refine Below.drew ?_) | (with_reducible refine bel_step hb2 ?_ ?_) | (with_reducible exact Nat.le_refl _) | (with_reducible assumption) | omega | (simp only [World.size_alloc, World.size_setCell, World.size_drew]; omega) | (simp; omega) | (simp; done)))⟩
  | true =>
    have HR := Lib.hid (show hasTh xss yss k = btw k 0 ((xss.length : Int) - 1) by simp [hasTh, ho])
    go_enter Try.func57, Try.ntmps57
    go_wp2_with fail
    refine (mailOk_s _ _ _ _ _ _ _ (hr.alloc _) (hs.alloc _) hn _ ho).mono ?_
    rintro e w2 ⟨rfl, hb2⟩
    have q0 : w2.cell? ⟨w.heap.size, 0, none⟩ = some (.slice A xss.length c) := keep hb2 (by simp [go_sem])
    clear ho
    go_wp2_with (go_at_call 42; refine (l01In_q _ _ _ _).mono ?_; rintro e w3 ⟨rfl, rfl⟩)
    go_ret
    exact ⟨by rw [HR.out]; rfl, by (repeat' (first | (with_reducible exact Below.refl _ _) | (with_reducible refine bel_alloc ?_ ?_ _) | (with_reducible refine Below.setCell ?_ ?_ _) | (with_reducible refine below_drewN ?_ _) | (with_reducible refine Below.drew ?_) | (with_reducible refine bel_step hb2 ?_ ?_) | (with_reducible exact Nat.le_refl _) | (with_reducible assumption) | omega | (simp only [World.size_alloc, World.size_setCell, World.size_drew]; omega) | (simp; omega) | (simp; done)))⟩
theorem rows_set {α : Type} {xss : List (List α)} {κ : Nat} {q : List α} (h : Rows xss) (hq : q.length ≤ 1048576) : Rows (xss.set κ q) := by
  refine ⟨by rw [List.length_set]; exact h.1, fun l hl => ?_⟩
  rcases List.mem_or_eq_of_mem_set hl with h1 | h1
  · exact h.2 l h1
  · rw [h1]; exact hq
theorem pv_app (a b : List Po) : pv (a ++ b) = pv a ++ pv b := by simp [pv]
theorem tot_row {α : Type} {xss : List (List α)} {κ : Nat} (h : κ < xss.length) : xss[κ].length ≤ tot xss := by
  have h1 := tot_succ h
  have h2 := tot_take_le xss (κ + 1)
  omega
def MadeMB (xss : List (List Po)) (yss : List (List Int)) (ok : Bool) (w : World) (e : Ending) (w' : World) : Prop :=
  ∃ A c B d S T, e = .returned (.tuple #[.agg #[.slice A xss.length c, .slice B yss.length d], .bool ok]) ∧ Wr2 pv w' S A xss ∧ Wr2 iv w' T B yss ∧ New S w w' ∧ New T w w' ∧ (∀ b, S b → ¬ T b) ∧ Below w.heap.size w w'
def MadeMI (xss : List (List Po)) (yss : List (List Int)) (l : List Int) (w : World) (e : Ending) (w' : World) : Prop :=
  ∃ A c B d A' c' S T U, e = .returned (.tuple #[.agg #[.slice A xss.length c, .slice B yss.length d], .slice A' l.length c']) ∧ Wr2 pv w' S A xss ∧ Wr2 iv w' T B yss ∧ Wr w' U A' (iv l) ∧ New S w w' ∧ New T w w' ∧ New U w w' ∧ (∀ b, S b → ¬ T b) ∧ (∀ b, S b → ¬ U b) ∧ (∀ b, T b → ¬ U b) ∧ Below w.heap.size w w'
set_option maxHeartbeats 8000000 in
set_option maxRecDepth 100000 in
theorem collect_i_no (A : Option Addr) (c : Nat) (B : Option Addr) (d : Nat) (xss : List (List Po)) (yss : List (List Int)) (k : Int) (w : World) {B1 B2 : Nat} (hr : Rd2 pv w B1 A xss) (hs : Rd2 iv w B2 B yss) (hn : Rows xss ∧ Rows yss) (hv : hasTh xss yss k = false) :
    Calls Try.prog 16 #[.agg #[.slice A xss.length c, .slice B yss.length d], .int .i64 k] w (MadeMI xss yss [] w) := by
  go_enter Try.func16, Try.ntmps16
  go_wp2_with fail
  refine (copyMail_i _ _ _ _ _ _ _ ((hr.alloc _).alloc _) ((hs.alloc _).alloc _) hn).mono ?_
  rintro e u1 ⟨A1, c1, C1, d1, mid, rfl, hcA, hcB, hOA, hOB, hm1, hm2, hb1⟩
  replace hr := ((hr.alloc _).alloc _).below hb1
  replace hs := ((hs.alloc _).alloc _).below hb1
  have q0 : u1.cell? ⟨w.heap.size, 0, none⟩ = some (.slice A xss.length c) := keep hb1 (by simp [go_sem])
  have q1 : u1.cell? ⟨w.heap.size, 1, none⟩ = some (.slice B yss.length d) := keep hb1 (by simp [go_sem])
  have f0 : Cl u1 ⟨w.heap.size + 1, 0, none⟩ (.slice none 0 0) := Cl.below (by constructor <;> simp [go_sem]) hb1
  have f1 : Cl u1 ⟨w.heap.size + 1, 1, none⟩ (.slice none 0 0) := Cl.below (by constructor <;> simp [go_sem]) hb1
  have hz1 := hb1.size
  try simp only [World.size_alloc, World.size_drew] at hz1
  have lq0 := lt_of_cell' q0
  have f0c := f0.1
  have f0f := f0.2
  have lf0 := lt_of_cell' f0c
  have f1c := f1.1
  have f1f := f1.2
  replace hOA := hOA.mono (lo' := w.heap.size + 2) (by first | omega | (simp only [World.size_alloc]; omega))
  try simp only [World.size_alloc] at hm1
  go_wp2_with fail
  refine (hasThread_i _ _ _ _ _ _ _ _ (hr.alloc _) (hs.alloc _) hn false hv).mono ?_
  rintro e u2 ⟨rfl, hb2⟩
  clear lq0
  clear f0c f0f f1c f1f
  clear lf0
  replace hr := (hr.alloc _).below hb2
  replace hs := (hs.alloc _).below hb2
  replace q0 := keep hb2 (cell_al q0 _)
  replace q1 := keep hb2 (cell_al q1 _)
  replace f0 := (f0.alloc _).below hb2
  replace f1 := (f1.alloc _).below hb2
  replace hOA := (hOA.alloc _).below hb2
  replace hOB := (hOB.alloc _).below hb2
  have o0 : u2.cell? ⟨u1.heap.size, 0, none⟩ = some (.slice A1 xss.length c1) := keep hb2 (by simp [go_sem])
  have o1 : u2.cell? ⟨u1.heap.size, 1, none⟩ = some (.slice C1 yss.length d1) := keep hb2 (by simp [go_sem])
  have hz2 := hb2.size
  try simp only [World.size_alloc, World.size_drew] at hz2
  have lq0 := lt_of_cell' q0
  have lo0 := lt_of_cell' o0
  have f0c := f0.1
  have f0f := f0.2
  have lf0 := lt_of_cell' f0c
  have f1c := f1.1
  have f1f := f1.2
  clear hv
  have HWhOA := Lib.hid hOA.wr2
  have hNhOA : ∀ b, (w.heap.size + 2 ≤ b ∧ b < mid) → (w.heap.size + 2 ≤ b ∧ b < mid) := fun _ h => h
  clear hOA
  have HWhOB := Lib.hid hOB.wr2
  have hNhOB : ∀ b, (mid ≤ b ∧ b < u1.heap.size) → (mid ≤ b ∧ b < u1.heap.size) := fun _ h => h
  clear hOB
  go_wp2
  refine bodyPost_ret (v := .tuple #[.agg #[.slice A1 xss.length c1, .slice C1 yss.length d1], .slice none 0 0]) (by simp [results, Try.results16, go_sem, f0c, f1c]) rfl ⟨A1, c1, C1, d1, none, 0, (fun x => w.heap.size + 2 ≤ x ∧ x < mid), (fun x => mid ≤ x ∧ x < u1.heap.size), fun _ => False, rfl, ?_, ?_, .inl rfl, ?_, ?_, fun _ h => h.elim, fun b h1 h2 => by have := h1.2; have := h2.1; omega, fun _ _ h => h, fun _ _ h => h, ?_⟩
  · exact by (repeat' (first | (with_reducible exact HWhOA.out) | (with_reducible refine Wr2.setOut ?_ _ (fun h => by have := hNhOA _ h; first | omega | (simp at this; omega))) | (with_reducible refine Wr2.alloc ?_ _) | (with_reducible refine Wr2.drewN ?_ _) | (with_reducible refine Wr2.drew ?_)))
  · exact by (repeat' (first | (with_reducible exact HWhOB.out) | (with_reducible refine Wr2.setOut ?_ _ (fun h => by have := hNhOB _ h; first | omega | (simp at this; omega))) | (with_reducible refine Wr2.alloc ?_ _) | (with_reducible refine Wr2.drewN ?_ _) | (with_reducible refine Wr2.drew ?_)))
  · intro b hb
    have h1 := hb.1
    have h2 := hb.2
    simp only [World.size_setCell, World.size_alloc, World.size_drew]
    omega
  · intro b hb
    have h1 := hb.1
    have h2 := hb.2
    simp only [World.size_setCell, World.size_alloc, World.size_drew]
    omega
  · (repeat' (first | (with_reducible exact Below.refl _ _) | (with_reducible refine bel_alloc ?_ ?_ _) | (with_reducible refine Below.setCell ?_ ?_ _) | (with_reducible refine below_drewN ?_ _) | (with_reducible refine Below.drew ?_) | (with_reducible refine bel_step hb1 ?_ ?_) | (with_reducible refine bel_step hb2 ?_ ?_) | (with_reducible exact Nat.le_refl _) | (with_reducible assumption) | omega | (simp only [World.size_alloc, World.size_setCell, World.size_drew]; omega) | (simp; omega) | (simp; done)))
set_option maxHeartbeats 8000000 in
set_option maxRecDepth 100000 in
theorem collect_s_no (A : Option Addr) (c : Nat) (B : Option Addr) (d : Nat) (xss : List (List Po)) (yss : List (List Int)) (k : Int) (w : World) {B1 B2 : Nat} (hr : Rd2 pv w B1 A xss) (hs : Rd2 iv w B2 B yss) (hn : Rows xss ∧ Rows yss) (hv : hasTh xss yss k = false) :
    Calls Try.prog 32 #[.agg #[.slice A xss.length c, .slice B yss.length d], .int .i64 k] w (MadeMI xss yss [] w) := by
  go_enter Try.func32, Try.ntmps32
  go_wp2_with fail
  refine (l18Copy_s _ _ _ _ _ _ _ ((hr.alloc _).alloc _) ((hs.alloc _).alloc _) hn).mono ?_
  rintro e u1 ⟨A1, c1, C1, d1, mid, rfl, hcA, hcB, hOA, hOB, hm1, hm2, hb1⟩
  replace hr := ((hr.alloc _).alloc _).below hb1
  replace hs := ((hs.alloc _).alloc _).below hb1
  have q0 : u1.cell? ⟨w.heap.size, 0, none⟩ = some (.slice A xss.length c) := keep hb1 (by simp [go_sem])
  have q1 : u1.cell? ⟨w.heap.size, 1, none⟩ = some (.slice B yss.length d) := keep hb1 (by simp [go_sem])
  have f0 : Cl u1 ⟨w.heap.size + 1, 0, none⟩ (.slice none 0 0) := Cl.below (by constructor <;> simp [go_sem]) hb1
  have f1 : Cl u1 ⟨w.heap.size + 1, 1, none⟩ (.slice none 0 0) := Cl.below (by constructor <;> simp [go_sem]) hb1
  have hz1 := hb1.size
  try simp only [World.size_alloc, World.size_drew] at hz1
  have lq0 := lt_of_cell' q0
  have f0c := f0.1
  have f0f := f0.2
  have lf0 := lt_of_cell' f0c
  have f1c := f1.1
  have f1f := f1.2
  replace hOA := hOA.mono (lo' := w.heap.size + 2) (by first | omega | (simp only [World.size_alloc]; omega))
  try simp only [World.size_alloc] at hm1
  go_wp2_with fail
  refine (l18Is_s _ _ _ _ _ _ _ _ (hr.alloc _) (hs.alloc _) hn false hv).mono ?_
  rintro e u2 ⟨rfl, hb2⟩
  clear lq0
  clear f0c f0f f1c f1f
  clear lf0
  replace hr := (hr.alloc _).below hb2
  replace hs := (hs.alloc _).below hb2
  replace q0 := keep hb2 (cell_al q0 _)
  replace q1 := keep hb2 (cell_al q1 _)
  replace f0 := (f0.alloc _).below hb2
  replace f1 := (f1.alloc _).below hb2
  replace hOA := (hOA.alloc _).below hb2
  replace hOB := (hOB.alloc _).below hb2
  have o0 : u2.cell? ⟨u1.heap.size, 0, none⟩ = some (.slice A1 xss.length c1) := keep hb2 (by simp [go_sem])
  have o1 : u2.cell? ⟨u1.heap.size, 1, none⟩ = some (.slice C1 yss.length d1) := keep hb2 (by simp [go_sem])
  have hz2 := hb2.size
  try simp only [World.size_alloc, World.size_drew] at hz2
  have lq0 := lt_of_cell' q0
  have lo0 := lt_of_cell' o0
  have f0c := f0.1
  have f0f := f0.2
  have lf0 := lt_of_cell' f0c
  have f1c := f1.1
  have f1f := f1.2
  clear hv
  have HWhOA := Lib.hid hOA.wr2
  have hNhOA : ∀ b, (w.heap.size + 2 ≤ b ∧ b < mid) → (w.heap.size + 2 ≤ b ∧ b < mid) := fun _ h => h
  clear hOA
  have HWhOB := Lib.hid hOB.wr2
  have hNhOB : ∀ b, (mid ≤ b ∧ b < u1.heap.size) → (mid ≤ b ∧ b < u1.heap.size) := fun _ h => h
  clear hOB
  have Z0 := cell_al ((f0.same (.slice A1 xss.length c1)).other (q := ⟨w.heap.size + 1, 1, none⟩) (.slice C1 yss.length d1) (by simp)).1 (.cells #[] 3)
  have Z1 := cell_al ((f1.other (q := ⟨w.heap.size + 1, 0, none⟩) (.slice A1 xss.length c1) (by simp)).same (.slice C1 yss.length d1)).1 (.cells #[] 3)
  go_wp2
  refine bodyPost_ret (v := .tuple #[.agg #[.slice A1 xss.length c1, .slice C1 yss.length d1], .slice (some ⟨u2.heap.size, 0, none⟩) 0 0]) (by simp [results, Try.results32, go_sem, f0c, f1c, Z0, Z1]) rfl ⟨A1, c1, C1, d1, (some ⟨u2.heap.size, 0, none⟩), 0, (fun x => w.heap.size + 2 ≤ x ∧ x < mid), (fun x => mid ≤ x ∧ x < u1.heap.size), fun _ => False, rfl, ?_, ?_, .inl rfl, ?_, ?_, fun _ h => h.elim, fun b h1 h2 => by have := h1.2; have := h2.1; omega, fun _ _ h => h, fun _ _ h => h, ?_⟩
  · exact by (repeat' (first | (with_reducible exact HWhOA.out) | (with_reducible refine Wr2.setOut ?_ _ (fun h => by have := hNhOA _ h; first | omega | (simp at this; omega))) | (with_reducible refine Wr2.alloc ?_ _) | (with_reducible refine Wr2.drewN ?_ _) | (with_reducible refine Wr2.drew ?_)))
  · exact by (repeat' (first | (with_reducible exact HWhOB.out) | (with_reducible refine Wr2.setOut ?_ _ (fun h => by have := hNhOB _ h; first | omega | (simp at this; omega))) | (with_reducible refine Wr2.alloc ?_ _) | (with_reducible refine Wr2.drewN ?_ _) | (with_reducible refine Wr2.drew ?_)))
  · intro b hb
    have h1 := hb.1
    have h2 := hb.2
    simp only [World.size_setCell, World.size_alloc, World.size_drew]
    omega
  · intro b hb
    have h1 := hb.1
    have h2 := hb.2
    simp only [World.size_setCell, World.size_alloc, World.size_drew]
    omega
  · (repeat' (first | (with_reducible exact Below.refl _ _) | (with_reducible refine bel_alloc ?_ ?_ _) | (with_reducible refine Below.setCell ?_ ?_ _) | (with_reducible refine below_drewN ?_ _) | (with_reducible refine Below.drew ?_) | (with_reducible refine bel_step hb1 ?_ ?_) | (with_reducible refine bel_step hb2 ?_ ?_) | (with_reducible exact Nat.le_refl _) | (with_reducible assumption) | omega | (simp only [World.size_alloc, World.size_setCell, World.size_drew]; omega) | (simp; omega) | (simp; done)))
end Go.Proofs.Ytggigndkamkclaa
