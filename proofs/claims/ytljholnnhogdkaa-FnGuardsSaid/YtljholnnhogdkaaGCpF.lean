/- copyFrames, copyTable, copyMachine, of the program and of the reference. -/
import Derived.Test.YtljholnnhogdkaaMacT
import Derived.Test.YtljholnnhogdkaaL2
import Derived.Test.YtljholnnhogdkaaIntN
import Derived.Deep.RegionHeld3
import Derived.Deep.RegionLaw
import Derived.Deep.DrawnRows
namespace Go.Proofs.Ytljholnnhogdkaa
open Go.ChangeShapes Go.WideShapes Go.ChangeAt Go.RowKit
set_option linter.unusedVariables false
set_option linter.unusedSimpArgs false
attribute [local go_sem ↓] Go.wp_at_zero Go.wp_at_succ

theorem bl_one (xs : List Bool) : ∀ u ∈ bl xs, u.oneCell' = true := fun u hu => by
  obtain ⟨b, _, rfl⟩ := List.mem_map.1 hu
  rfl
def MadeFramesO (xss : List (List Int)) (us : List Bool) (w : World) (e : Ending) (w' : World) : Prop :=
  ∃ A c B d mid, e = .returned (.agg #[.slice A xss.length c, .slice B us.length d]) ∧ Wr2 iv w' (fun x => mid ≤ x ∧ x < w'.heap.size) A xss ∧ Wr w' (fun x => w.heap.size ≤ x ∧ x < mid) B (bl us) ∧ w.heap.size ≤ mid ∧ mid ≤ w'.heap.size ∧ Below w.heap.size w w'
set_option maxHeartbeats 8000000 in
set_option maxRecDepth 100000 in
theorem copyFrames_i (A : Option Addr) (c : Nat) (B : Option Addr) (d : Nat) (xss : List (List Int)) (us : List Bool) (w : World) {B1 B2 : Nat} (hr0 : Rd2 iv w B1 A xss) (hs0 : Rd w B2 B (bl us)) (hn : Rows xss) (hm : us.length ≤ 1048576) :
    Calls Try.prog 70 #[.agg #[.slice A xss.length c, .slice B us.length d]] w (MadeFramesO xss us w) := by
  have hl0 := hn.1
  have HM0 := Lib.hid hn.2
  clear hn
  obtain ⟨i0, hi0, iz00, iz01, iz02⟩ := info_parts infoIntSS
  obtain ⟨j0, hj0, jz00, jz01, jz02⟩ := info_parts infoInt
  obtain ⟨l0, hl, lz0, lz1, lz2⟩ := info_parts infoBool
  have hbw : Below w.heap.size w (((w.alloc (.cells #[.slice A xss.length c, .slice B us.length d] 42)).alloc (.cells #[.slice none 0 0, .slice none 0 0] 42)).alloc (.cells #[] 4)) := by (repeat' (first | (with_reducible exact Below.refl _ _) | (with_reducible refine bel_alloc ?_ ?_ _) | (with_reducible refine Below.setCell ?_ ?_ _) | (with_reducible refine below_drewN ?_ _) | (with_reducible refine Below.drew ?_) | (with_reducible exact Nat.le_refl _) | (with_reducible assumption) | omega | (simp only [World.size_alloc, World.size_setCell, World.size_drew]; omega) | (simp; omega) | (simp; done)))
  have hs3 := ((hs0.alloc (.cells #[.slice A xss.length c, .slice B us.length d] 42)).alloc (.cells #[.slice none 0 0, .slice none 0 0] 42)).alloc (.cells #[] 4)
  have hO0 := own_lit (w := (w.alloc (.cells #[.slice A xss.length c, .slice B us.length d] 42)).alloc (.cells #[.slice none 0 0, .slice none 0 0] 42)) (g := w.heap.size + 1 + 1) (e := 4) (size := 1) (by simp)
  have e0 : (((w.alloc (.cells #[.slice A xss.length c, .slice B us.length d] 42)).alloc (.cells #[.slice none 0 0, .slice none 0 0] 42)).alloc (.cells #[] 4)).cell? ⟨w.heap.size, 0, none⟩ = some (.slice A xss.length c) := by simp [go_sem]
  have f0 : Cl (((w.alloc (.cells #[.slice A xss.length c, .slice B us.length d] 42)).alloc (.cells #[.slice none 0 0, .slice none 0 0] 42)).alloc (.cells #[] 4)) ⟨w.heap.size + 1, 0, none⟩ (.slice none 0 0) := by constructor <;> simp [go_sem]
  have f1 : Cl (((w.alloc (.cells #[.slice A xss.length c, .slice B us.length d] 42)).alloc (.cells #[.slice none 0 0, .slice none 0 0] 42)).alloc (.cells #[] 4)) ⟨w.heap.size + 1, 1, none⟩ (.slice none 0 0) := by constructor <;> simp [go_sem]
  have hzz : (((w.alloc (.cells #[.slice A xss.length c, .slice B us.length d] 42)).alloc (.cells #[.slice none 0 0, .slice none 0 0] 42)).alloc (.cells #[] 4)).heap.size = w.heap.size + 3 := by simp
  go_enter Try.func70, Try.ntmps70
  go_wp2_with (at_builtin; refine wpList_append_new rfl (.tmp 6) (.tmp 8) _ rfl 4 l0 (.bool false) 1 1 Try.underlying32 hl lz0 lz1 lz2 rfl (by omega) (w.heap.size + 1 + 1) rfl hO0 B us.length d (bl us) rfl (by simp) hs3 (bl_one _) (by unfold maxLen; omega) (by omega) (by simp) ?_; intro A9 c9 w9 ho9 hS9 hA9; have e09 := hS9.cell e0 (by simp <;> omega); have le09 := lt_of_cell' e09)
  have hz9 := hS9.size
  rw [hzz] at hz9
  have hb9 : Below w.heap.size w w9 := bel_outS hS9 (fun b hb => by omega) hbw (Nat.le_refl _)
  replace e0 := e09
  clear le09
  replace f0 := f0.outS hS9 (by simp)
  replace f1 := f1.outS hS9 (by simp)
  have hW9 := ho9.wr
  obtain ⟨gq, hgq⟩ : ∃ gq, gq = w9.heap.size := ⟨_, rfl⟩
  have HGQ := Lib.hid hgq
  have hgq1 : w.heap.size + 3 ≤ gq := by omega
  have hgq2 : gq + 1 ≤ (w9.alloc (.cells #[.slice none 0 0, .slice A9 us.length c9] 42)).heap.size := by simp; omega
  have p0 : Cl (w9.alloc (.cells #[.slice none 0 0, .slice A9 us.length c9] 42)) ⟨gq, 0, none⟩ (.slice none 0 0) := Cl.new hgq rfl
  have p1 : Cl (w9.alloc (.cells #[.slice none 0 0, .slice A9 us.length c9] 42)) ⟨gq, 1, none⟩ (.slice A9 us.length c9) := Cl.new hgq rfl
  rw [← hgq] at hW9
  have hb10 : Below w.heap.size w (w9.alloc (.cells #[.slice none 0 0, .slice A9 us.length c9] 42)) := by (repeat' (first | (with_reducible exact Below.refl _ _) | (with_reducible refine bel_alloc ?_ ?_ _) | (with_reducible refine Below.setCell ?_ ?_ _) | (with_reducible refine below_drewN ?_ _) | (with_reducible refine Below.drew ?_) | (with_reducible refine bel_step hb9 ?_ ?_) | (with_reducible exact Nat.le_refl _) | (with_reducible assumption) | omega | (simp only [World.size_alloc, World.size_setCell, World.size_drew]; omega) | (simp; omega) | (simp; done)))
  clear hgq ho9 hS9 hA9 hs3 hO0 hbw hzz hz9
  try simp only [← HGQ.out]
  go_loopw [14] (fun v wr => ∃ (k : Nat) (A2 : Option Addr) (c2 : Nat) (cur : List Value) (hd : Nat → Option Addr × Nat), k ≤ xss.length ∧ v = .int .i64 k ∧ O2 iv 22 3 1 wr (gq + 1) A2 c2 cur hd (xss.take k) ∧ Cl wr ⟨gq, 0, none⟩ (.slice A2 k c2) ∧ Cl wr ⟨gq, 1, none⟩ (.slice A9 us.length c9) ∧ Cl wr ⟨w.heap.size + 1, 0, none⟩ (.slice none 0 0) ∧ Cl wr ⟨w.heap.size + 1, 1, none⟩ (.slice none 0 0) ∧ wr.cell? ⟨w.heap.size, 0, none⟩ = some (.slice A xss.length c) ∧ Wr wr (fun b => w.heap.size + 1 + 1 ≤ b ∧ b < gq) A9 (bl us) ∧ (gq + 1) ≤ wr.heap.size ∧ Below w.heap.size w wr) (fun v _ => xss.length - (intOf v).toNat)
  case atStart => exact ⟨0, none, 0, [], fun _ => (none, 0), Nat.zero_le _, rfl, O2.nil, p0, p1, f0.alloc _, f1.alloc _, cell_al e0 _, hW9.alloc _, hgq2, hb10⟩
  case round =>
    clear p0 p1 f0 f1 e0 hW9 hgq2 hb10 hb9
    obtain ⟨k, A2, c2, cur, hd, hk, rfl, hO, qo0, qo1, qs0, qs1, qb0, hU, hgz, hbr⟩ := hrel
    have HO := Lib.hid hO
    by_cases hlt : k < xss.length
    · obtain ⟨b, off, A1, c1, rfl, -, hc0, hrx⟩ := hr0.lt.row hlt
      have hbl := lt_of_cell' hc0
      have hc := keep hbr hc0
      have hlm := HM0.out _ (List.getElem_mem hlt)
      have htk : (xss.take k).length = k := by simp; omega
      have hown := hO.own
      rw [htk] at hown
      have hrx' := (hrx.below hbr).drew
      have HS := Lib.hid (List.take_succ_eq_append_getElem hlt)
      obtain ⟨q, hq⟩ : ∃ q, q = xss[k] := ⟨_, rfl⟩
      rw [← hq] at hc0 hc hrx hrx' hlm HS
      have HTK := Lib.hid htk
      clear hq hO htk
      replace qo0 : Cl wr.drew ⟨gq, 0, none⟩ _ := qo0
      have qo0c := qo0.1
      have qo0l : gq < wr.heap.size := lt_of_cell' qo0c
      replace qo1 : Cl wr.drew ⟨gq, 1, none⟩ _ := qo1
      replace qs0 : Cl wr.drew ⟨w.heap.size + 1, 0, none⟩ _ := qs0
      replace qs1 : Cl wr.drew ⟨w.heap.size + 1, 1, none⟩ _ := qs1
      have qz0 : wr.drew.cell? ⟨w.heap.size, 0, none⟩ = some (.slice (some ⟨b, off, none⟩) xss.length c) := qb0
      have hcz : wr.drew.cell? ⟨b, off + k, none⟩ = some (.slice A1 q.length c1) := hc
      have hown0 : wr.drew.ownsRow (gq + 1) 22 1 (.slice A2 k c2) k cur := hown
      have hlo : ∀ x, At A2 x → (gq + 1) ≤ x ∧ x < wr.heap.size := fun x hx => own_lo' hown hx
      have hlo' : ∀ x, (∃ o, A2 = some ⟨x, o, none⟩) → w.heap.size ≤ x := fun x hx => by have := hlo x hx; omega
      have HLQ := Lib.hid (show (iv q).length = q.length * 1 by exact (by simp))
      have i0k : (0 : Int) ≤ (k : Int) := by omega
      have i1k : (k : Int) < (xss.length : Int) := by omega
      go_wp2_with fail
      go_region_law (first | (refine step_append_ow (by rfl) (.tmp 19) (.tmp 22) _ (by rfl) 22 i0 (.slice none 0 0) 1 24 Try.underlying31 hi0 iz00 iz01 iz02 (by rfl) (by omega) (gq + 1) A2 k c2 cur (by rfl) (own_below' (own_below' hown0 hb3) ((Below.refl _ _).alloc (Nat.le_refl _) _)) (some ⟨w3.heap.size, 0, none⟩) 1 1 [.slice A3 q.length c3] (by rfl) (by rfl) (Rd.lit (by simp)) (by simp [Value.oneCell']) (by unfold maxLen; omega) (by omega) (by have := hb3.size; simp at this; simp; omega) ?_; intro A4 c4 w4 hO4 hS4 hA4; have P4 := (P3.alloc (.cells #[.slice A3 q.length c3] 22)).outS hS4 (fun hx => by have := (hlo _ hx).1; dsimp only at this; omega); have P4c := P4.1; have P4f := P4.2; have X4 := hS4.cell (cell_al X3 (.cells #[.slice A3 q.length c3] 22)) (fun hx => by have := (hlo _ hx).1; dsimp only at this; omega); have Y4 := hS4.cell (cell_al Y3 (.cells #[.slice A3 q.length c3] 22)) (fun hx => by have := (hlo _ hx).1; have := hbr.size; dsimp only at *; omega)) | (go_simp; go_at_call 84; refine (copyInts_any _ _ q _ hrx' hlm).mono ?_; rintro e w3 ⟨A3, c3, rfl, ho3, hb3⟩; replace ho3 := ho3.1; have P3 := Cl.below qo0 hb3; have P3c := P3.1; have P3l := lt_of_cell' P3c; have X3 := keep hb3 qz0; have Y3 := keep hb3 hcz))
      all_goals
        have hz4 := hS4.size
        have hz3 := hb3.size
        simp only [World.size_alloc, World.size_drew] at hz4 hz3
        have hR : ∀ x, At A3 x → wr.heap.size ≤ x ∧ x < w3.heap.size := fun x hx => own_lo' ho3 hx
        have hR4 : w4.ownsRow wr.heap.size 3 1 (.slice A3 q.length c3) q.length (iv q) := own_outS (own_below' ho3 ((Below.refl _ _).alloc (Nat.le_refl _) _)) hS4 (fun x h1 h2 => by have := hR x h1; have := hlo x h2; omega)
        replace qo1 := ((Cl.below qo1 hb3).alloc (.cells #[.slice A3 q.length c3] 22)).outS hS4 (fun hx => by have := (hlo _ hx).1; dsimp only at this; omega)
        replace qs0 := ((Cl.below qs0 hb3).alloc (.cells #[.slice A3 q.length c3] 22)).outS hS4 (fun hx => by have := (hlo _ hx).1; dsimp only at this; omega)
        replace qs1 := ((Cl.below qs1 hb3).alloc (.cells #[.slice A3 q.length c3] 22)).outS hS4 (fun hx => by have := (hlo _ hx).1; dsimp only at this; omega)
        replace qb0 := hS4.cell (cell_al (keep hb3 qz0) (.cells #[.slice A3 q.length c3] 22)) (fun hx => by have := (hlo _ hx).1; dsimp only at this; omega)
        replace hU := ((Wr.below (Wr.drew hU) hb3).alloc (.cells #[.slice A3 q.length c3] 22)).outS hS4 (fun x h1 h2 => by have := hlo x h2; omega)
        have hA4' : ∀ x, At A4 x → At A2 x ∨ w3.heap.size + 1 ≤ x := fun x hx => by have := at_of hA4 hx; simpa using this
        have hbS : Below w.heap.size w (w4.setCell ⟨gq, 0, none⟩ (.slice A4 (k + 1) c4)) := by (repeat' (first | (with_reducible exact Below.refl _ _) | (with_reducible refine bel_alloc ?_ ?_ _) | (with_reducible refine Below.setCell ?_ ?_ _) | (with_reducible refine below_drewN ?_ _) | (with_reducible refine Below.drew ?_) | (with_reducible refine bel_step hbr ?_ ?_) | (with_reducible refine bel_step hb3 ?_ ?_) | (with_reducible refine bel_outS hS4 hlo' ?_ ?_) | (with_reducible exact Nat.le_refl _) | (with_reducible assumption) | omega | (simp only [World.size_alloc, World.size_setCell, World.size_drew]; omega) | (simp; omega) | (simp; done)))
        have hnext : O2 iv 22 3 1 (w4.setCell ⟨gq, 0, none⟩ (.slice A4 (k + 1) c4)) (gq + 1) A4 c4 (cur ++ [.slice A3 q.length c3]) (fun j => if j < (xss.take k).length then hd j else (A3, c3)) (xss.take k ++ [q]) := by
          refine HO.out.snoc (own_outS (S := fun x => x = gq) (own_mono hR4 (by omega)) (OutS.set w4 _ rfl) (fun x hx e => by have := hR x hx; omega)) (fun x hx => ⟨(hR x hx).1, fun ha => ?_⟩) ?_ ?_ (fun x hx => ?_)
          · have h1 := hR x hx
            rcases hA4' x ha with h2 | h2
            · have := hlo x h2; omega
            · omega
          · rw [HTK.out]
            exact own_outS (S := fun x => x = gq) hO4 (OutS.set w4 _ rfl) (fun x hx e => by rcases hA4' x hx with h2 | h2 <;> first | (have := hlo x h2; omega) | omega)
          · refine OutS.trans (OutS.trans (OutS.of_below (Below.drew (Below.refl _ _))) (OutS.trans (OutS.of_below hb3) ((OutS.of_below ((Below.refl _ _).alloc (Nat.le_refl _) (.cells #[.slice A3 q.length c3] 22))).trans (hS4.mono fun x hx => .inl hx)))) (OutS.set w4 _ (.inr (by omega)))
          · rcases hA4' x hx with h2 | h2
            · exact .inl h2
            · exact .inr (by omega)
        go_wp2
        go_roundw
        case rel => exact ⟨k + 1, A4, c4, _, _, by omega, by go_num, by rw [HS.out]; exact hnext, P4.same _, qo1.other _ (by simp), qs0.other _ (by simp <;> omega), qs1.other _ (by simp <;> omega), (World.cell?_setCell_other _ _ _ _ (by simp <;> first | done | omega)).trans qb0, hU.setOut _ (fun h => by omega), by simp; omega, hbS⟩
        case measure => simp [intOf]; omega
    · obtain rfl : k = xss.length := by omega
      have hO' := hO
      rw [List.take_length] at hO'
      have R0 : Own2 iv 3 1 ((wr.setCell ⟨w.heap.size + 1, 0, none⟩ (.slice A2 xss.length c2)).setCell ⟨w.heap.size + 1, 1, none⟩ (.slice A9 us.length c9)) (gq + 1) wr.heap.size A2 xss := (hO'.own2.setOut (o := 0) (.slice A2 xss.length c2) (.inl (by omega))).setOut (o := 1) (.slice A9 us.length c9) (.inl (by omega))
      have HR0 := Lib.hid R0
      clear R0
      have hbW : Below w.heap.size w ((wr.setCell ⟨w.heap.size + 1, 0, none⟩ (.slice A2 xss.length c2)).setCell ⟨w.heap.size + 1, 1, none⟩ (.slice A9 us.length c9)) := by (repeat' (first | (with_reducible exact Below.refl _ _) | (with_reducible refine bel_alloc ?_ ?_ _) | (with_reducible refine Below.setCell ?_ ?_ _) | (with_reducible refine below_drewN ?_ _) | (with_reducible refine Below.drew ?_) | (with_reducible refine bel_step hbr ?_ ?_) | (with_reducible exact Nat.le_refl _) | (with_reducible assumption) | omega | (simp only [World.size_alloc, World.size_setCell, World.size_drew]; omega) | (simp; omega) | (simp; done)))
      have hres0 := ((qs0.same (.slice A2 xss.length c2)).other (q := ⟨w.heap.size + 1, 1, none⟩) (.slice A9 us.length c9) (by simp)).1
      have hres1 := ((qs1.other (q := ⟨w.heap.size + 1, 0, none⟩) (.slice A2 xss.length c2) (by simp)).same (.slice A9 us.length c9)).1
      have HUU := Lib.hid ((hU.setOut (b := w.heap.size + 1) (o := 0) (.slice A2 xss.length c2) (fun h => by omega)).setOut (b := w.heap.size + 1) (o := 1) (.slice A9 us.length c9) (fun h => by omega))
      have qo0c := qo0.1
      have qo0f := qo0.2
      have qo1c := qo1.1
      have qs0c := qs0.1
      have qs0f := qs0.2
      have qs1c := qs1.1
      have qs1f := qs1.2
      have lqo := lt_of_cell' qo0c
      have lqs := lt_of_cell' qs0c
      clear hO hO' HO
      go_wp2
      exact bodyPost_ret (v := .agg #[.slice A2 xss.length c2, .slice A9 us.length c9]) (by simp [results, Try.results70, go_sem, hres0, hres1]) rfl ⟨A2, c2, A9, c9, gq, rfl, HR0.out.wr2.mono (fun x hx => by simp; omega), HUU.out.mono (fun x hx => by omega), by omega, by simp; omega, hbW⟩
set_option maxHeartbeats 8000000 in
set_option maxRecDepth 100000 in
theorem l05Copy_s (A : Option Addr) (c : Nat) (B : Option Addr) (d : Nat) (xss : List (List Int)) (us : List Bool) (w : World) {B1 B2 : Nat} (hr0 : Rd2 iv w B1 A xss) (hs0 : Rd w B2 B (bl us)) (hn : Rows xss) (hm : us.length ≤ 1048576) :
    Calls Try.prog 73 #[.agg #[.slice A xss.length c, .slice B us.length d]] w (MadeFramesO xss us w) := by
  have hl0 := hn.1
  have HM0 := Lib.hid hn.2
  clear hn
  obtain ⟨i0, hi0, iz00, iz01, iz02⟩ := info_parts infoIntSS
  obtain ⟨j0, hj0, jz00, jz01, jz02⟩ := info_parts infoInt
  obtain ⟨l0, hl, lz0, lz1, lz2⟩ := info_parts infoBool
  have hbw : Below w.heap.size w (((w.alloc (.cells #[.slice A xss.length c, .slice B us.length d] 42)).alloc (.cells #[.slice none 0 0, .slice none 0 0] 42)).alloc (.cells #[] 4)) := by (repeat' (first | (with_reducible exact Below.refl _ _) | (with_reducible refine bel_alloc ?_ ?_ _) | (with_reducible refine Below.setCell ?_ ?_ _) | (with_reducible refine below_drewN ?_ _) | (with_reducible refine Below.drew ?_) | (with_reducible exact Nat.le_refl _) | (with_reducible assumption) | omega | (simp only [World.size_alloc, World.size_setCell, World.size_drew]; omega) | (simp; omega) | (simp; done)))
  have hs3 := ((hs0.alloc (.cells #[.slice A xss.length c, .slice B us.length d] 42)).alloc (.cells #[.slice none 0 0, .slice none 0 0] 42)).alloc (.cells #[] 4)
  have hO0 := own_lit (w := (w.alloc (.cells #[.slice A xss.length c, .slice B us.length d] 42)).alloc (.cells #[.slice none 0 0, .slice none 0 0] 42)) (g := w.heap.size + 1 + 1) (e := 4) (size := 1) (by simp)
  have e0 : (((w.alloc (.cells #[.slice A xss.length c, .slice B us.length d] 42)).alloc (.cells #[.slice none 0 0, .slice none 0 0] 42)).alloc (.cells #[] 4)).cell? ⟨w.heap.size, 0, none⟩ = some (.slice A xss.length c) := by simp [go_sem]
  have f0 : Cl (((w.alloc (.cells #[.slice A xss.length c, .slice B us.length d] 42)).alloc (.cells #[.slice none 0 0, .slice none 0 0] 42)).alloc (.cells #[] 4)) ⟨w.heap.size + 1, 0, none⟩ (.slice none 0 0) := by constructor <;> simp [go_sem]
  have f1 : Cl (((w.alloc (.cells #[.slice A xss.length c, .slice B us.length d] 42)).alloc (.cells #[.slice none 0 0, .slice none 0 0] 42)).alloc (.cells #[] 4)) ⟨w.heap.size + 1, 1, none⟩ (.slice none 0 0) := by constructor <;> simp [go_sem]
  have hzz : (((w.alloc (.cells #[.slice A xss.length c, .slice B us.length d] 42)).alloc (.cells #[.slice none 0 0, .slice none 0 0] 42)).alloc (.cells #[] 4)).heap.size = w.heap.size + 3 := by simp
  go_enter Try.func73, Try.ntmps73
  go_wp2_with (at_builtin; refine wpList_append_new rfl (.tmp 5) (.tmp 7) _ rfl 4 l0 (.bool false) 1 1 Try.underlying32 hl lz0 lz1 lz2 rfl (by omega) (w.heap.size + 1 + 1) rfl hO0 B us.length d (bl us) rfl (by simp) hs3 (bl_one _) (by unfold maxLen; omega) (by omega) (by simp) ?_; intro A9 c9 w9 ho9 hS9 hA9; have e09 := hS9.cell e0 (by simp <;> omega); have le09 := lt_of_cell' e09)
  have hz9 := hS9.size
  rw [hzz] at hz9
  have hb9 : Below w.heap.size w w9 := bel_outS hS9 (fun b hb => by omega) hbw (Nat.le_refl _)
  replace e0 := e09
  clear le09
  replace f0 := f0.outS hS9 (by simp)
  replace f1 := f1.outS hS9 (by simp)
  have hW9 := ho9.wr
  obtain ⟨gq, hgq⟩ : ∃ gq, gq = w9.heap.size := ⟨_, rfl⟩
  have HGQ := Lib.hid hgq
  have hgq1 : w.heap.size + 3 ≤ gq := by omega
  have hgq2 : gq + 1 ≤ (w9.alloc (.cells #[.slice none 0 0, .slice A9 us.length c9] 42)).heap.size := by simp; omega
  have p0 : Cl (w9.alloc (.cells #[.slice none 0 0, .slice A9 us.length c9] 42)) ⟨gq, 0, none⟩ (.slice none 0 0) := Cl.new hgq rfl
  have p1 : Cl (w9.alloc (.cells #[.slice none 0 0, .slice A9 us.length c9] 42)) ⟨gq, 1, none⟩ (.slice A9 us.length c9) := Cl.new hgq rfl
  rw [← hgq] at hW9
  have hb10 : Below w.heap.size w (w9.alloc (.cells #[.slice none 0 0, .slice A9 us.length c9] 42)) := by (repeat' (first | (with_reducible exact Below.refl _ _) | (with_reducible refine bel_alloc ?_ ?_ _) | (with_reducible refine Below.setCell ?_ ?_ _) | (with_reducible refine below_drewN ?_ _) | (with_reducible refine Below.drew ?_) | (with_reducible refine bel_step hb9 ?_ ?_) | (with_reducible exact Nat.le_refl _) | (with_reducible assumption) | omega | (simp only [World.size_alloc, World.size_setCell, World.size_drew]; omega) | (simp; omega) | (simp; done)))
  clear hgq ho9 hS9 hA9 hs3 hO0 hbw hzz hz9
  try simp only [← HGQ.out]
  go_loopw [4] (fun v wr => ∃ (k : Nat) (A2 : Option Addr) (c2 : Nat) (cur : List Value) (hd : Nat → Option Addr × Nat), k ≤ xss.length ∧ v = .int .i64 k ∧ O2 iv 22 3 1 wr (gq + 1) A2 c2 cur hd (xss.take k) ∧ Cl wr ⟨gq, 0, none⟩ (.slice A2 k c2) ∧ Cl wr ⟨gq, 1, none⟩ (.slice A9 us.length c9) ∧ Cl wr ⟨w.heap.size + 1, 0, none⟩ (.slice none 0 0) ∧ Cl wr ⟨w.heap.size + 1, 1, none⟩ (.slice none 0 0) ∧ wr.cell? ⟨w.heap.size, 0, none⟩ = some (.slice A xss.length c) ∧ Wr wr (fun b => w.heap.size + 1 + 1 ≤ b ∧ b < gq) A9 (bl us) ∧ (gq + 1) ≤ wr.heap.size ∧ Below w.heap.size w wr) (fun v _ => xss.length - (intOf v).toNat)
  case atStart => exact ⟨0, none, 0, [], fun _ => (none, 0), Nat.zero_le _, rfl, O2.nil, p0, p1, f0.alloc _, f1.alloc _, cell_al e0 _, hW9.alloc _, hgq2, hb10⟩
  case round =>
    clear p0 p1 f0 f1 e0 hW9 hgq2 hb10 hb9
    obtain ⟨k, A2, c2, cur, hd, hk, rfl, hO, qo0, qo1, qs0, qs1, qb0, hU, hgz, hbr⟩ := hrel
    have HO := Lib.hid hO
    by_cases hlt : k < xss.length
    · obtain ⟨b, off, A1, c1, rfl, -, hc0, hrx⟩ := hr0.lt.row hlt
      have hbl := lt_of_cell' hc0
      have hc := keep hbr hc0
      have hlm := HM0.out _ (List.getElem_mem hlt)
      have htk : (xss.take k).length = k := by simp; omega
      have hown := hO.own
      rw [htk] at hown
      have hrx' := (hrx.below hbr).drew
      have HS := Lib.hid (List.take_succ_eq_append_getElem hlt)
      obtain ⟨q, hq⟩ : ∃ q, q = xss[k] := ⟨_, rfl⟩
      rw [← hq] at hc0 hc hrx hrx' hlm HS
      have HTK := Lib.hid htk
      clear hq hO htk
      replace qo0 : Cl wr.drew ⟨gq, 0, none⟩ _ := qo0
      have qo0c := qo0.1
      have qo0l : gq < wr.heap.size := lt_of_cell' qo0c
      replace qo1 : Cl wr.drew ⟨gq, 1, none⟩ _ := qo1
      replace qs0 : Cl wr.drew ⟨w.heap.size + 1, 0, none⟩ _ := qs0
      replace qs1 : Cl wr.drew ⟨w.heap.size + 1, 1, none⟩ _ := qs1
      have qz0 : wr.drew.cell? ⟨w.heap.size, 0, none⟩ = some (.slice (some ⟨b, off, none⟩) xss.length c) := qb0
      have hcz : wr.drew.cell? ⟨b, off + k, none⟩ = some (.slice A1 q.length c1) := hc
      have hown0 : wr.drew.ownsRow (gq + 1) 22 1 (.slice A2 k c2) k cur := hown
      have hlo : ∀ x, At A2 x → (gq + 1) ≤ x ∧ x < wr.heap.size := fun x hx => own_lo' hown hx
      have hlo' : ∀ x, (∃ o, A2 = some ⟨x, o, none⟩) → w.heap.size ≤ x := fun x hx => by have := hlo x hx; omega
      have HLQ := Lib.hid (show (iv q).length = q.length * 1 by exact (by simp))
      have i0k : (0 : Int) ≤ (k : Int) := by omega
      have i1k : (k : Int) < (xss.length : Int) := by omega
      have qoa : (wr.alloc (.cells #[] 3)).cell? ⟨gq, 0, none⟩ = some (.slice A2 k c2) := cell_al (show wr.cell? _ = _ from qo0c) _
      have qba : (wr.alloc (.cells #[] 3)).cell? ⟨w.heap.size, 0, none⟩ = some (.slice (some ⟨b, off, none⟩) xss.length c) := cell_al (show wr.cell? _ = _ from qz0) _
      have qca : (wr.alloc (.cells #[] 3)).cell? ⟨b, off + k, none⟩ = some (.slice A1 q.length c1) := cell_al (show wr.cell? _ = _ from hcz) _
      go_wp2_with fail
      go_region_law (first | (refine step_append_ow (by rfl) (.tmp 18) (.tmp 26) _ (by rfl) 22 i0 (.slice none 0 0) 1 24 Try.underlying31 hi0 iz00 iz01 iz02 (by rfl) (by omega) (gq + 1) A2 k c2 cur (by rfl) (own_below' (own_below' hown0 hb3) ((Below.refl _ _).alloc (Nat.le_refl _) _)) (some ⟨w3.heap.size, 0, none⟩) 1 1 [.slice A3 q.length c3] (by rfl) (by rfl) (Rd.lit (by simp)) (by simp [Value.oneCell']) (by unfold maxLen; omega) (by omega) (by have := hb3.size; simp at this; simp; omega) ?_; intro A4 c4 w4 hO4 hS4 hA4; have P4 := (P3.alloc (.cells #[.slice A3 q.length c3] 22)).outS hS4 (fun hx => by have := (hlo _ hx).1; dsimp only at this; omega); have P4c := P4.1; have P4f := P4.2; have X4 := hS4.cell (cell_al X3 (.cells #[.slice A3 q.length c3] 22)) (fun hx => by have := (hlo _ hx).1; dsimp only at this; omega); have Y4 := hS4.cell (cell_al Y3 (.cells #[.slice A3 q.length c3] 22)) (fun hx => by have := (hlo _ hx).1; have := hbr.size; dsimp only at *; omega)) | (refine step_append_new (by rfl) (.tmp 19) (.tmp 24) _ (by rfl) 3 j0 (.int .i64 0) 1 8 Try.underlying22 hj0 jz00 jz01 jz02 (by rfl) (by omega) wr.heap.size (by rfl) (own_lit (by rfl)) A1 q.length c1 (iv q) (by rfl) HLQ.out (hrx'.alloc _) (iv_one _) (by unfold maxLen; omega) (by omega) (by simp) ?_; intro A3 c3 w3 ho3 hS3 hA3; replace ho3 := ho3.1; have hb3 : Below wr.drew.heap.size wr.drew w3 := bel_outS hS3 (fun b hb => by rw [hb]; exact Nat.le_refl _) ((Below.refl _ _).alloc (Nat.le_refl _) _) (Nat.le_refl _); have P3 := Cl.below qo0 hb3; have P3c := P3.1; have P3l := lt_of_cell' P3c; have X3 := keep hb3 qz0; have Y3 := keep hb3 hcz))
      all_goals
        have hz4 := hS4.size
        have hz3 := hb3.size
        simp only [World.size_alloc, World.size_drew] at hz4 hz3
        have hR : ∀ x, At A3 x → wr.heap.size ≤ x ∧ x < w3.heap.size := fun x hx => own_lo' ho3 hx
        have hR4 : w4.ownsRow wr.heap.size 3 1 (.slice A3 q.length c3) q.length (iv q) := own_outS (own_below' ho3 ((Below.refl _ _).alloc (Nat.le_refl _) _)) hS4 (fun x h1 h2 => by have := hR x h1; have := hlo x h2; omega)
        replace qo1 := ((Cl.below qo1 hb3).alloc (.cells #[.slice A3 q.length c3] 22)).outS hS4 (fun hx => by have := (hlo _ hx).1; dsimp only at this; omega)
        replace qs0 := ((Cl.below qs0 hb3).alloc (.cells #[.slice A3 q.length c3] 22)).outS hS4 (fun hx => by have := (hlo _ hx).1; dsimp only at this; omega)
        replace qs1 := ((Cl.below qs1 hb3).alloc (.cells #[.slice A3 q.length c3] 22)).outS hS4 (fun hx => by have := (hlo _ hx).1; dsimp only at this; omega)
        replace qb0 := hS4.cell (cell_al (keep hb3 qz0) (.cells #[.slice A3 q.length c3] 22)) (fun hx => by have := (hlo _ hx).1; dsimp only at this; omega)
        replace hU := ((Wr.below (Wr.drew hU) hb3).alloc (.cells #[.slice A3 q.length c3] 22)).outS hS4 (fun x h1 h2 => by have := hlo x h2; omega)
        have hA4' : ∀ x, At A4 x → At A2 x ∨ w3.heap.size + 1 ≤ x := fun x hx => by have := at_of hA4 hx; simpa using this
        have hbS : Below w.heap.size w (w4.setCell ⟨gq, 0, none⟩ (.slice A4 (k + 1) c4)) := by (repeat' (first | (with_reducible exact Below.refl _ _) | (with_reducible refine bel_alloc ?_ ?_ _) | (with_reducible refine Below.setCell ?_ ?_ _) | (with_reducible refine below_drewN ?_ _) | (with_reducible refine Below.drew ?_) | (with_reducible refine bel_step hbr ?_ ?_) | (with_reducible refine bel_step hb3 ?_ ?_) | (with_reducible refine bel_outS hS4 hlo' ?_ ?_) | (with_reducible exact Nat.le_refl _) | (with_reducible assumption) | omega | (simp only [World.size_alloc, World.size_setCell, World.size_drew]; omega) | (simp; omega) | (simp; done)))
        have hnext : O2 iv 22 3 1 (w4.setCell ⟨gq, 0, none⟩ (.slice A4 (k + 1) c4)) (gq + 1) A4 c4 (cur ++ [.slice A3 q.length c3]) (fun j => if j < (xss.take k).length then hd j else (A3, c3)) (xss.take k ++ [q]) := by
          refine HO.out.snoc (own_outS (S := fun x => x = gq) (own_mono hR4 (by omega)) (OutS.set w4 _ rfl) (fun x hx e => by have := hR x hx; omega)) (fun x hx => ⟨(hR x hx).1, fun ha => ?_⟩) ?_ ?_ (fun x hx => ?_)
          · have h1 := hR x hx
            rcases hA4' x ha with h2 | h2
            · have := hlo x h2; omega
            · omega
          · rw [HTK.out]
            exact own_outS (S := fun x => x = gq) hO4 (OutS.set w4 _ rfl) (fun x hx e => by rcases hA4' x hx with h2 | h2 <;> first | (have := hlo x h2; omega) | omega)
          · refine OutS.trans (OutS.trans (OutS.of_below (Below.drew (Below.refl _ _))) (OutS.trans (OutS.of_below hb3) ((OutS.of_below ((Below.refl _ _).alloc (Nat.le_refl _) (.cells #[.slice A3 q.length c3] 22))).trans (hS4.mono fun x hx => .inl hx)))) (OutS.set w4 _ (.inr (by omega)))
          · rcases hA4' x hx with h2 | h2
            · exact .inl h2
            · exact .inr (by omega)
        go_wp2
        go_roundw
        case rel => exact ⟨k + 1, A4, c4, _, _, by omega, by go_num, by rw [HS.out]; exact hnext, P4.same _, qo1.other _ (by simp), qs0.other _ (by simp <;> omega), qs1.other _ (by simp <;> omega), (World.cell?_setCell_other _ _ _ _ (by simp <;> first | done | omega)).trans qb0, hU.setOut _ (fun h => by omega), by simp; omega, hbS⟩
        case measure => simp [intOf]; omega
    · obtain rfl : k = xss.length := by omega
      have hO' := hO
      rw [List.take_length] at hO'
      have R0 : Own2 iv 3 1 ((wr.setCell ⟨w.heap.size + 1, 0, none⟩ (.slice A2 xss.length c2)).setCell ⟨w.heap.size + 1, 1, none⟩ (.slice A9 us.length c9)) (gq + 1) wr.heap.size A2 xss := (hO'.own2.setOut (o := 0) (.slice A2 xss.length c2) (.inl (by omega))).setOut (o := 1) (.slice A9 us.length c9) (.inl (by omega))
      have HR0 := Lib.hid R0
      clear R0
      have hbW : Below w.heap.size w ((wr.setCell ⟨w.heap.size + 1, 0, none⟩ (.slice A2 xss.length c2)).setCell ⟨w.heap.size + 1, 1, none⟩ (.slice A9 us.length c9)) := by (repeat' (first | (with_reducible exact Below.refl _ _) | (with_reducible refine bel_alloc ?_ ?_ _) | (with_reducible refine Below.setCell ?_ ?_ _) | (with_reducible refine below_drewN ?_ _) | (with_reducible refine Below.drew ?_) | (with_reducible refine bel_step hbr ?_ ?_) | (with_reducible exact Nat.le_refl _) | (with_reducible assumption) | omega | (simp only [World.size_alloc, World.size_setCell, World.size_drew]; omega) | (simp; omega) | (simp; done)))
      have hres0 := ((qs0.same (.slice A2 xss.length c2)).other (q := ⟨w.heap.size + 1, 1, none⟩) (.slice A9 us.length c9) (by simp)).1
      have hres1 := ((qs1.other (q := ⟨w.heap.size + 1, 0, none⟩) (.slice A2 xss.length c2) (by simp)).same (.slice A9 us.length c9)).1
      have HUU := Lib.hid ((hU.setOut (b := w.heap.size + 1) (o := 0) (.slice A2 xss.length c2) (fun h => by omega)).setOut (b := w.heap.size + 1) (o := 1) (.slice A9 us.length c9) (fun h => by omega))
      have qo0c := qo0.1
      have qo0f := qo0.2
      have qo1c := qo1.1
      have qs0c := qs0.1
      have qs0f := qs0.2
      have qs1c := qs1.1
      have qs1f := qs1.2
      have lqo := lt_of_cell' qo0c
      have lqs := lt_of_cell' qs0c
      clear hO hO' HO
      go_wp2
      exact bodyPost_ret (v := .agg #[.slice A2 xss.length c2, .slice A9 us.length c9]) (by simp [results, Try.results73, go_sem, hres0, hres1]) rfl ⟨A2, c2, A9, c9, gq, rfl, HR0.out.wr2.mono (fun x hx => by simp; omega), HUU.out.mono (fun x hx => by omega), by omega, by simp; omega, hbW⟩
end Go.Proofs.Ytljholnnhogdkaa
