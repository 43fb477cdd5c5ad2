/- l18Copy, of the reference. -/
import Derived.Test.YtggigndkamkclaaMailH
import Derived.Deep.RegionHeld3
import Derived.Deep.RegionLaw
import Derived.Deep.DrawnRows
namespace Go.Proofs.Ytggigndkamkclaa
open Go.ChangeShapes Go.WideShapes Go.ChangeAt Go.RowKit
set_option linter.unusedVariables false
attribute [local go_sem ↓] Go.wp_at_zero Go.wp_at_succ

set_option maxHeartbeats 8000000 in
set_option maxRecDepth 100000 in
theorem l18Copy_s (A : Option Addr) (c : Nat) (B : Option Addr) (d : Nat) (xss : List (List (Int × Int))) (yss : List (List Int)) (w : World) {B1 B2 : Nat} (hr0 : Rd2 pv w B1 A xss) (hr1 : Rd2 iv w B2 B yss) (hn : Rows xss ∧ Rows yss) :
    Calls Try.prog 56 #[.agg #[.slice A xss.length c, .slice B yss.length d]] w (MadeMailO xss yss w) := by
  have hl0 := hn.1.1
  have HM0 := Lib.hid hn.1.2
  have hl1 := hn.2.1
  have HM1 := Lib.hid hn.2.2
  clear hn
  obtain ⟨i0, hi0, iz00, iz01, iz02⟩ := info_parts infoPostSS
  obtain ⟨j0, hj0, jz00, jz01, jz02⟩ := info_parts infoPost
  obtain ⟨i1, hi1, iz10, iz11, iz12⟩ := info_parts infoIntSS
  obtain ⟨j1, hj1, jz10, jz11, jz12⟩ := info_parts infoInt
  go_enter Try.func56, Try.ntmps56
  go_wp2
  go_loopw [4] (fun v wr => ∃ (k : Nat) (A2 : Option Addr) (c2 : Nat) (cur : List Value) (hd : Nat → Option Addr × Nat), k ≤ xss.length ∧ v = .int .i64 k ∧ O2 pv 49 34 2 wr (w.heap.size + 3) A2 c2 cur hd (xss.take k) ∧ Cl wr ⟨w.heap.size + 1 + 1, 0, none⟩ (.slice A2 k c2) ∧ Cl wr ⟨w.heap.size + 1 + 1, 1, none⟩ (.slice none 0 0) ∧ Cl wr ⟨w.heap.size + 1, 0, none⟩ (.slice none 0 0) ∧ Cl wr ⟨w.heap.size + 1, 1, none⟩ (.slice none 0 0) ∧ wr.cell? ⟨w.heap.size, 0, none⟩ = some (.slice A xss.length c) ∧ wr.cell? ⟨w.heap.size, 1, none⟩ = some (.slice B yss.length d) ∧ (w.heap.size + 3) ≤ wr.heap.size ∧ Below w.heap.size w wr) (fun v _ => xss.length - (intOf v).toNat)
  case atStart =>
    refine ⟨0, none, 0, [], fun _ => (none, 0), Nat.zero_le _, rfl, O2.nil, ?_, ?_, ?_, ?_, ?_, ?_, by simp, by (repeat' (first | (with_reducible exact Below.refl _ _) | (with_reducible refine bel_alloc ?_ ?_ _) | (with_reducible refine Below.setCell ?_ ?_ _) | (with_reducible refine below_drewN ?_ _) | (with_reducible refine Below.drew ?_) | (with_reducible exact Nat.le_refl _) | (with_reducible assumption) | omega | (simp only [World.size_alloc, World.size_setCell, World.size_drew]; omega) | (simp; omega) | (simp; done)))⟩
    all_goals first | (constructor <;> simp [go_sem] <;> done) | (simp [go_sem]; done)
  case round =>
    obtain ⟨k, A2, c2, cur, hd, hk, rfl, hO, qo0, qo1, qs0, qs1, qb0, qb1, hgz, hbr⟩ := hrel
    have HO := Lib.hid hO
    by_cases hlt : k < xss.length
    · obtain ⟨b, off, A1, c1, rfl, -, hc0, hrx⟩ := hr0.lt.row hlt
      have hbl := lt_of_cell' hc0
      have hc := keep hbr hc0
      have hlm := HM0.out _ (List.getElem_mem hlt)
      have htk : (xss.take k).length = k := by simp; omega
      have hown := hO.own
      rw [htk] at hown
      have hrx' := (hrx.below hbr).drew
      have HS := Lib.hid (List.take_succ_eq_append_getElem hlt)
      obtain ⟨q, hq⟩ : ∃ q, q = xss[k] := ⟨_, rfl⟩
      rw [← hq] at hc0 hc hrx hrx' hlm HS
      have HTK := Lib.hid htk
      clear hq hO htk
      replace qo0 : Cl wr.drew ⟨w.heap.size + 1 + 1, 0, none⟩ _ := qo0
      have qo0c := qo0.1
      have qo0l : w.heap.size + 1 + 1 < wr.heap.size := lt_of_cell' qo0c
      replace qo1 : Cl wr.drew ⟨w.heap.size + 1 + 1, 1, none⟩ _ := qo1
      have qo1c := qo1.1
      have qo1l : w.heap.size + 1 + 1 < wr.heap.size := lt_of_cell' qo1c
      replace qs0 : Cl wr.drew ⟨w.heap.size + 1, 0, none⟩ _ := qs0
      have qs0c := qs0.1
      have qs0l : w.heap.size + 1 < wr.heap.size := lt_of_cell' qs0c
      replace qs1 : Cl wr.drew ⟨w.heap.size + 1, 1, none⟩ _ := qs1
      have qs1c := qs1.1
      have qs1l : w.heap.size + 1 < wr.heap.size := lt_of_cell' qs1c
      have qz0 : wr.drew.cell? ⟨w.heap.size, 0, none⟩ = some (.slice (some ⟨b, off, none⟩) xss.length c) := qb0
      have qz1 : wr.drew.cell? ⟨w.heap.size, 1, none⟩ = some (.slice B yss.length d) := qb1
      have hcz : wr.drew.cell? ⟨b, off + k, none⟩ = some (.slice A1 q.length c1) := hc
      have hown0 : wr.drew.ownsRow (w.heap.size + 3) 49 1 (.slice A2 k c2) k cur := hown
      have hlo : ∀ x, At A2 x → (w.heap.size + 3) ≤ x ∧ x < wr.heap.size := fun x hx => own_lo' hown hx
      have hlo' : ∀ x, (∃ o, A2 = some ⟨x, o, none⟩) → w.heap.size ≤ x := fun x hx => by have := hlo x hx; omega
      have HLQ := Lib.hid (show (pv q).length = q.length * 2 by exact (pv_length q))
      have i0k : (0 : Int) ≤ (k : Int) := by omega
      have i1k : (k : Int) < (xss.length : Int) := by omega
      have qoa : (wr.alloc (.cells #[] 34)).cell? ⟨w.heap.size + 1 + 1, 0, none⟩ = some (.slice A2 k c2) := cell_al (show wr.cell? _ = _ from qo0c) _
      have qba : (wr.alloc (.cells #[] 34)).cell? ⟨w.heap.size, 0, none⟩ = some (.slice (some ⟨b, off, none⟩) xss.length c) := cell_al (show wr.cell? _ = _ from qz0) _
      have qca : (wr.alloc (.cells #[] 34)).cell? ⟨b, off + k, none⟩ = some (.slice A1 q.length c1) := cell_al (show wr.cell? _ = _ from hcz) _
      go_wp2_with fail
      go_region_law (first | (refine step_append_ow (by rfl) (.tmp 15) (.tmp 23) _ (by rfl) 49 i0 (.slice none 0 0) 1 24 Try.underlying26 hi0 iz00 iz01 iz02 (by rfl) (by omega) (w.heap.size + 3) A2 k c2 cur (by rfl) (own_below' (own_below' hown0 hb3) ((Below.refl _ _).alloc (Nat.le_refl _) _)) (some ⟨w3.heap.size, 0, none⟩) 1 1 [.slice A3 q.length c3] (by rfl) (by rfl) (Rd.lit (by simp)) (by simp [Value.oneCell']) (by unfold maxLen; omega) (by omega) (by have := hb3.size; simp at this; simp; omega) ?_; intro A4 c4 w4 hO4 hS4 hA4; have P4 := (P3.alloc (.cells #[.slice A3 q.length c3] 49)).outS hS4 (fun hx => by have := (hlo _ hx).1; dsimp only at this; omega); have P4c := P4.1; have P4f := P4.2; have X4 := hS4.cell (cell_al X3 (.cells #[.slice A3 q.length c3] 49)) (fun hx => by have := (hlo _ hx).1; dsimp only at this; omega); have Y4 := hS4.cell (cell_al Y3 (.cells #[.slice A3 q.length c3] 49)) (fun hx => by have := (hlo _ hx).1; have := hbr.size; dsimp only at *; omega)) | (refine step_append_new (by rfl) (.tmp 16) (.tmp 21) _ (by rfl) 34 j0 (.agg #[.int .i64 0, .int .i64 0]) 2 16 Try.underlying49 hj0 jz00 jz01 jz02 (by rfl) (by omega) wr.heap.size (by rfl) (own_lit (by rfl)) A1 q.length c1 (pv q) (by rfl) HLQ.out (hrx'.alloc _) (pv_one _) (by unfold maxLen; omega) (by omega) (by simp) ?_; intro A3 c3 w3 ho3 hS3 hA3; replace ho3 := ho3.1; have hb3 : Below wr.drew.heap.size wr.drew w3 := bel_outS hS3 (fun b hb => by rw [hb]; exact Nat.le_refl _) ((Below.refl _ _).alloc (Nat.le_refl _) _) (Nat.le_refl _); have P3 := Cl.below qo0 hb3; have P3c := P3.1; have P3l := lt_of_cell' P3c; have X3 := keep hb3 qz0; have Y3 := keep hb3 hcz))
      all_goals
        have hz4 := hS4.size
        have hz3 := hb3.size
        simp only [World.size_alloc, World.size_drew] at hz4 hz3
        have hR : ∀ x, At A3 x → wr.heap.size ≤ x ∧ x < w3.heap.size := fun x hx => own_lo' ho3 hx
        have hR4 : w4.ownsRow wr.heap.size 34 2 (.slice A3 q.length c3) q.length (pv q) := own_outS (own_below' ho3 ((Below.refl _ _).alloc (Nat.le_refl _) _)) hS4 (fun x h1 h2 => by have := hR x h1; have := hlo x h2; omega)
        replace qo1 := ((Cl.below qo1 hb3).alloc (.cells #[.slice A3 q.length c3] 49)).outS hS4 (fun hx => by have := (hlo _ hx).1; dsimp only at this; omega)
        replace qs0 := ((Cl.below qs0 hb3).alloc (.cells #[.slice A3 q.length c3] 49)).outS hS4 (fun hx => by have := (hlo _ hx).1; dsimp only at this; omega)
        replace qs1 := ((Cl.below qs1 hb3).alloc (.cells #[.slice A3 q.length c3] 49)).outS hS4 (fun hx => by have := (hlo _ hx).1; dsimp only at this; omega)
        replace qb0 := hS4.cell (cell_al (keep hb3 qz0) (.cells #[.slice A3 q.length c3] 49)) (fun hx => by have := (hlo _ hx).1; dsimp only at this; omega)
        replace qb1 := hS4.cell (cell_al (keep hb3 qz1) (.cells #[.slice A3 q.length c3] 49)) (fun hx => by have := (hlo _ hx).1; dsimp only at this; omega)
        have hA4' : ∀ x, At A4 x → At A2 x ∨ w3.heap.size + 1 ≤ x := fun x hx => by have := at_of hA4 hx; simpa using this
        have hbS : Below w.heap.size w (w4.setCell ⟨w.heap.size + 1 + 1, 0, none⟩ (.slice A4 (k + 1) c4)) := by (repeat' (first | (with_reducible exact Below.refl _ _) | (with_reducible refine bel_alloc ?_ ?_ _) | (with_reducible refine Below.setCell ?_ ?_ _) | (with_reducible refine below_drewN ?_ _) | (with_reducible refine Below.drew ?_) | (with_reducible refine bel_step hbr ?_ ?_) | (with_reducible refine bel_step hb3 ?_ ?_) | (with_reducible refine bel_outS hS4 hlo' ?_ ?_) | (with_reducible exact Nat.le_refl _) | (with_reducible assumption) | omega | (simp only [World.size_alloc, World.size_setCell, World.size_drew]; omega) | (simp; omega) | (simp; done)))
        have hnext : O2 pv 49 34 2 (w4.setCell ⟨w.heap.size + 1 + 1, 0, none⟩ (.slice A4 (k + 1) c4)) (w.heap.size + 3) A4 c4 (cur ++ [.slice A3 q.length c3]) (fun j => if j < (xss.take k).length then hd j else (A3, c3)) (xss.take k ++ [q]) := by
          refine HO.out.snoc (own_outS (S := fun x => x = w.heap.size + 1 + 1) (own_mono hR4 (by omega)) (OutS.set w4 _ rfl) (fun x hx e => by have := hR x hx; omega)) (fun x hx => ⟨(hR x hx).1, fun ha => ?_⟩) ?_ ?_ (fun x hx => ?_)
          · have h1 := hR x hx
            rcases hA4' x ha with h2 | h2
            · have := hlo x h2; omega
            · omega
          · rw [HTK.out]
            exact own_outS (S := fun x => x = w.heap.size + 1 + 1) hO4 (OutS.set w4 _ rfl) (fun x hx e => by rcases hA4' x hx with h2 | h2 <;> first | (have := hlo x h2; omega) | omega)
          · refine OutS.trans (OutS.trans (OutS.of_below (Below.drew (Below.refl _ _))) (OutS.trans (OutS.of_below hb3) ((OutS.of_below ((Below.refl _ _).alloc (Nat.le_refl _) (.cells #[.slice A3 q.length c3] 49))).trans (hS4.mono fun x hx => .inl hx)))) (OutS.set w4 _ (.inr (by omega)))
          · rcases hA4' x hx with h2 | h2
            · exact .inl h2
            · exact .inr (by omega)
        go_wp2
        go_roundw
        case rel => exact ⟨k + 1, A4, c4, _, _, by omega, by go_num, by rw [HS.out]; exact hnext, P4.same _, qo1.other _ (by simp), qs0.other _ (by simp), qs1.other _ (by simp), (World.cell?_setCell_other _ _ _ _ (by simp <;> first | done | omega)).trans qb0, (World.cell?_setCell_other _ _ _ _ (by simp <;> first | done | omega)).trans qb1, by simp; omega, hbS⟩
        case measure => simp [intOf]; omega
    · obtain rfl : k = xss.length := by omega
      have hO' := hO
      rw [List.take_length] at hO'
      have qo0c := qo0.1
      have qo0f := qo0.2
      have qo1c := qo1.1
      have qo1f := qo1.2
      have qs0c := qs0.1
      have qs0f := qs0.2
      have qs1c := qs1.1
      have qs1f := qs1.2
      obtain ⟨mid, hmid⟩ : ∃ m, m = wr.heap.size := ⟨_, rfl⟩
      have hOx := hO'.own2
      rw [← hmid] at hOx
      have OW0 := Lib.hid hOx
      clear hOx
      have hmz : mid ≤ wr.heap.size := by omega
      have hg0z : w.heap.size + 3 ≤ mid := by omega
      clear hmid
      have HC0 := Lib.hid hO'.cap
      obtain ⟨O0, hOe⟩ : ∃ O, O = A2 := ⟨_, rfl⟩
      obtain ⟨e0, hee⟩ : ∃ e, e = c2 := ⟨_, rfl⟩
      clear hO hO' HO
      subst hOe hee
      have hlt0 := hlt
      clear hlt
      go_wp2
      go_loopw [5] (fun v wr => ∃ (k : Nat) (A2 : Option Addr) (c2 : Nat) (cur : List Value) (hd : Nat → Option Addr × Nat), k ≤ yss.length ∧ v = .int .i64 k ∧ O2 iv 24 3 1 wr mid A2 c2 cur hd (yss.take k) ∧ Cl wr ⟨w.heap.size + 1 + 1, 0, none⟩ (.slice O0 xss.length e0) ∧ Cl wr ⟨w.heap.size + 1 + 1, 1, none⟩ (.slice A2 k c2) ∧ Cl wr ⟨w.heap.size + 1, 0, none⟩ (.slice none 0 0) ∧ Cl wr ⟨w.heap.size + 1, 1, none⟩ (.slice none 0 0) ∧ wr.cell? ⟨w.heap.size, 0, none⟩ = some (.slice A xss.length c) ∧ wr.cell? ⟨w.heap.size, 1, none⟩ = some (.slice B yss.length d) ∧ Own2 pv 34 2 wr (w.heap.size + 3) mid O0 xss ∧ mid ≤ wr.heap.size ∧ Below w.heap.size w wr) (fun v _ => yss.length - (intOf v).toNat)
      case atStart => exact ⟨0, none, 0, [], fun _ => (none, 0), Nat.zero_le _, rfl, O2.nil, qo0, qo1, qs0, qs1, qb0, qb1, OW0.out, hmz, hbr⟩
      case round =>
        clear qo0 qo1 qs0 qs1 qb0 qb1 hbr hgz hmz qo0c qo0f qs0c qs0f qo1c qo1f qs1c qs1f
        obtain ⟨k, A2, c2, cur, hd, hk, rfl, hO, qo0, qo1, qs0, qs1, qb0, qb1, ow0, hgz, hbr⟩ := hrel
        have HO := Lib.hid hO
        have OX0 := Lib.hid ow0
        clear ow0
        by_cases hlt : k < yss.length
        · obtain ⟨b, off, A1, c1, rfl, -, hc0, hrx⟩ := hr1.lt.row hlt
          have hbl := lt_of_cell' hc0
          have hc := keep hbr hc0
          have hlm := HM1.out _ (List.getElem_mem hlt)
          have htk : (yss.take k).length = k := by simp; omega
          have hown := hO.own
          rw [htk] at hown
          have hrx' := (hrx.below hbr).drew
          have HS := Lib.hid (List.take_succ_eq_append_getElem hlt)
          obtain ⟨q, hq⟩ : ∃ q, q = yss[k] := ⟨_, rfl⟩
          rw [← hq] at hc0 hc hrx hrx' hlm HS
          have HTK := Lib.hid htk
          clear hq hO htk
          replace qo0 : Cl wr.drew ⟨w.heap.size + 1 + 1, 0, none⟩ _ := qo0
          have qo0c := qo0.1
          have qo0l : w.heap.size + 1 + 1 < wr.heap.size := lt_of_cell' qo0c
          replace qo1 : Cl wr.drew ⟨w.heap.size + 1 + 1, 1, none⟩ _ := qo1
          have qo1c := qo1.1
          have qo1l : w.heap.size + 1 + 1 < wr.heap.size := lt_of_cell' qo1c
          replace qs0 : Cl wr.drew ⟨w.heap.size + 1, 0, none⟩ _ := qs0
          have qs0c := qs0.1
          have qs0l : w.heap.size + 1 < wr.heap.size := lt_of_cell' qs0c
          replace qs1 : Cl wr.drew ⟨w.heap.size + 1, 1, none⟩ _ := qs1
          have qs1c := qs1.1
          have qs1l : w.heap.size + 1 < wr.heap.size := lt_of_cell' qs1c
          have qz0 : wr.drew.cell? ⟨w.heap.size, 0, none⟩ = some (.slice A xss.length c) := qb0
          have qz1 : wr.drew.cell? ⟨w.heap.size, 1, none⟩ = some (.slice (some ⟨b, off, none⟩) yss.length d) := qb1
          have hcz : wr.drew.cell? ⟨b, off + k, none⟩ = some (.slice A1 q.length c1) := hc
          have hown0 : wr.drew.ownsRow mid 24 1 (.slice A2 k c2) k cur := hown
          have hlo : ∀ x, At A2 x → mid ≤ x ∧ x < wr.heap.size := fun x hx => own_lo' hown hx
          have hlo' : ∀ x, (∃ o, A2 = some ⟨x, o, none⟩) → w.heap.size ≤ x := fun x hx => by have := hlo x hx; have := hg0z; omega
          have HLQ := Lib.hid (show (iv q).length = q.length * 1 by exact (by simp))
          have i0k : (0 : Int) ≤ (k : Int) := by omega
          have i1k : (k : Int) < (yss.length : Int) := by omega
          have qoa : (wr.alloc (.cells #[] 3)).cell? ⟨w.heap.size + 1 + 1, 1, none⟩ = some (.slice A2 k c2) := cell_al (show wr.cell? _ = _ from qo1c) _
          have qba : (wr.alloc (.cells #[] 3)).cell? ⟨w.heap.size, 1, none⟩ = some (.slice (some ⟨b, off, none⟩) yss.length d) := cell_al (show wr.cell? _ = _ from qz1) _
          have qca : (wr.alloc (.cells #[] 3)).cell? ⟨b, off + k, none⟩ = some (.slice A1 q.length c1) := cell_al (show wr.cell? _ = _ from hcz) _
          go_wp2_with fail
          go_region_law (first | (refine step_append_ow (by rfl) (.tmp 34) (.tmp 42) _ (by rfl) 24 i1 (.slice none 0 0) 1 24 Try.underlying27 hi1 iz10 iz11 iz12 (by rfl) (by omega) mid A2 k c2 cur (by rfl) (own_below' (own_below' hown0 hb3) ((Below.refl _ _).alloc (Nat.le_refl _) _)) (some ⟨w3.heap.size, 0, none⟩) 1 1 [.slice A3 q.length c3] (by rfl) (by rfl) (Rd.lit (by simp)) (by simp [Value.oneCell']) (by unfold maxLen; omega) (by omega) (by have := hb3.size; simp at this; simp; omega) ?_; intro A4 c4 w4 hO4 hS4 hA4; have P4 := (P3.alloc (.cells #[.slice A3 q.length c3] 24)).outS hS4 (fun hx => by have := (hlo _ hx).1; dsimp only at this; have := hg0z; omega); have P4c := P4.1; have P4f := P4.2; have X4 := hS4.cell (cell_al X3 (.cells #[.slice A3 q.length c3] 24)) (fun hx => by have := (hlo _ hx).1; dsimp only at this; have := hg0z; omega); have Y4 := hS4.cell (cell_al Y3 (.cells #[.slice A3 q.length c3] 24)) (fun hx => by have := (hlo _ hx).1; have := hbr.size; dsimp only at *; omega)) | (refine step_append_new (by rfl) (.tmp 35) (.tmp 40) _ (by rfl) 3 j1 (.int .i64 0) 1 8 Try.underlying24 hj1 jz10 jz11 jz12 (by rfl) (by omega) wr.heap.size (by rfl) (own_lit (by rfl)) A1 q.length c1 (iv q) (by rfl) HLQ.out (hrx'.alloc _) (iv_one _) (by unfold maxLen; omega) (by omega) (by simp) ?_; intro A3 c3 w3 ho3 hS3 hA3; replace ho3 := ho3.1; have hb3 : Below wr.drew.heap.size wr.drew w3 := bel_outS hS3 (fun b hb => by rw [hb]; exact Nat.le_refl _) ((Below.refl _ _).alloc (Nat.le_refl _) _) (Nat.le_refl _); have P3 := Cl.below qo1 hb3; have P3c := P3.1; have P3l := lt_of_cell' P3c; have X3 := keep hb3 qz1; have Y3 := keep hb3 hcz))
          all_goals
            have hz4 := hS4.size
            have hz3 := hb3.size
            simp only [World.size_alloc, World.size_drew] at hz4 hz3
            have hR : ∀ x, At A3 x → wr.heap.size ≤ x ∧ x < w3.heap.size := fun x hx => own_lo' ho3 hx
            have hR4 : w4.ownsRow wr.heap.size 3 1 (.slice A3 q.length c3) q.length (iv q) := own_outS (own_below' ho3 ((Below.refl _ _).alloc (Nat.le_refl _) _)) hS4 (fun x h1 h2 => by have := hR x h1; have := hlo x h2; omega)
            replace qo0 := ((Cl.below qo0 hb3).alloc (.cells #[.slice A3 q.length c3] 24)).outS hS4 (fun hx => by have := (hlo _ hx).1; dsimp only at this; have := hg0z; omega)
            replace qs0 := ((Cl.below qs0 hb3).alloc (.cells #[.slice A3 q.length c3] 24)).outS hS4 (fun hx => by have := (hlo _ hx).1; dsimp only at this; have := hg0z; omega)
            replace qs1 := ((Cl.below qs1 hb3).alloc (.cells #[.slice A3 q.length c3] 24)).outS hS4 (fun hx => by have := (hlo _ hx).1; dsimp only at this; have := hg0z; omega)
            replace qb0 := hS4.cell (cell_al (keep hb3 qz0) (.cells #[.slice A3 q.length c3] 24)) (fun hx => by have := (hlo _ hx).1; dsimp only at this; have := hg0z; omega)
            replace qb1 := hS4.cell (cell_al (keep hb3 qz1) (.cells #[.slice A3 q.length c3] 24)) (fun hx => by have := (hlo _ hx).1; dsimp only at this; have := hg0z; omega)
            have oy0 := ((OX0.out.drew.below hb3).alloc (.cells #[.slice A3 q.length c3] 24)).outS hS4 (fun x h1 h2 hx => by have := (hlo x hx).1; omega)
            have oz0 := oy0.setOut (g := w.heap.size + 1 + 1) (o := 1) (.slice A4 (k + 1) c4) (by exact .inl (by omega))
            have hA4' : ∀ x, At A4 x → At A2 x ∨ w3.heap.size + 1 ≤ x := fun x hx => by have := at_of hA4 hx; simpa using this
            have hbS : Below w.heap.size w (w4.setCell ⟨w.heap.size + 1 + 1, 1, none⟩ (.slice A4 (k + 1) c4)) := by (repeat' (first | (with_reducible exact Below.refl _ _) | (with_reducible refine bel_alloc ?_ ?_ _) | (with_reducible refine Below.setCell ?_ ?_ _) | (with_reducible refine below_drewN ?_ _) | (with_reducible refine Below.drew ?_) | (with_reducible refine bel_step hbr ?_ ?_) | (with_reducible refine bel_step hb3 ?_ ?_) | (with_reducible refine bel_outS hS4 hlo' ?_ ?_) | (with_reducible exact Nat.le_refl _) | (with_reducible assumption) | omega | (simp only [World.size_alloc, World.size_setCell, World.size_drew]; omega) | (simp; omega) | (simp; done)))
            have hnext : O2 iv 24 3 1 (w4.setCell ⟨w.heap.size + 1 + 1, 1, none⟩ (.slice A4 (k + 1) c4)) mid A4 c4 (cur ++ [.slice A3 q.length c3]) (fun j => if j < (yss.take k).length then hd j else (A3, c3)) (yss.take k ++ [q]) := by
              refine HO.out.snoc (own_outS (S := fun x => x = w.heap.size + 1 + 1) (own_mono hR4 (by omega)) (OutS.set w4 _ rfl) (fun x hx e => by have := hR x hx; omega)) (fun x hx => ⟨(hR x hx).1, fun ha => ?_⟩) ?_ ?_ (fun x hx => ?_)
              · have h1 := hR x hx
                rcases hA4' x ha with h2 | h2
                · have := hlo x h2; omega
                · omega
              · rw [HTK.out]
                exact own_outS (S := fun x => x = w.heap.size + 1 + 1) hO4 (OutS.set w4 _ rfl) (fun x hx e => by rcases hA4' x hx with h2 | h2 <;> first | (have := hlo x h2; omega) | omega)
              · refine OutS.trans (OutS.trans (OutS.of_below (Below.drew (Below.refl _ _))) (OutS.trans (OutS.of_below hb3) ((OutS.of_below ((Below.refl _ _).alloc (Nat.le_refl _) (.cells #[.slice A3 q.length c3] 24))).trans (hS4.mono fun x hx => .inl hx)))) (OutS.set w4 _ (.inr (by omega)))
              · rcases hA4' x hx with h2 | h2
                · exact .inl h2
                · exact .inr (by omega)
            go_wp2
            go_roundw
            case rel => exact ⟨k + 1, A4, c4, _, _, by omega, by go_num, by rw [HS.out]; exact hnext, qo0.other _ (by simp), P4.same _, qs0.other _ (by simp), qs1.other _ (by simp), (World.cell?_setCell_other _ _ _ _ (by simp <;> first | done | omega)).trans qb0, (World.cell?_setCell_other _ _ _ _ (by simp <;> first | done | omega)).trans qb1, oz0, by simp; omega, hbS⟩
            case measure => simp [intOf]; omega
        · obtain rfl : k = yss.length := by omega
          have hO' := hO
          rw [List.take_length] at hO'
          have HC1 := Lib.hid hO'.cap
          have R1 : Own2 iv 3 1 ((wr.setCell ⟨w.heap.size + 1, 0, none⟩ (.slice O0 xss.length e0)).setCell ⟨w.heap.size + 1, 1, none⟩ (.slice A2 yss.length c2)) mid wr.heap.size A2 yss := ((hO'.own2.setOut (o := 0) (.slice O0 xss.length e0) (.inl (by omega))).setOut (o := 1) (.slice A2 yss.length c2) (.inl (by omega)))
          have R0 : Own2 pv 34 2 ((wr.setCell ⟨w.heap.size + 1, 0, none⟩ (.slice O0 xss.length e0)).setCell ⟨w.heap.size + 1, 1, none⟩ (.slice A2 yss.length c2)) (w.heap.size + 3) mid O0 xss := ((OX0.out.setOut (o := 0) (.slice O0 xss.length e0) (.inl (by omega))).setOut (o := 1) (.slice A2 yss.length c2) (.inl (by omega)))
          have HR0 := Lib.hid R0
          clear R0
          have HR1 := Lib.hid R1
          clear R1
          have hbW : Below w.heap.size w ((wr.setCell ⟨w.heap.size + 1, 0, none⟩ (.slice O0 xss.length e0)).setCell ⟨w.heap.size + 1, 1, none⟩ (.slice A2 yss.length c2)) := by (repeat' (first | (with_reducible exact Below.refl _ _) | (with_reducible refine bel_alloc ?_ ?_ _) | (with_reducible refine Below.setCell ?_ ?_ _) | (with_reducible refine below_drewN ?_ _) | (with_reducible refine Below.drew ?_) | (with_reducible refine bel_step hbr ?_ ?_) | (with_reducible exact Nat.le_refl _) | (with_reducible assumption) | omega | (simp only [World.size_alloc, World.size_setCell, World.size_drew]; omega) | (simp; omega) | (simp; done)))
          have hres0 := ((qs0.same (.slice O0 xss.length e0)).other (q := ⟨w.heap.size + 1, 1, none⟩) (.slice A2 yss.length c2) (by simp)).1
          have hres1 := ((qs1.other (q := ⟨w.heap.size + 1, 0, none⟩) (.slice O0 xss.length e0) (by simp)).same (.slice A2 yss.length c2)).1
          have qo0c := qo0.1
          have qo0f := qo0.2
          have qo1c := qo1.1
          have qo1f := qo1.2
          have qs0c := qs0.1
          have qs0f := qs0.2
          have qs1c := qs1.1
          have qs1f := qs1.2
          have qs1x := qs1.other (q := ⟨w.heap.size + 1, 0, none⟩) (.slice O0 xss.length e0) (by simp)
          have qs1xc := qs1x.1
          have qs1xf := qs1x.2
          clear hO hO' HO
          go_wp2
          exact bodyPost_ret (v := .agg #[.slice O0 xss.length e0, .slice A2 yss.length c2]) (by simp [results, Try.results56, go_sem, hres0, hres1]) rfl ⟨O0, e0, A2, c2, mid, rfl, HC0.out, HC1.out, HR0.out.mono (by omega), HR1.out.mono2 (by simp) (Nat.le_refl _), by omega, by simp; omega, hbW⟩

end Go.Proofs.Ytggigndkamkclaa
