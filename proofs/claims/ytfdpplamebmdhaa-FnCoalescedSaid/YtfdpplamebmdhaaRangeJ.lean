/- l19Join, of the reference. -/
import Derived.Test.YtfdpplamebmdhaaRangeQ
import Derived.Deep.RegionLaw
namespace Go.Proofs.Ytfdpplamebmdhaa
open Go.ChangeShapes Go.WideShapes Go.ChangeAt Go.RowKit
set_option linter.unusedVariables false

def MadeRS (ys : List Rg) (w : World) (e : Ending) (w' : World) : Prop :=
  ∃ A c S, e = .returned (.slice A ys.length c) ∧ Wr w' S A (pv ys) ∧ New S w w' ∧ Below w.heap.size w w' ∧ (ys.length ≤ c ∧ c ≤ maxLen)
theorem made_rs {w w' : World} {xs : List Rg} {lo : Nat} {A : Option Addr} {c n : Nat} (hn : n = xs.length) (h : w'.ownsRow lo 42 2 (.slice A n c) n (pv xs)) (hl : w.heap.size ≤ lo) (hb : Below w.heap.size w w') : MadeRS xs w (.returned (.slice A n c)) w' := by
  subst hn
  have ho := Ow.mk' h
  obtain ⟨S, hW, hN⟩ := ho.wr.new w.heap.size (fun b h => by omega)
  exact ⟨A, c, S, rfl, hW, hN, hb, ho.cap⟩
def B32 (x : Rg) : Prop := 0 ≤ x.1 ∧ 1 ≤ x.2 ∧ x.1 + x.2 ≤ 32
def jf (l : List Rg) (k : Nat) : List Rg := (l.take k).foldl jstep []
theorem jf_succ {l : List Rg} {k : Nat} (h : k < l.length) : jf l (k + 1) = jstep (jf l k) l[k] := by
  rw [jf, List.take_succ_eq_append_getElem h, List.foldl_append]
  rfl
theorem jstep_nil (x : Rg) : jstep [] x = [x] := rfl
theorem jstep_snoc (o : List Rg) (c x : Rg) : jstep (o ++ [c]) x = if c.1 + c.2 = x.1 then o ++ [(c.1, c.2 + x.2)] else (o ++ [c]) ++ [x] := by
  simp [jstep]
theorem pv_set_last (o : List Rg) (a b b' : Int) : (pv (o ++ [(a, b)])).set (o.length * 2 + 1) (.int .i64 b') = pv (o ++ [(a, b')]) := by
  have h : (pv o).length = o.length * 2 := pv_length o
  rw [pv_app, pv_app, List.set_append_right _ _ (by omega), h, show o.length * 2 + 1 - o.length * 2 = 1 by omega]
  rfl
set_option maxRecDepth 100000 in
set_option maxHeartbeats 8000000 in
theorem join_s (A : Option Addr) (c : Nat) (l : List Rg) (w : World) {B : Nat} (hr : Rd w B A (pv l)) (hn : l.length ≤ 100) (hb32 : ∀ x ∈ l, B32 x) :
    Calls Try.prog 47 #[.slice A l.length c] w (MadeRS (join l) w) := by
  obtain ⟨i0, hi, iz0, iz1, iz2⟩ := info_parts infoRange
  have HB := Lib.hid hb32
  clear hb32
  have hO0 : (w.alloc (.cells #[] 42)).ownsRow w.heap.size 42 2 (.slice (some ⟨w.heap.size, 0, none⟩) 0 0) 0 [] := own_lit rfl
  go_enter Try.func47, Try.ntmps47
  go_wp2
  go_loopw [3, 4] (fun u v wr => ∃ (k : Nat) (A2 : Option Addr) (c2 : Nat) (cur : List Rg), k ≤ l.length ∧ v = .int .i64 k ∧ u = .slice A2 cur.length c2 ∧ cur = jf l k ∧ cur.length ≤ k ∧ (∀ x ∈ cur, B32 x) ∧ wr.ownsRow w.heap.size 42 2 (.slice A2 cur.length c2) cur.length (pv cur) ∧ w.heap.size ≤ wr.heap.size ∧ Below w.heap.size w wr) (fun _ v _ => l.length - (intOf v).toNat)
  case atStart => exact ⟨0, some ⟨w.heap.size, 0, none⟩, 0, [], Nat.zero_le _, rfl, rfl, rfl, by simp, by simp, hO0, by simp, by (repeat' (first | (with_reducible exact Below.refl _ _) | (with_reducible refine bel_alloc ?_ ?_ _) | (with_reducible refine Below.setCell ?_ ?_ _) | (with_reducible refine below_drewN ?_ _) | (with_reducible refine Below.drew ?_) | (with_reducible exact Nat.le_refl _) | (with_reducible assumption) | omega | (simp only [World.size_alloc, World.size_setCell, World.size_drew]; omega) | (simp; omega) | (simp; done)))⟩
  case round =>
    obtain ⟨k, A2, c2, cur, hk, rfl, rfl, hcur, hcl, hcb, hown, hg, hbr⟩ := hrel
    have HC := Lib.hid hcur
    have HCB := Lib.hid hcb
    have hapt := own_lo' hown
    clear hcur hcb hO0
    by_cases hlt : k < l.length
    · obtain ⟨b3, off3, rfl, -, hx0, hx1⟩ := (hr.lt.below hbr).pair hlt
      have hxB := HB.out _ (List.getElem_mem hlt)
      have HJ := Lib.hid (jf_succ hlt)
      obtain ⟨x, hx⟩ : ∃ x, x = l[k] := ⟨_, rfl⟩
      rw [← hx] at hx0 hx1 hxB HJ
      clear hx
      obtain ⟨x1, x2⟩ := x
      obtain ⟨hxa, hxb, hxc⟩ := hxB
      dsimp only at hx0 hx1 hxa hxb hxc
      have i0k : (0 : Int) ≤ (k : Int) := by omega
      have i1k : (k : Int) < (l.length : Int) := by omega
      rcases List.eq_nil_or_concat cur with hnil | ⟨o, cc, hcc⟩
      · have HN := Lib.hid (show jf l (k + 1) = [] ++ [(x1, x2)] by rw [HJ.out, ← HC.out, hnil, jstep_nil]; rfl)
        subst hnil
        have hzb := hbr.size
        go_wp2_with fail
        go_quiet (fail)
        go_wp2_with (at_builtin; refine wpList_append_ow rfl (.tmp 55) (.tmp 60) _ rfl 42 i0 (.agg #[.int .i64 0, .int .i64 0]) 2 16 Try.underlying25 hi iz0 iz1 iz2 rfl (by omega) w.heap.size A2 0 c2 (pv []) rfl (own_below' hown (by (repeat' (first | (with_reducible exact Below.refl _ _) | (with_reducible refine bel_alloc ?_ ?_ _) | (with_reducible refine Below.setCell ?_ ?_ _) | (with_reducible refine below_drewN ?_ _) | (with_reducible refine Below.drew ?_) | (with_reducible exact Nat.le_refl _) | (with_reducible assumption) | omega | (simp only [World.size_alloc, World.size_setCell, World.size_drew]; omega) | (simp; omega) | (simp; done))))) (some ⟨wr.heap.size, 0, none⟩) 1 1 (pv [(x1, x2)]) rfl rfl (Rd.lit (by simp)) (pv_one _) (by unfold maxLen; omega) (by omega) (by simp; omega) ?_; intro A4 c4 w4 hO4 hS4 hA4)
        have hz4 : wr.heap.size + 1 ≤ w4.heap.size := by have h := hS4.size; simp only [World.size_alloc] at h; exact h
        rw [← pv_app] at hO4
        go_roundw
        case rel =>
          refine ⟨k + 1, A4, c4, [] ++ [(x1, x2)], by omega, by go_num, ?_, HN.out.symm, by simp <;> omega, ?_, ?_, by omega, ?_⟩
          · simp
          · intro z hz
            rcases List.mem_append.1 hz with hz | hz
            · exact HCB.out z hz
            · simp at hz
              subst hz
              exact ⟨hxa, hxb, hxc⟩
          · have h2 := hO4
            simpa using h2
          · exact bel_outS hS4 (fun y hy => hapt y hy) (by (repeat' (first | (with_reducible exact Below.refl _ _) | (with_reducible refine bel_alloc ?_ ?_ _) | (with_reducible refine Below.setCell ?_ ?_ _) | (with_reducible refine below_drewN ?_ _) | (with_reducible refine Below.drew ?_) | (with_reducible refine bel_step hbr ?_ ?_) | (with_reducible exact Nat.le_refl _) | (with_reducible assumption) | omega | (simp only [World.size_alloc, World.size_setCell, World.size_drew]; omega) | (simp; omega) | (simp; done)))) (Nat.le_refl _)
        case measure => simp [intOf]; omega
      · obtain ⟨ca, cb⟩ := cc
        rw [List.concat_eq_append] at hcc
        have hccB := HCB.out (ca, cb) (by rw [hcc]; simp)
        obtain ⟨hca, hcb, hcc2⟩ := hccB
        dsimp only at hca hcb hcc2
        have hlen : cur.length = o.length + 1 := by rw [hcc]; simp
        obtain ⟨g, rfl, hgl, hgh⟩ := (Ow.mk' hown).some_ (by omega)
        have hc0 : wr.cell? ⟨g, o.length * 2, none⟩ = some (.int .i64 ca) := by
          rw [hown.cellAt _ (by omega), (pv_at cur (k := o.length) (by omega)).1]
          simp [hcc]
        have hc1 : wr.cell? ⟨g, o.length * 2 + 1, none⟩ = some (.int .i64 cb) := by
          rw [hown.cellAt _ (by omega), (pv_at cur (k := o.length) (by omega)).2]
          simp [hcc]
        have hf1 := hown.frozenAt (o.length * 2 + 1)
        have HCC := Lib.hid hcc
        rw [hlen] at hown hcl
        have HL := Lib.hid hlen
        clear hcc
        rw [hlen]
        clear hlen
        have j0 : (0 : Int) ≤ (o.length : Int) := by omega
        have hol : o.length ≤ 100 := by omega
        have jw : IntKind.i64.wrap (o.length : Int) = (o.length : Int) := IntWalk.i64_in _ (by omega)
        have j1 : (o.length : Int) < (o.length : Int) + 1 := by omega
        have j2 : (o.length : Int) < ((o.length + 1 : Nat) : Int) := by omega
        by_cases e1 : ca + cb = x1
        · have HN := Lib.hid (show jf l (k + 1) = o ++ [(ca, cb + x2)] by rw [HJ.out, ← HC.out, HCC.out, jstep_snoc, if_pos e1])
          have hb1 : (ca + cb == x1) = true := by simp [e1]
          have HE1 := Lib.hid e1
          have hw1 : ca + (cb + x2) ≤ 32 := by omega
          have jw2 : IntKind.i64.wrap (cb + x2) = cb + x2 := IntWalk.i64_in _ (by omega)
          clear e1
          have HPS := Lib.hid (pv_set_last o ca cb (cb + x2))
          go_wp2_with fail
          go_quiet (fail)
          go_wp2_with fail
          go_region_law (fail)
          all_goals
            have hst := hown.stored (o.length * 2 + 1) (.int .i64 (cb + x2))
            go_wp2
            go_roundw
            case rel =>
              refine ⟨k + 1, some ⟨g, 0, none⟩, c2, o ++ [(ca, cb + x2)], by omega, by go_num, by simp, HN.out.symm, by simp; omega, ?_, ?_, by simp; omega, ?_⟩
              · intro z hz
                rcases List.mem_append.1 hz with hz | hz
                · exact HCB.out z (by rw [HCC.out]; exact List.mem_append_left _ hz)
                · simp at hz
                  subst hz
                  exact ⟨hca, by simp only; omega, by simp only; omega⟩
              · have h2 := hst.1
                rw [HCC.out, HPS.out] at h2
                have e : (o ++ [(ca, cb + x2)]).length = o.length + 1 := by simp
                rw [e]
                exact h2
              · (repeat' (first | (with_reducible exact Below.refl _ _) | (with_reducible refine bel_alloc ?_ ?_ _) | (with_reducible refine Below.setCell ?_ ?_ _) | (with_reducible refine below_drewN ?_ _) | (with_reducible refine Below.drew ?_) | (with_reducible refine bel_step hbr ?_ ?_) | (with_reducible exact Nat.le_refl _) | (with_reducible assumption) | omega | (simp only [World.size_alloc, World.size_setCell, World.size_drew]; omega) | (simp; omega) | (simp; done)))
            case measure => simp [intOf]; omega
        · have HN := Lib.hid (show jf l (k + 1) = cur ++ [(x1, x2)] by rw [HJ.out, ← HC.out, HCC.out, jstep_snoc, if_neg e1])
          have hb1 : (ca + cb == x1) = false := by simp [e1]
          clear e1
          have hzb := hbr.size
          go_wp2_with fail
          go_quiet (fail)
          go_wp2_with (at_builtin; refine wpList_append_ow rfl (.tmp 55) (.tmp 60) _ rfl 42 i0 (.agg #[.int .i64 0, .int .i64 0]) 2 16 Try.underlying25 hi iz0 iz1 iz2 rfl (by omega) w.heap.size (some ⟨g, 0, none⟩) (o.length + 1) c2 (pv cur) rfl (own_below' hown (by (repeat' (first | (with_reducible exact Below.refl _ _) | (with_reducible refine bel_alloc ?_ ?_ _) | (with_reducible refine Below.setCell ?_ ?_ _) | (with_reducible refine below_drewN ?_ _) | (with_reducible refine Below.drew ?_) | (with_reducible exact Nat.le_refl _) | (with_reducible assumption) | omega | (simp only [World.size_alloc, World.size_setCell, World.size_drew]; omega) | (simp; omega) | (simp; done))))) (some ⟨wr.heap.size, 0, none⟩) 1 1 (pv [(x1, x2)]) rfl rfl (Rd.lit (by simp)) (pv_one _) (by unfold maxLen; omega) (by omega) (by simp; omega) ?_; intro A4 c4 w4 hO4 hS4 hA4)
          have hz4 : wr.heap.size + 1 ≤ w4.heap.size := by have h := hS4.size; simp only [World.size_alloc] at h; exact h
          rw [← pv_app] at hO4
          go_roundw
          case rel =>
            refine ⟨k + 1, A4, c4, cur ++ [(x1, x2)], by omega, by go_num, ?_, HN.out.symm, by (have := HL.out; simp <;> omega), ?_, ?_, by omega, ?_⟩
            · simp [HL.out]
            · intro z hz
              rcases List.mem_append.1 hz with hz | hz
              · exact HCB.out z hz
              · simp at hz
                subst hz
                exact ⟨hxa, hxb, hxc⟩
            · have h2 := hO4
              simpa [HL.out] using h2
            · exact bel_outS hS4 (fun y hy => hapt y hy) (by (repeat' (first | (with_reducible exact Below.refl _ _) | (with_reducible refine bel_alloc ?_ ?_ _) | (with_reducible refine Below.setCell ?_ ?_ _) | (with_reducible refine below_drewN ?_ _) | (with_reducible refine Below.drew ?_) | (with_reducible refine bel_step hbr ?_ ?_) | (with_reducible exact Nat.le_refl _) | (with_reducible assumption) | omega | (simp only [World.size_alloc, World.size_setCell, World.size_drew]; omega) | (simp; omega) | (simp; done)))) (Nat.le_refl _)
          case measure => simp [intOf]; omega
    · obtain rfl : k = l.length := by omega
      have HE := Lib.hid (show join l = cur by rw [HC.out, jf, List.take_length, jstep_join])
      go_wp2
      go_ret
      rw [HE.out]
      exact made_rs rfl hown (Nat.le_refl _) hbr
end Go.Proofs.Ytfdpplamebmdhaa
