/- The walk of FnInOrder. -/
import Derived.Test.YtggigndkamkclaaPlaces
import Derived.Test.YtggigndkamkclaaMailV
import Derived.Deep.RegionLaw
import Derived.Deep.DrawnRows
namespace Go.Proofs.Ytggigndkamkclaa
open Go.ChangeShapes Go.WideShapes Go.ChangeAt Go.RowKit
set_option linter.unusedVariables false
set_option linter.unusedSimpArgs false

def St3 (g : Nat) (w : World) (b0 b1 : List Po) (L : List Int) : Prop :=
  ∃ A c B d S T, Cl w ⟨g, 0, none⟩ (.slice A 3 c) ∧ Cl w ⟨g, 1, none⟩ (.slice B 3 d) ∧ Wr2 pv w S A (xs3 b0 b1) ∧ Wr2 iv w T B (ys3 L) ∧ (∀ b, S b → b ≠ g) ∧ (∀ b, T b → b ≠ g) ∧ g < w.heap.size
theorem St3.set {g : Nat} {w : World} {b0 b1 : List Po} {L : List Int} {A B : Option Addr} {c d : Nat} {S T : Nat → Prop} {u v : Value} (h0 : Cl w ⟨g, 0, none⟩ u) (h1 : Cl w ⟨g, 1, none⟩ v) (hW : Wr2 pv w S A (xs3 b0 b1)) (hT : Wr2 iv w T B (ys3 L)) (hS : ∀ b, S b → b ≠ g) (hT2 : ∀ b, T b → b ≠ g) :
    St3 g ((w.setCell ⟨g, 0, none⟩ (.slice A 3 c)).setCell ⟨g, 1, none⟩ (.slice B 3 d)) b0 b1 L :=
  ⟨A, c, B, d, S, T, (h0.same _).other _ (by simp), (h1.other _ (by simp)).same _, (hW.setOut _ (fun h => hS _ h rfl)).setOut _ (fun h => hS _ h rfl), (hT.setOut _ (fun h => hT2 _ h rfl)).setOut _ (fun h => hT2 _ h rfl), hS, hT2, by simp; exact lt_of_cell' h0.1⟩
/-- What a new entry must exceed: the last of its sender. -/
def Gr (i : Nat) (l : Int) (p : Int → Prop) (L : List Int) : Prop := ∀ j (hj : j < L.length), i ≤ j → p L[j] → l < L[j]
set_option maxRecDepth 100000 in
set_option maxHeartbeats 16000000 in
theorem law_inOrder (A : Option Addr) (c : Nat) (bs : List Int) (w : World) (hr : Rd w w.heap.size A (bv bs)) (hbb : ∀ b ∈ bs, 0 ≤ b ∧ b ≤ 255) :
    Calls Try.prog 3 #[.slice A bs.length c] w fun e w' => e = .returned (.bool true) ∧ Below w.heap.size w w' := by
  by_cases hbig : (1048576 : Int) < bs.length
  · go_enter Try.func3, Try.ntmps3
    go_wp2_with (go_at_call 11; refine (big_any _ _ _ _).mono ?_; rintro e w1 ⟨rfl, rfl⟩)
    go_ret
    exact ⟨rfl, by (repeat' (first | (with_reducible exact Below.refl _ _) | (with_reducible refine bel_alloc ?_ ?_ _) | (with_reducible refine Below.setCell ?_ ?_ _) | (with_reducible refine below_drewN ?_ _) | (with_reducible refine Below.drew ?_) | (with_reducible exact Nat.le_refl _) | (with_reducible assumption) | omega | (simp only [World.size_alloc, World.size_setCell, World.size_drew]; omega) | (simp; omega) | (simp; done)))⟩
  · have hb : Bytes bs := ⟨by omega, hbb⟩
    go_enter Try.func3, Try.ntmps3
    go_wp2_with (go_at_call 11; refine (big_any _ _ _ _).mono ?_; rintro e w ⟨rfl, rfl⟩)
    refine (places_any _ A c bs _ hb hr (Nat.le_refl _)).mono ?_
    rintro e w1 ⟨A1, c1, xs, rfl, hp, ho, hb1⟩
    obtain ⟨gp, rfl, hg1, hg2, P, hP, hcell⟩ := places_at ho hp
    have HP := Lib.hid hP
    have HCE := Lib.hid hcell
    clear hP hcell ho hp
    go_wp2_with fail
    refine (new3 _).mono ?_
    rintro e w2 ⟨A2, c2, B2, d2, S2, T2, rfl, hW2, hT2, hN2, hM2, hb2⟩
    have hz2 := hb2.size
    obtain ⟨g, hg⟩ : ∃ g, g = w2.heap.size := ⟨_, rfl⟩
    have HG := Lib.hid hg
    have hgw : w1.heap.size ≤ g := by omega
    have hS2 : ∀ b, S2 b → b ≠ g := fun b hb => by have := (hN2 b hb).2; omega
    have hTT : ∀ b, T2 b → b ≠ g := fun b hb => by have := (hM2 b hb).2; omega
    have g0 : Cl (w2.alloc (.cells #[.slice A2 3 c2, .slice B2 3 d2] 29)) ⟨g, 0, none⟩ (.slice A2 3 c2) := Cl.new hg rfl
    have g1 : Cl (w2.alloc (.cells #[.slice A2 3 c2, .slice B2 3 d2] 29)) ⟨g, 1, none⟩ (.slice B2 3 d2) := Cl.new hg rfl
    have hst : St3 g (w2.alloc (.cells #[.slice A2 3 c2, .slice B2 3 d2] 29)) [] [] [] := ⟨A2, c2, B2, d2, S2, T2, g0, g1, hW2.alloc _, hT2.alloc _, hS2, hTT, by simp; omega⟩
    have hbw0 : Below w1.heap.size w1 (w2.alloc (.cells #[.slice A2 3 c2, .slice B2 3 d2] 29)) := by (repeat' (first | (with_reducible exact Below.refl _ _) | (with_reducible refine bel_alloc ?_ ?_ _) | (with_reducible refine Below.setCell ?_ ?_ _) | (with_reducible refine below_drewN ?_ _) | (with_reducible refine Below.drew ?_) | (with_reducible refine bel_step hb2 ?_ ?_) | (with_reducible exact Nat.le_refl _) | (with_reducible assumption) | omega | (simp only [World.size_alloc, World.size_setCell, World.size_drew]; omega) | (simp; omega) | (simp; done)))
    have hbw1 : Below w.heap.size w w1 := hb1
    clear hg hW2 hT2 hN2 hM2 g0 g1 hS2 hTT
    go_wp2
    simp only [← HG.out]
    go_loopw [6] (fun v wr => ∃ (n : Nat) (b0 b1 : List Po) (L : List Int), n ≤ 6 ∧ v = .int .i64 n ∧ Q3 n b0 b1 L ∧ St3 g wr b0 b1 L ∧ Below w1.heap.size w1 wr) (fun v _ => 6 - (intOf v).toNat)
    case atStart => exact ⟨0, [], [], [], by omega, rfl, Q3.nil, hst, hbw0⟩
    case round =>
      obtain ⟨n, b0, b1, L, hn, rfl, hq, hs3, hbr⟩ := hrel
      clear hst hbw0 hb2 hz2
      have HQ := Lib.hid hq
      clear hq
      by_cases hlt : n < 6
      · obtain ⟨A3, c3, B3, d3, S3, T3, g0, g1, hW, hT, hS, hTd, hgl⟩ := hs3
        have hi0 : (0 : Int) ≤ (n : Int) := by omega
        have hi6 : (n : Int) < 6 := by omega
        have hi12 : (n : Int) < 12 := by omega
        have hpc := keep hbr (HCE.out n (by omega))
        have hpb := HP.out n (by omega)
        obtain ⟨pi, hpi⟩ : ∃ pi, pi = P n := ⟨_, rfl⟩
        rw [← hpi] at hpc hpb
        clear hpi
        have hpd : wr.drew.cell? ⟨gp, n, none⟩ = some (.int .i64 pi) := hpc
        have g0d : wr.drew.cell? ⟨g, 0, none⟩ = some (.slice A3 3 c3) := g0.1
        have g1d : wr.drew.cell? ⟨g, 1, none⟩ = some (.slice B3 3 d3) := g1.1
        have hWd := hW.drew.rd
        have hTD := hT.drew.rd
        have hm : pi.tmod 2 = 0 ∨ pi.tmod 2 = 1 := by
          rw [Int.tmod_eq_emod_of_nonneg hpb.1]; omega
        have lpc := lt_of_cell' hpc
        have hx0 : IntKind.i64.wrap 0 = 0 := IntWalk.i64_in _ (by omega)
        have hx1 : IntKind.i64.wrap 10 = 10 := IntWalk.i64_in _ (by omega)
        have hx2 : IntKind.i64.wrap (n : Int) = (n : Int) := IntWalk.i64_in _ (by omega)
        have hx3 : IntKind.i64.wrap (10 + (n : Int)) = 10 + (n : Int) := IntWalk.i64_in _ (by omega)
        have hx4 : IntKind.i64.wrap (0 + (n : Int)) = (n : Int) := by rw [Int.zero_add]; exact hx2
        rcases hm with hm | hm
        · go_wp2_with fail
          go_region_law (first | (go_simp; go_at_call 14; refine (send3_0 HQ.out _ _ _ _ _ hWd hTD hlt).mono ?_; rintro e w5 ⟨A5, c5, B5, d5, S5, T5, rfl, hW5, hT5, hN5, hM5, hb5⟩; have g05 := Cl.below (w := wr.drew) g0 hb5; have g15 := Cl.below (w := wr.drew) g1 hb5; have g05c := g05.1; have g05f := g05.2; have g15c := g15.1; have g15f := g15.2) | fail)
          all_goals
            go_wp2
            go_roundw
            case rel =>
              refine ⟨n + 1, b0 ++ [(2, (n : Int))], b1, L, by omega, by go_num, HQ.out.send0 hlt, St3.set g05 g15 hW5 hT5 (fun b h => by have := (hN5 b h).1; simp only [World.size_drew] at this; omega) (fun b h => by have := (hM5 b h).1; simp only [World.size_drew] at this; omega), ?_⟩
              exact ((bel_step hb5 (Below.drew hbr) (Nat.le_refl _)).setCell hgw _).setCell hgw _
            case measure => simp [intOf]; omega
        · go_wp2_with fail
          go_region_law (first | (go_simp; go_at_call 14; refine (send3_1 HQ.out _ _ _ _ _ hWd hTD hlt).mono ?_; rintro e w5 ⟨A5, c5, B5, d5, S5, T5, rfl, hW5, hT5, hN5, hM5, hb5⟩; have g05 := Cl.below (w := wr.drew) g0 hb5; have g15 := Cl.below (w := wr.drew) g1 hb5; have g05c := g05.1; have g05f := g05.2; have g15c := g15.1; have g15f := g15.2) | fail)
          all_goals
            go_wp2
            go_roundw
            case rel =>
              refine ⟨n + 1, b0, b1 ++ [(2, 10 + (n : Int))], L, by omega, by go_num, HQ.out.send1 hlt, St3.set g05 g15 hW5 hT5 (fun b h => by have := (hN5 b h).1; simp only [World.size_drew] at this; omega) (fun b h => by have := (hM5 b h).1; simp only [World.size_drew] at this; omega), ?_⟩
              exact ((bel_step hb5 (Below.drew hbr) (Nat.le_refl _)).setCell hgw _).setCell hgw _
            case measure => simp [intOf]; omega
      · have hq6 : Q3 6 b0 b1 L := by
          have e : n = 6 := by omega
          rw [← e]
          exact HQ.out
        replace HQ := Lib.hid hq6
        clear hq6
        go_wp2
        clear hlt hn
        go_loopw [7] (fun v wr => ∃ (n : Nat) (b0 b1 : List Po) (L : List Int), n ≤ 12 ∧ v = .int .i64 n ∧ Q3 6 b0 b1 L ∧ St3 g wr b0 b1 L ∧ Below w1.heap.size w1 wr) (fun v _ => 12 - (intOf v).toNat)
        case atStart => exact ⟨0, b0, b1, L, by omega, rfl, HQ.out, hs3, hbr⟩
        case round =>
          clear hs3 hbr HQ
          obtain ⟨n, b0, b1, L, hn, rfl, hq, hs3, hbr⟩ := hrel
          have HQ := Lib.hid hq
          clear hq
          by_cases hlt : n < 12
          · obtain ⟨A3, c3, B3, d3, S3, T3, g0, g1, hW, hT, hS, hTd, hgl⟩ := hs3
            have hi0 : (0 : Int) ≤ (n : Int) := by omega
            have hi12 : (n : Int) < 12 := by omega
            have hpc := keep hbr (HCE.out n (by omega))
            have hpb := HP.out n (by omega)
            obtain ⟨pi, hpi⟩ : ∃ pi, pi = P n := ⟨_, rfl⟩
            rw [← hpi] at hpc hpb
            clear hpi
            have hpd : wr.drew.cell? ⟨gp, n, none⟩ = some (.int .i64 pi) := hpc
            have g0d : wr.drew.cell? ⟨g, 0, none⟩ = some (.slice A3 3 c3) := g0.1
            have g1d : wr.drew.cell? ⟨g, 1, none⟩ = some (.slice B3 3 d3) := g1.1
            have hWd := hW.drew.rd
            have hTD := hT.drew.rd
            have hm : pi.tmod 2 = 0 ∨ pi.tmod 2 = 1 := by
              rw [Int.tmod_eq_emod_of_nonneg hpb.1]; omega
            have lpc := lt_of_cell' hpc
            rcases hm with hm | hm
            · go_wp2_with fail
              go_region_law (first | (go_simp; go_at_call 15; refine (deliver3_0 HQ.out _ _ _ _ _ hWd hTD).mono ?_; rintro e w5 ⟨b0', b1', L', ok', hq', hl0, hl1, A5, c5, B5, d5, S5, T5, rfl, hW5, hT5, hN5, hM5, hb5⟩; have g05 := Cl.below (w := wr.drew) g0 hb5; have g15 := Cl.below (w := wr.drew) g1 hb5; have g05c := g05.1; have g05f := g05.2; have g15c := g15.1; have g15f := g15.2) | fail)
              all_goals
                go_wp2
                go_roundw
                case rel =>
                  refine ⟨n + 1, b0', b1', L', by omega, by go_num, hq', St3.set g05 g15 hW5 hT5 (fun b h => by have := (hN5 b h).1; simp only [World.size_drew] at this; omega) (fun b h => by have := (hM5 b h).1; simp only [World.size_drew] at this; omega), ?_⟩
                  exact ((bel_step hb5 (Below.drew hbr) (Nat.le_refl _)).setCell hgw _).setCell hgw _
                case measure => simp [intOf]; omega
            · go_wp2_with fail
              go_region_law (first | (go_simp; go_at_call 15; refine (deliver3_1 HQ.out _ _ _ _ _ hWd hTD).mono ?_; rintro e w5 ⟨b0', b1', L', ok', hq', hl0, hl1, A5, c5, B5, d5, S5, T5, rfl, hW5, hT5, hN5, hM5, hb5⟩; have g05 := Cl.below (w := wr.drew) g0 hb5; have g15 := Cl.below (w := wr.drew) g1 hb5; have g05c := g05.1; have g05f := g05.2; have g15c := g15.1; have g15f := g15.2) | fail)
              all_goals
                go_wp2
                go_roundw
                case rel =>
                  refine ⟨n + 1, b0', b1', L', by omega, by go_num, hq', St3.set g05 g15 hW5 hT5 (fun b h => by have := (hN5 b h).1; simp only [World.size_drew] at this; omega) (fun b h => by have := (hM5 b h).1; simp only [World.size_drew] at this; omega), ?_⟩
                  exact ((bel_step hb5 (Below.drew hbr) (Nat.le_refl _)).setCell hgw _).setCell hgw _
                case measure => simp [intOf]; omega
          · go_wp2
            clear hlt hn
            go_loopw [8] (fun v wr => ∃ (n : Nat) (b0 b1 : List Po) (L : List Int), n ≤ 12 ∧ v = .int .i64 n ∧ Q3 6 b0 b1 L ∧ b0.length ≤ 6 - (n + 1) / 2 ∧ b1.length ≤ 6 - n / 2 ∧ St3 g wr b0 b1 L ∧ Below w1.heap.size w1 wr) (fun v _ => 12 - (intOf v).toNat)
            case atStart => exact ⟨0, b0, b1, L, by omega, rfl, HQ.out, by have := HQ.out.tot; omega, by have := HQ.out.tot; omega, hs3, hbr⟩
            case round =>
            clear hs3 hbr HQ
            obtain ⟨n, b0, b1, L, hn, rfl, hq, hlb0, hlb1, hs3, hbr⟩ := hrel
            have HQ := Lib.hid hq
            clear hq
            obtain ⟨A3, c3, B3, d3, S3, T3, g0, g1, hW, hT, hS, hTd, hgl⟩ := hs3
            have g0c := g0.1
            have g1c := g1.1
            by_cases hlt : n < 12
            · have hi0 : (0 : Int) ≤ (n : Int) := by omega
              have hi12 : (n : Int) < 12 := by omega
              have hm : (n % 2 = 0 ∧ (n : Int).tmod 2 = 0) ∨ (n % 2 = 1 ∧ (n : Int).tmod 2 = 1) := by
                rw [Int.tmod_eq_emod_of_nonneg hi0]; omega
              rcases hm with ⟨hm2, hm⟩ | ⟨hm2, hm⟩
              · go_wp2_with fail
                refine (deliver3_0 HQ.out _ _ _ _ _ hW.rd hT.rd).mono ?_
                rintro e w5 ⟨b0', b1', L', ok', hq', hl0, hl1, A5, c5, B5, d5, S5, T5, rfl, hW5, hT5, hN5, hM5, hb5⟩
                have g05 := g0.below hb5
                have g15 := g1.below hb5
                have g05c := g05.1
                have g05f := g05.2
                have g15c := g15.1
                have g15f := g15.2
                clear g0c g1c
                go_wp2
                go_roundw
                case rel =>
                  refine ⟨n + 1, b0', b1', L', by omega, by go_num, hq', by omega, by omega, St3.set g05 g15 hW5 hT5 (fun b h => by have := (hN5 b h).1; omega) (fun b h => by have := (hM5 b h).1; omega), ?_⟩
                  exact ((bel_step hb5 hbr (Nat.le_refl _)).setCell hgw _).setCell hgw _
                case measure => simp [intOf]; omega
              · go_wp2_with fail
                refine (deliver3_1 HQ.out _ _ _ _ _ hW.rd hT.rd).mono ?_
                rintro e w5 ⟨b0', b1', L', ok', hq', hl0, hl1, A5, c5, B5, d5, S5, T5, rfl, hW5, hT5, hN5, hM5, hb5⟩
                have g05 := g0.below hb5
                have g15 := g1.below hb5
                have g05c := g05.1
                have g05f := g05.2
                have g15c := g15.1
                have g15f := g15.2
                clear g0c g1c
                go_wp2
                go_roundw
                case rel =>
                  refine ⟨n + 1, b0', b1', L', by omega, by go_num, hq', by omega, by omega, St3.set g05 g15 hW5 hT5 (fun b h => by have := (hN5 b h).1; omega) (fun b h => by have := (hM5 b h).1; omega), ?_⟩
                  exact ((bel_step hb5 hbr (Nat.le_refl _)).setCell hgw _).setCell hgw _
                case measure => simp [intOf]; omega
            · have hL6 : L.length = 6 := by have := HQ.out.tot; omega
              have HL6 := Lib.hid hL6
              have h6b : ((L.length : Int) == 6) = true := by simp; omega
              have HINC := Lib.hid (List.pairwise_iff_getElem.1 HQ.out.incL)
              have HRNG := Lib.hid HQ.out.rng
              have hle6 : L.length ≤ 6 := by omega
              clear hL6 hlb0 hlb1
              go_wp2_with fail
              refine (collect3 HQ.out _ _ _ _ _ hW.rd hT.rd).mono ?_
              rintro e w6 ⟨A6, c6, B6, d6, A7, c7, U6, rfl, hU, hNU, hb6⟩
              have hz6 := hb6.size
              have hrl := hU.rd
              have hbw6 : Below w1.heap.size w1 w6 := bel_step hb6 hbr (Nat.le_refl _)
              clear hU hNU hW hT g0 g1 g0c g1c HQ
              go_wp2
              obtain ⟨gl, hgl'⟩ : ∃ gl, gl = w6.heap.size + 1 := ⟨_, rfl⟩
              have HGL := Lib.hid hgl'
              have hglw : w1.heap.size ≤ gl := by have := hbw6.size; omega
              have hrl7 := ((hrl.alloc (.cells #[.slice A6 3 c6, .slice B6 3 d6] 29)).alloc (.cells #[.int .i64 (-1), .int .i64 (-1)] 3))
              have k0 : Cl ((w6.alloc (.cells #[.slice A6 3 c6, .slice B6 3 d6] 29)).alloc (.cells #[.int .i64 (-1), .int .i64 (-1)] 3)) ⟨gl, 0, none⟩ (.int .i64 (-1)) := Cl.new (by rw [hgl']; simp) rfl
              have k1 : Cl ((w6.alloc (.cells #[.slice A6 3 c6, .slice B6 3 d6] 29)).alloc (.cells #[.int .i64 (-1), .int .i64 (-1)] 3)) ⟨gl, 1, none⟩ (.int .i64 (-1)) := Cl.new (by rw [hgl']; simp) rfl
              have hbk0 : Below w1.heap.size w1 ((w6.alloc (.cells #[.slice A6 3 c6, .slice B6 3 d6] 29)).alloc (.cells #[.int .i64 (-1), .int .i64 (-1)] 3)) := by (repeat' (first | (with_reducible exact Below.refl _ _) | (with_reducible refine bel_alloc ?_ ?_ _) | (with_reducible refine Below.setCell ?_ ?_ _) | (with_reducible refine below_drewN ?_ _) | (with_reducible refine Below.drew ?_) | (with_reducible refine bel_step hbw6 ?_ ?_) | (with_reducible exact Nat.le_refl _) | (with_reducible assumption) | omega | (simp only [World.size_alloc, World.size_setCell, World.size_drew]; omega) | (simp; omega) | (simp; done)))
              have hrl8 : Rd ((w6.alloc (.cells #[.slice A6 3 c6, .slice B6 3 d6] 29)).alloc (.cells #[.int .i64 (-1), .int .i64 (-1)] 3)) gl A7 (iv L) := hrl7.more (by omega)
              simp only [← HGL.out]
              clear hgl'
              generalize (w6.alloc (.cells #[.slice A6 3 c6, .slice B6 3 d6] 29)).alloc (.cells #[.int .i64 (-1), .int .i64 (-1)] 3) = w8 at *
              clear hrl hrl7
              go_loopw [12] (fun v wk => ∃ (i : Nat) (l0 l1 : Int), i ≤ L.length ∧ v = .int .i64 i ∧ Cl wk ⟨gl, 0, none⟩ (.int .i64 l0) ∧ Cl wk ⟨gl, 1, none⟩ (.int .i64 l1) ∧ Gr i l0 (fun x => x < 10) L ∧ Gr i l1 (fun x => 10 ≤ x) L ∧ OutS (fun b => b = gl) w8 wk) (fun v _ => L.length - (intOf v).toNat)
              case atStart => exact ⟨0, -1, -1, Nat.zero_le _, rfl, k0, k1, fun j hj _ _ => by have := HRNG.out _ (List.getElem_mem hj); omega, fun j hj _ _ => by have := HRNG.out _ (List.getElem_mem hj); omega, OutS.refl⟩
              case round =>
              obtain ⟨i, l0, l1, hi, rfl, k0, k1, hG0, hG1, hok⟩ := hrel
              have Hl0 := Lib.hid hG0
              have Hl1 := Lib.hid hG1
              clear hG0 hG1
              have k0c := k0.1
              have k0f := k0.2
              have k1c := k1.1
              have k1f := k1.2
              have hrk := hrl8.outS hok (fun b hb => by omega)
              by_cases hil : i < L.length
              · obtain ⟨b9, off9, rfl, hb9l, hx0⟩ := hrk.int hil
                obtain ⟨x, hx⟩ : ∃ x, x = L[i] := ⟨_, rfl⟩
                rw [← hx] at hx0
                have HX := Lib.hid hx
                clear hx
                have hi0 : (0 : Int) ≤ (i : Int) := by omega
                have hi1 : (i : Int) < (L.length : Int) := by omega
                have lk0 := lt_of_cell' k0c
                have lx0 := lt_of_cell' hx0
                by_cases hx10 : x < 10
                · have hlx : l0 < x := by rw [HX.out]; exact Hl0.out i hil (Nat.le_refl _) (by rw [← HX.out]; exact hx10)
                  have hnx : ¬ x ≤ l0 := by omega
                  have hdx : decide (x ≤ l0) = false := by simp; omega
                  clear hlx
                  go_wp2
                  go_quiet (fail)
                  go_wp2
                  go_roundw
                  case rel =>
                    refine ⟨i + 1, x, l1, by omega, by go_num, (Cl.drewN k0 _).same _, (Cl.drewN k1 _).other _ (by simp), ?_, fun j hj hij hp => Hl1.out j hj (by omega) hp, ?_⟩
                    · intro j hj hij hp
                      rw [HX.out]
                      exact HINC.out i j hil hj (by omega) (by have := HX.out; omega)
                    · exact (hok.drewN _).trans (OutS.set _ _ rfl)
                  case measure => simp [intOf]; omega
                · replace hx10 : 10 ≤ x := by omega
                  have hlx : l1 < x := by rw [HX.out]; exact Hl1.out i hil (Nat.le_refl _) (by rw [← HX.out]; exact hx10)
                  have hnx : ¬ x ≤ l1 := by omega
                  have hdx : decide (x ≤ l1) = false := by simp; omega
                  clear hlx
                  go_wp2
                  go_quiet (fail)
                  go_wp2
                  go_roundw
                  case rel =>
                    refine ⟨i + 1, l0, x, by omega, by go_num, (Cl.drewN k0 _).other _ (by simp), (Cl.drewN k1 _).same _, fun j hj hij hp => Hl0.out j hj (by omega) hp, ?_, ?_⟩
                    · intro j hj hij hp
                      rw [HX.out]
                      exact HINC.out i j hil hj (by omega) (by have := HX.out; omega)
                    · exact (hok.drewN _).trans (OutS.set _ _ rfl)
                  case measure => simp [intOf]; omega
              · go_wp2
                go_ret
                exact ⟨rfl, bel_outS hok (fun b hb => by omega) (bel_step (show Below w1.heap.size w1 w8 from hbk0) hbw1 (Nat.le_refl _)) (Nat.le_refl _)⟩
end Go.Proofs.Ytggigndkamkclaa
