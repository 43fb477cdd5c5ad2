/- A drawn mail is valid. -/
import Derived.Test.YtggigndkamkclaaMailCc
import Derived.Test.YtggigndkamkclaaDrawO
import Derived.Deep.RegionLaw
import Derived.Deep.DeepCutAuto
namespace Go.Proofs.Ytggigndkamkclaa
open Go.ChangeShapes Go.WideShapes Go.ChangeAt Go.RowKit
set_option linter.unusedVariables false
set_option linter.unusedSimpArgs false

def MCaseOut (g : Nat) (w : World) (e : Ending) (w' : World) : Prop :=
  ∃ (n : Nat) (A1 : Option Addr) (c1 : Nat) (B1 : Option Addr) (d1 : Nat) (S T : Nat → Prop) (xs : List (List Po)) (ys : List (List Int)), e = .returned (.agg #[.slice A1 n c1, .slice B1 n d1]) ∧ xs.length = n ∧ mOkB xs ys = true ∧ Wr2 pv w' S A1 xs ∧ Wr2 iv w' T B1 ys ∧ (∀ b, S b → w.heap.size < b) ∧ (∀ b, T b → w.heap.size < b) ∧ Out g (g + 1) w w'
def St (gq n : Nat) (lo : Nat) (w : World) : Prop :=
  ∃ (A : Option Addr) (c : Nat) (B : Option Addr) (d : Nat) (S T : Nat → Prop) (xs : List (List Po)) (ys : List (List Int)), Cl w ⟨gq, 0, none⟩ (.slice A n c) ∧ Cl w ⟨gq, 1, none⟩ (.slice B n d) ∧ xs.length = n ∧ mOkB xs ys = true ∧ Wr2c pv w S A xs ∧ Wr2 iv w T B ys ∧ (∀ b, S b → lo < b ∧ b ≠ gq) ∧ (∀ b, T b → lo < b ∧ b ≠ gq)
theorem St.cur {gq n lo g : Nat} {w w1 : World} (h : St gq n lo w) (ho : Out g (g + 1) w w1) (hg : g < lo) (hq : g ≠ gq) : St gq n lo w1 := by
  obtain ⟨A, c, B, d, S, T, xs, ys, g0, g1, hl, hok, hW, hT, hS, hTd⟩ := h
  exact ⟨A, c, B, d, S, T, xs, ys, g0.cur ho (by simp; omega), g1.cur ho (by simp; omega), hl, hok, hW.cur ho.setOf (fun b hb => by have := hS b hb; omega), hT.cur ho.setOf (fun b hb => by have := hTd b hb; omega), hS, hTd⟩
theorem St.below {gq n lo : Nat} {w w1 : World} (h : St gq n lo w) (hb : Below w.heap.size w w1) : St gq n lo w1 := by
  obtain ⟨A, c, B, d, S, T, xs, ys, g0, g1, hl, hok, hW, hT, hS, hTd⟩ := h
  exact ⟨A, c, B, d, S, T, xs, ys, g0.below hb, g1.below hb, hl, hok, hW.below hb, hT.below hb, hS, hTd⟩
theorem St.drew {gq n lo : Nat} {w : World} (h : St gq n lo w) : St gq n lo w.drew := h.below (Below.drew (Below.refl _ _))
theorem St.set {gq n lo : Nat} {w : World} {A B : Option Addr} {c d : Nat} {S T : Nat → Prop} {xs : List (List Po)} {ys : List (List Int)} {u v : Value} (h0 : Cl w ⟨gq, 0, none⟩ u) (h1 : Cl w ⟨gq, 1, none⟩ v) (hl : xs.length = n) (hok : mOkB xs ys = true) (hW : Wr2c pv w S A xs) (hT : Wr2 iv w T B ys) (hS : ∀ b, S b → lo < b ∧ b ≠ gq) (hTd : ∀ b, T b → lo < b ∧ b ≠ gq) :
    St gq n lo ((w.setCell ⟨gq, 0, none⟩ (.slice A n c)).setCell ⟨gq, 1, none⟩ (.slice B n d)) :=
  ⟨A, c, B, d, S, T, xs, ys, (h0.same _).other _ (by simp), (h1.other _ (by simp)).same _, hl, hok, (hW.setOut _ (fun h => (hS _ h).2 rfl)).setOut _ (fun h => (hS _ h).2 rfl), (hT.setOut _ (fun h => (hTd _ h).2 rfl)).setOut _ (fun h => (hTd _ h).2 rfl), hS, hTd⟩
set_option maxRecDepth 100000 in
set_option maxHeartbeats 16000000 in
theorem l18Case_any (g B : Nat) (A : Option Addr) (c : Nat) (bs : List Int) (w : World) (hb : Bytes bs) (hB : B ≤ g) (hc : Cur w g B A c bs) :
    Calls Try.prog 53 #[.pointer (some ⟨g, 0, none⟩)] w (MCaseOut g w) := by
  have hgl := hc.lt
  go_enter Try.func53, Try.ntmps53
  go_wp2_with fail
  refine (l01Below_any 4 g B A c bs _ hb hB (hc.alloc _) (by omega)).mono ?_
  rintro e w1 ⟨x, rfl, hx0, hx1, -, hc1, ho1⟩
  have hx1 := hx1 (by omega)
  have hz1 := ho1.size
  simp only [World.size_alloc] at hz1
  have r0 : Cl w1 ⟨w.heap.size, 0, none⟩ (.slice none 0 0) := Cl.cur (Cl.new rfl rfl) ho1 (by simp; omega)
  have r1 : Cl w1 ⟨w.heap.size, 1, none⟩ (.slice none 0 0) := Cl.cur (Cl.new rfl rfl) ho1 (by simp; omega)
  have hor : Out g (g + 1) w w1 := (Out.refl.alloc _).trans ho1
  obtain ⟨n, hn⟩ : ∃ n : Nat, 1 + x = (n : Int) := ⟨(1 + x).toNat, by omega⟩
  have hn1 : 1 ≤ n := by omega
  have hn4 : n ≤ 4 := by omega
  have hw1 : IntKind.i64.wrap (1 + x) = 1 + x := IntWalk.i64_in _ (by omega)
  have HNM := Lib.hid (fun W => new_m hn1 hn4 W)
  clear hc ho1
  go_wp2_with fail
  refine (HNM.out _).mono ?_
  rintro e w2 ⟨A2, c2, B2, d2, S2, T2, xs2, ys2, v2, rfl, hl2, hok2, hW2, hT2, hN2, hM2, hb2⟩
  replace hor := hor.below hb2
  replace hc1 := hc1.below hb2
  replace r0 := r0.below hb2
  replace r1 := r1.below hb2
  have hz2 := hb2.size
  obtain ⟨gq, hgq⟩ : ∃ gq, gq = w2.heap.size := ⟨_, rfl⟩
  have HGQ := Lib.hid hgq
  have hgq1 : w.heap.size < gq := by omega
  have g0 : Cl (w2.alloc (.cells #[.slice A2 n c2, .slice B2 n d2] 29)) ⟨gq, 0, none⟩ (.slice A2 n c2) := Cl.new hgq rfl
  have g1 : Cl (w2.alloc (.cells #[.slice A2 n c2, .slice B2 n d2] 29)) ⟨gq, 1, none⟩ (.slice B2 n d2) := Cl.new hgq rfl
  have hst : St gq n w.heap.size (w2.alloc (.cells #[.slice A2 n c2, .slice B2 n d2] 29)) := ⟨A2, c2, B2, d2, S2, T2, xs2, ys2, g0, g1, hl2, hok2, hW2.alloc _, hT2.alloc _, fun b h => by have := hN2 b h; omega, fun b h => by have := hM2 b h; omega⟩
  replace r0 := r0.alloc (.cells #[.slice A2 n c2, .slice B2 n d2] 29)
  replace r1 := r1.alloc (.cells #[.slice A2 n c2, .slice B2 n d2] 29)
  replace hc1 := hc1.alloc (.cells #[.slice A2 n c2, .slice B2 n d2] 29)
  replace hor := hor.alloc (.cells #[.slice A2 n c2, .slice B2 n d2] 29)
  clear hgq g0 g1 hW2 hT2 hN2 hM2 hb2 hl2 hok2 hw1 hn HNM hx0 hx1
  have hgqg : g ≠ gq := by have := HGQ.out; omega
  go_wp2_with fail
  simp only [← HGQ.out]
  generalize w2.alloc (.cells #[.slice A2 n c2, .slice B2 n d2] 29) = w3 at *
  refine (l01Below_any 20 g B A c bs _ hb hB hc1 (by omega)).mono ?_
  rintro e w4 ⟨y, rfl, hy0, hy1, -, hc4, ho4⟩
  have hy1 := hy1 (by omega)
  replace hst := hst.cur ho4 hgl hgqg
  replace r0 := r0.cur ho4 (by simp; omega)
  replace r1 := r1.cur ho4 (by simp; omega)
  replace hor := hor.trans ho4
  clear hc1 ho4 hz2 hz1
  go_wp2_with fail
  refine (l01Once_any 16 g B A c bs _ hb hB hc4 (by omega)).mono ?_
  rintro e w5 ⟨b5, rfl, hc5', ho5⟩
  have hst5' := hst.cur ho5 hgl hgqg
  have r05' := r0.cur ho5 (by simp; omega)
  have r15' := r1.cur ho5 (by simp; omega)
  have hor5' := hor.trans ho5
  go_upto_if 18 with fail
  go_cut [5] (fun s W => ∃ N : Int, s = .int .i64 N ∧ 0 ≤ N ∧ N ≤ 60 ∧ W = w5)
  case first =>
    cases b5
    · go_wp2_with fail
      go_meet
      case rel => exact ⟨y, rfl, by omega, by omega, rfl⟩
    · go_wp2_with fail
      go_meet
      case rel => exact ⟨60, rfl, by omega, by omega, rfl⟩
  case rest =>
  obtain ⟨N, rfl, hN0, hN60, rfl⟩ := hcut
  have hst5 := hst5'
  have r05 := r05'
  have r15 := r15'
  have hc5 := hc5'
  have hor5 := hor5'
  clear hst r0 r1 hc4 hor hy0 hy1 hst5' r05' r15' hc5' hor5' ho5
  go_wp2
  go_loopw [6] (fun v wr => ∃ (k : Nat), (k : Int) ≤ N ∧ v = .int .i64 k ∧ St gq n w.heap.size wr ∧ Cl wr ⟨w.heap.size, 0, none⟩ (.slice none 0 0) ∧ Cl wr ⟨w.heap.size, 1, none⟩ (.slice none 0 0) ∧ Cur wr g B A c bs ∧ Out g (g + 1) w wr) (fun v _ => (N - intOf v).toNat)
  case atStart => exact ⟨0, by omega, rfl, hst5, r05, r15, hc5, hor5⟩
  case round =>
  clear hst5 r05 r15 hc5 hor5
  obtain ⟨k, hkN, rfl, ⟨A3, c3, B3, d3, S3, T3, xs, ys, g0, g1, hl, hok, hW, hT, hS, hTd⟩, r0, r1, hcr, hor⟩ := hrel
  have HL := Lib.hid hl
  have HK := Lib.hid hok
  clear hl hok
  have hk0 : (0 : Int) ≤ (k : Int) := by omega
  have g0c := g0.1
  by_cases hlt : (k : Int) < N
  · have hwk : IntKind.i64.wrap ((k : Int) + 1) = (k : Int) + 1 := IntWalk.i64_in _ (by omega)
    go_wp2_with fail
    refine (l01Below_any n g B A c bs _ hb hB hcr (by omega)).mono ?_
    rintro e w6 ⟨z, rfl, hz0, hz1, -, hc6, ho6⟩
    have hz1 := hz1 (by omega)
    obtain ⟨κ, rfl⟩ := Int.eq_ofNat_of_zero_le hz0
    have hκ : κ < n := by omega
    clear g0c
    replace hW := hW.cur ho6.setOf (fun b h => by have := hS b h; omega)
    replace hT := hT.cur ho6.setOf (fun b h => by have := hTd b h; omega)
    replace g0 := g0.cur ho6 (by simp; omega)
    replace g1 := g1.cur ho6 (by simp; omega)
    replace r0 := r0.cur ho6 (by simp; omega)
    replace r1 := r1.cur ho6 (by simp; omega)
    replace hor := hor.trans ho6
    clear hcr ho6
    go_wp2_with fail
    refine (l01Below_any 6 g B A c bs _ hb hB hc6 (by omega)).mono ?_
    rintro e w7 ⟨z, rfl, hz0, hz1, -, hc7, ho7⟩
    have hz6 := hz1 (by omega)
    replace hW := hW.cur ho7.setOf (fun b h => by have := hS b h; omega)
    replace hT := hT.cur ho7.setOf (fun b h => by have := hTd b h; omega)
    replace g0 := g0.cur ho7 (by simp; omega)
    replace g1 := g1.cur ho7 (by simp; omega)
    replace r0 := r0.cur ho7 (by simp; omega)
    replace r1 := r1.cur ho7 (by simp; omega)
    replace hor := hor.trans ho7
    have g0c := g0.1
    have g1c := g1.1
    have lg0 := lt_of_cell' g0c
    have hzw := hor.size
    clear hc6 ho7
    have hdel : z = 0 ∨ z = 1 ∨ z = 2 ∨ ((z == 0) = false ∧ (z == 1) = false ∧ (z == 2) = false) := by
      rcases (by omega : z = 0 ∨ z = 1 ∨ z = 2 ∨ 2 < z) with h | h | h | h
      · exact .inl h
      · exact .inr (.inl h)
      · exact .inr (.inr (.inl h))
      · exact .inr (.inr (.inr ⟨by simp; omega, by simp; omega, by simp; omega⟩))
    rcases hdel with rfl | rfl | rfl | ⟨h0, h1, h2⟩
    iterate 2
      · go_wp2_with fail
        refine (deliver_m HL.out HK.out hκ _ _ _ _ _ hW.rdc hT.rd).mono ?_
        rintro e w8 ⟨A8, c8, B8, d8, S8, T8, xs8, ys8, v8, rfl, hl8, hok8, hW8, hT8, hN8, hM8, hb8⟩
        have g08 := g0.below hb8
        have g18 := g1.below hb8
        have g08c := g08.1
        have g08f := g08.2
        have g18c := g18.1
        have g18f := g18.2
        have lg8 := lt_of_cell' g08c
        clear g0c g1c lg0
        go_wp2
        go_roundw
        case rel =>
          refine ⟨k + 1, by omega, by go_num, St.set g08 g18 hl8 hok8 hW8 hT8 (fun b h => by have := hN8 b h; have := lt_of_cell' g0.1; omega) (fun b h => by have := hM8 b h; have := lt_of_cell' g0.1; omega), ((r0.below hb8).other _ (by simp <;> omega)).other _ (by simp <;> omega), ((r1.below hb8).other _ (by simp <;> omega)).other _ (by simp <;> omega), ((hc7.below hb8).out (Out.set _ gq 0 _) (by omega) (by omega)).out (Out.set _ gq 1 _) (by omega) (by omega), ?_⟩
          exact out_new (out_new (hor.below hb8) (OutS.set (S := fun b => b = gq) _ _ rfl) (fun b h => by omega)) (OutS.set (S := fun b => b = gq) _ _ rfl) (fun b h => by omega)
        case measure => simp [intOf]; omega
    · by_cases hN30 : N < 30
      · go_wp2_with fail
        refine (l01Once_any 3 g B A c bs _ hb hB hc7 (by omega)).mono ?_
        rintro e w8 ⟨b8, rfl, hc8, ho8⟩
        have hW8 := hW.cur ho8.setOf (fun b h => by have := hS b h; omega)
        have hT8 := hT.cur ho8.setOf (fun b h => by have := hTd b h; omega)
        have g08 := g0.cur ho8 (by simp; omega)
        have g18 := g1.cur ho8 (by simp; omega)
        have r08 := r0.cur ho8 (by simp; omega)
        have r18 := r1.cur ho8 (by simp; omega)
        have hor8 := hor.trans ho8
        have g08c := g08.1
        have g18c := g18.1
        have lg8 := lt_of_cell' g08c
        have hzw8 := hor8.size
        clear g0c g1c lg0
        cases b8
        · go_wp2
          go_roundw
          case rel => exact ⟨k + 1, by omega, by go_num, ⟨A3, c3, B3, d3, S3, T3, xs, ys, g08, g18, HL.out, HK.out, hW8, hT8, hS, hTd⟩, r08, r18, hc8, hor8⟩
          case measure => simp [intOf]; omega
        · go_wp2_with fail
          refine (collect_m HL.out HK.out hκ _ _ _ _ _ hW8.rd hT8.rd).mono ?_
          rintro e w9 ⟨A9, c9, B9, d9, S9, T9, xs9, ys9, v9, rfl, hl9, hok9, hW9, hT9, hN9, hM9, hb9⟩
          have g09 := g08.below hb9
          have g19 := g18.below hb9
          have g09c := g09.1
          have g09f := g09.2
          have g19c := g19.1
          have g19f := g19.2
          have lg9 := lt_of_cell' g09c
          clear g08c g18c
          go_wp2
          go_roundw
          case rel =>
            refine ⟨k + 1, by omega, by go_num, St.set g09 g19 hl9 hok9 hW9 hT9 (fun b h => by have := hN9 b h; omega) (fun b h => by have := hM9 b h; omega), ((r08.below hb9).other _ (by simp <;> omega)).other _ (by simp <;> omega), ((r18.below hb9).other _ (by simp <;> omega)).other _ (by simp <;> omega), ((hc8.below hb9).out (Out.set _ gq 0 _) (by omega) (by omega)).out (Out.set _ gq 1 _) (by omega) (by omega), ?_⟩
            exact out_new (out_new (hor8.below hb9) (OutS.set (S := fun b => b = gq) _ _ rfl) (fun b h => by omega)) (OutS.set (S := fun b => b = gq) _ _ rfl) (fun b h => by omega)
          case measure => simp [intOf]; omega
      · go_wp2
        go_roundw
        case rel => exact ⟨k + 1, by omega, by go_num, ⟨A3, c3, B3, d3, S3, T3, xs, ys, g0, g1, HL.out, HK.out, hW, hT, hS, hTd⟩, r0, r1, hc7, hor⟩
        case measure => simp [intOf]; omega
    · have hcd : Cur w7.drew g B A c bs := hc7
      have g0d : w7.drew.cell? ⟨gq, 0, none⟩ = some (.slice A3 n c3) := g0.1
      have g1d : w7.drew.cell? ⟨gq, 1, none⟩ = some (.slice B3 n d3) := g1.1
      replace g0 : Cl w7.drew ⟨gq, 0, none⟩ (.slice A3 n c3) := g0
      replace g1 : Cl w7.drew ⟨gq, 1, none⟩ (.slice B3 n d3) := g1
      replace r0 : Cl w7.drew ⟨w.heap.size, 0, none⟩ (.slice none 0 0) := r0
      replace r1 : Cl w7.drew ⟨w.heap.size, 1, none⟩ (.slice none 0 0) := r1
      replace hW := hW.drew
      replace hT := hT.drew
      replace hor : Out g (g + 1) w w7.drew := hor.drewN 1
      go_wp2_with fail
      go_region_law (first | (go_simp; go_at_call 37; (with_reducible refine (l01Below_any n g B A c bs _ hb hB hcd (by omega)).mono ?_); rintro e w8 ⟨x8, rfl, h80, h81, -, hc8, ho8⟩; have g08 := g0.cur ho8 (by simp; omega); have g18 := g1.cur ho8 (by simp; omega); have r08 := r0.cur ho8 (by simp; omega); have r18 := r1.cur ho8 (by simp; omega); have hW8 := hW.cur ho8.setOf (fun b h => by have := hS b h; omega); have hT8 := hT.cur ho8.setOf (fun b h => by have := hTd b h; omega); have g08c := g08.1; have g18c := g18.1; have hor8 := hor.trans ho8) | (go_simp; go_at_call 37; (with_reducible refine (l01Below_any 512 g B A c bs _ hb hB hc8 (by omega)).mono ?_); rintro e w9 ⟨x9, rfl, h90, h91, -, hc9, ho9⟩; have g09 := g08.cur ho9 (by simp; omega); have g19 := g18.cur ho9 (by simp; omega); have r09 := r08.cur ho9 (by simp; omega); have r19 := r18.cur ho9 (by simp; omega); have hW9 := hW8.cur ho9.setOf (fun b h => by have := hS b h; omega); have hT9 := hT8.cur ho9.setOf (fun b h => by have := hTd b h; omega); have g09c := g09.1; have g19c := g19.1; have hor9 := hor8.trans ho9; have hz9 := hor9.size) | (go_simp; go_at_call 34; refine (send_m HL.out HK.out hκ x8 x9 _ _ _ _ _ hW9.rd hT9.rd).mono ?_; rintro e w10 ⟨A10, c10, B10, d10, S10, T10, xs10, ys10, v10, rfl, hl10, hok10, hW10, hT10, hN10, hM10, hb10⟩; have g010 := g09.below hb10; have g110 := g19.below hb10; have g010c := g010.1; have g010f := g010.2; have g110c := g110.1; have g110f := g110.2; have hgq10 := lt_of_cell' g09.1) | fail)
      all_goals
        go_wp2
        go_roundw
        case rel =>
          refine ⟨k + 1, by omega, by go_num, St.set g010 g110 hl10 hok10 hW10 hT10 (fun b h => by have := hN10 b h; omega) (fun b h => by have := hM10 b h; omega), ((r09.below hb10).other _ (by simp <;> omega)).other _ (by simp <;> omega), ((r19.below hb10).other _ (by simp <;> omega)).other _ (by simp <;> omega), ((hc9.below hb10).out (Out.set _ gq 0 _) (by omega) (by omega)).out (Out.set _ gq 1 _) (by omega) (by omega), ?_⟩
          exact out_new (out_new (hor9.below hb10) (OutS.set (S := fun b => b = gq) _ _ rfl) (fun b h => by omega)) (OutS.set (S := fun b => b = gq) _ _ rfl) (fun b h => by omega)
        case measure => simp [intOf]; omega
  · obtain ⟨g0c', g0f⟩ := g0
    obtain ⟨g1c, g1f⟩ := g1
    obtain ⟨r0c, r0f⟩ := r0
    obtain ⟨r1c, r1f⟩ := r1
    have lg0 := lt_of_cell' g0c
    go_wp2
    refine bodyPost_ret (v := .agg #[.slice A3 n c3, .slice B3 n d3]) (by simp [results, Try.results53, go_sem, r0c, r1c]) rfl ⟨n, A3, c3, B3, d3, S3, T3, xs, ys, rfl, HL.out, HK.out, ?_, ?_, fun b h => (hS b h).1, fun b h => (hTd b h).1, ?_⟩
    · exact (hW.wr2.setOut (b := w.heap.size) (o := 0) _ (fun h => by have := hS _ h; omega)).setOut (b := w.heap.size) (o := 1) _ (fun h => by have := hS _ h; omega)
    · exact (hT.setOut (b := w.heap.size) (o := 0) _ (fun h => by have := hTd _ h; omega)).setOut (b := w.heap.size) (o := 1) _ (fun h => by have := hTd _ h; omega)
    · exact out_new (out_new hor (OutS.set (S := fun b => b = w.heap.size) _ _ rfl) (fun b h => by omega)) (OutS.set (S := fun b => b = w.heap.size) _ _ rfl) (fun b h => by omega)
def DrawnM (w : World) (e : Ending) (w' : World) : Prop :=
  ∃ (n : Nat) (A1 : Option Addr) (c1 : Nat) (B1 : Option Addr) (d1 : Nat) (xs : List (List Po)) (ys : List (List Int)), e = .returned (.agg #[.slice A1 n c1, .slice B1 n d1]) ∧ xs.length = n ∧ mOkB xs ys = true ∧ Rd2 pv w' w'.heap.size A1 xs ∧ Rd2 iv w' w'.heap.size B1 ys ∧ Below w.heap.size w w'
theorem drawMail_any {B : Nat} (A : Option Addr) (c : Nat) (bs : List Int) (w : World) (hb : Bytes bs) (hr : Rd w B A (bv bs)) :
    Calls Try.prog 25 #[.slice A bs.length c] w (DrawnM w) := by
  go_enter Try.func25, Try.ntmps25
  go_wp2_with fail
  refine (l01New_any _ A c bs _ hb (hr.lt.alloc _)).mono ?_
  rintro e w1 ⟨g, rfl, hg0, hg1, hc, hb1⟩
  have r0 : Cl w1 ⟨w.heap.size, 0, none⟩ (.slice none 0 0) := Cl.below (Cl.new rfl rfl) hb1
  have r1 : Cl w1 ⟨w.heap.size, 1, none⟩ (.slice none 0 0) := Cl.below (Cl.new rfl rfl) hb1
  have hz1 := hb1.size
  simp only [World.size_alloc] at hz1 hg0
  go_wp2_with fail
  refine (l18Case_any g _ A c bs _ hb (by omega) hc).mono ?_
  rintro e w2 ⟨n, A1, c1, B1, d1, S, T, xs, ys, rfl, hl, hok, hW, hT, hS, hTd, hor⟩
  have HK := Lib.hid hok
  have HL := Lib.hid hl
  have r02 := r0.cur hor (by simp; omega)
  have r12 := r1.cur hor (by simp; omega)
  obtain ⟨r0c, r0f⟩ := r02
  obtain ⟨r1c, r1f⟩ := r12
  have hbw : Below w.heap.size w w2 := hor.bel (by (repeat' (first | (with_reducible exact Below.refl _ _) | (with_reducible refine bel_alloc ?_ ?_ _) | (with_reducible refine Below.setCell ?_ ?_ _) | (with_reducible refine below_drewN ?_ _) | (with_reducible refine Below.drew ?_) | (with_reducible refine bel_step hb1 ?_ ?_) | (with_reducible exact Nat.le_refl _) | (with_reducible assumption) | omega | (simp only [World.size_alloc, World.size_setCell, World.size_drew]; omega) | (simp; omega) | (simp; done)))) (by omega)
  clear hok hl
  go_wp2
  refine bodyPost_ret (v := .agg #[.slice A1 n c1, .slice B1 n d1]) (by simp [results, Try.results25, go_sem, r0c, r1c]) rfl ⟨n, A1, c1, B1, d1, xs, ys, rfl, HL.out, HK.out, ?_, ?_, ?_⟩
  · exact ((hW.setOut (b := w.heap.size) (o := 0) _ (fun h => by have := hS _ h; omega)).setOut (b := w.heap.size) (o := 1) _ (fun h => by have := hS _ h; omega)).rd
  · exact ((hT.setOut (b := w.heap.size) (o := 0) _ (fun h => by have := hTd _ h; omega)).setOut (b := w.heap.size) (o := 1) _ (fun h => by have := hTd _ h; omega)).rd
  · exact (hbw.setCell (Nat.le_refl _) _).setCell (Nat.le_refl _) _
end Go.Proofs.Ytggigndkamkclaa
