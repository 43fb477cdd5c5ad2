/- A drawn layout: the walk. -/
import Derived.Test.YtjimpmdelnnflaaLayDs
namespace Go.Proofs.Ytjimpmdelnnflaa
open Go.ChangeShapes Go.WideShapes Go.ChangeAt Go.RowKit
set_option linter.unusedVariables false
set_option linter.unusedSimpArgs false

/-- What an append onto one row leaves of another. -/
theorem own_apart {w : World} {lo2 : Nat} {e2 : TypeId} {s2 m d : Nat} {A A2 A' : Option Addr} {ys : List Value} (hd : ∀ x, At A x → ¬ At A2 x) (h2 : w.ownsRow lo2 e2 s2 (.slice A2 m d) m ys) (hA : A' = A ∨ ∃ b, A' = some ⟨b, 0, none⟩ ∧ w.heap.size ≤ b) : ∀ x, At A' x → ¬ At A2 x := by
  rcases hA with rfl | ⟨b, rfl, hb⟩
  · exact hd
  · rintro x ⟨o, hx⟩ hx2
    have := (own_lo' h2 hx2).2
    injection hx with hx
    injection hx with hx
    omega
def LCaseOut (g B : Nat) (A : Option Addr) (c : Nat) (bs : List Int) (w : World) (e : Ending) (w' : World) : Prop :=
  ∃ (A3 : Option Addr) (c3 : Nat) (A4 : Option Addr) (c4 : Nat) (xs ys : List T3), e = .returned (.tuple #[.slice A3 xs.length c3, .slice A4 ys.length c4]) ∧ LayInv xs ys 24 ∧ xs.length ≤ 6 ∧ ys.length ≤ 6 ∧ Rd w' w'.heap.size A3 (tv xs) ∧ Rd w' w'.heap.size A4 (tv ys) ∧ Out g (g + 1) w w'
set_option maxRecDepth 100000 in
set_option maxHeartbeats 8000000 in
theorem l21Case_any (g B : Nat) (A : Option Addr) (c : Nat) (bs : List Int) (w : World) (hb : Bytes bs) (hB : B ≤ g) (hc : Cur w g B A c bs) :
    Calls Try.prog 36 #[.pointer (some ⟨g, 0, none⟩)] w (LCaseOut g B A c bs w) := by
  have hgl := hc.lt
  obtain ⟨ia, hia, ja0, ja1, ja2⟩ := info_parts infoSpan
  obtain ⟨ib, hib, jb0, jb1, jb2⟩ := info_parts infoLarge
  have o3 : ((w.alloc (.cells #[] 50)).alloc (.cells #[] 62)).ownsRow w.heap.size 50 3 (.slice (some ⟨w.heap.size, 0, none⟩) 0 0) 0 [] := own_below' (own_lit rfl) ((Below.refl _ _).alloc (Nat.le_refl _) _)
  have o4 : ((w.alloc (.cells #[] 50)).alloc (.cells #[] 62)).ownsRow w.heap.size 62 3 (.slice (some ⟨w.heap.size + 1, 0, none⟩) 0 0) 0 [] := own_mono (own_lit (by simp)) (by omega)
  go_enter Try.func36, Try.ntmps36
  go_wp2
  go_loopw [4, 5, 6, 7] (fun u3 u4 u v wr => ∃ (k : Nat) (pg : Int) (A3 : Option Addr) (c3 : Nat) (A4 : Option Addr) (c4 : Nat) (xs ys : List T3), k ≤ 5 ∧ v = .int .i64 k ∧ u = .int .i64 pg ∧ u3 = .slice A3 xs.length c3 ∧ u4 = .slice A4 ys.length c4 ∧ 0 ≤ pg ∧ pg ≤ 4 * (k : Int) ∧ xs.length ≤ k ∧ ys.length ≤ k ∧ LayInv xs ys pg ∧ wr.ownsRow w.heap.size 50 3 (.slice A3 xs.length c3) xs.length (tv xs) ∧ wr.ownsRow w.heap.size 62 3 (.slice A4 ys.length c4) ys.length (tv ys) ∧ (∀ x, At A3 x → ¬ At A4 x) ∧ Cur wr g B A c bs ∧ Out g (g + 1) w wr) (fun _ _ _ v _ => 6 - (intOf v).toNat)
  case atStart =>
    refine ⟨0, 0, _, 0, _, 0, [], [], Nat.zero_le _, rfl, rfl, rfl, rfl, by omega, by omega, Nat.le_refl _, Nat.le_refl _, LayInv.nil, o3, o4, ?_, (hc.alloc _).alloc _, (Out.refl.alloc _).alloc _⟩
    rintro x ⟨o, h1⟩ ⟨o', h2⟩
    injection h1 with h1
    injection h1 with h1
    injection h2 with h2
    injection h2 with h2
    omega
  case round =>
    clear o3 o4 hc
    obtain ⟨k, pg, A3, c3, A4, c4, xs, ys, hk, rfl, rfl, rfl, rfl, hp0, hp1, hxl, hyl, hinv, o3, o4, hap, hcr, hor⟩ := hrel
    have HI := Lib.hid hinv
    have HAP := Lib.hid hap
    clear hinv hap
    have hzr := hor.size
    have key3 : ∀ {w1 : World}, Out g (g + 1) wr w1 → w1.ownsRow w.heap.size 50 3 (.slice A3 xs.length c3) xs.length (tv xs) := fun h => own_outS o3 h.setOf (fun x hx e => by have := (own_lo' o3 hx).1; omega)
    have key4 : ∀ {w1 : World}, Out g (g + 1) wr w1 → w1.ownsRow w.heap.size 62 3 (.slice A4 ys.length c4) ys.length (tv ys) := fun h => own_outS o4 h.setOf (fun x hx e => by have := (own_lo' o4 hx).1; omega)
    have HK3 := Lib.hid (fun w1 => @key3 w1)
    have HK4 := Lib.hid (fun w1 => @key4 w1)
    clear key3 key4
    go_wp2_with fail
    refine (l01Below_any 6 g B A c bs _ hb hB hcr (by omega)).mono ?_
    rintro e w1 ⟨y, rfl, hy0, hy1, -, hc1, ho1⟩
    have hy1 := hy1 (by omega)
    clear hcr
    by_cases hlt : (k : Int) < y
    · go_wp2_with fail
      refine (l01Below_any 2 g B A c bs _ hb hB hc1 (by omega)).mono ?_
      rintro e w2 ⟨z, rfl, hz0, hz1, -, hc2, ho2⟩
      have hz1 := hz1 (by omega)
      have ho12 := ho1.trans ho2
      clear hc1 ho1 ho2
      obtain ⟨p, hp⟩ : ∃ p, p = pg + z := ⟨_, rfl⟩
      have HP := Lib.hid hp
      have hpp0 : 0 ≤ p := by omega
      have hpp1 : p ≤ 4 * (k : Int) + 1 := by omega
      have HI2 := Lib.hid (HI.out.mono (show pg ≤ p by omega))
      clear hp
      go_wp2_with fail
      rw [← HP.out]
      refine (l01Once_any 3 g B A c bs _ hb hB hc2 (by omega)).mono ?_
      rintro e w3 ⟨once, rfl, hc3, ho3⟩
      have ho13 := ho12.trans ho3
      clear hc2 ho3 ho12
      cases once with
      | true =>
        go_wp2_with fail
        refine (l01Below_any 40 g B A c bs _ hb hB hc3 (by omega)).mono ?_
        rintro e w4 ⟨x, rfl, hx0, hx1, -, hc4, ho4⟩
        have hx1 := hx1 (by omega)
        have ho14 := ho13.trans ho4
        clear hc3 ho4 ho13
        obtain ⟨s, hs⟩ : ∃ s, s = 9 + x := ⟨_, rfl⟩
        have HS := Lib.hid hs
        have hpf := pagesFor_in (S := s) (by omega) (by omega)
        obtain ⟨n, hn⟩ : ∃ n, n = pagesFor s := ⟨_, rfl⟩
        have hn1 : 1 ≤ n ∧ n ≤ 3 := by omega
        have hlk : lOk p n s = true := by
          simp only [lOk, Bool.and_eq_true, decide_eq_true_eq]
          exact ⟨⟨⟨⟨by omega, by omega⟩, hn⟩, by omega⟩, by omega⟩
        have HLN := Lib.hid (fun W => largeNew_draw p s W (by rw [← hn]; exact hlk))
        rw [← hn] at HLN
        have HI3 := Lib.hid (HI2.out.large hpp0 (by omega) hlk)
        clear hs hpf hn hlk
        go_wp2_with fail
        rw [← HS.out]
        refine (HLN.out _).mono ?_
        rintro e w5 ⟨rfl, hb5⟩
        have o35 := own_below' (HK3.out _ ho14) hb5
        have o45 := own_below' (HK4.out _ ho14) hb5
        have hc5 := hc4.below hb5
        have hor5 := (hor.trans ho14).below hb5
        have hz5 := hor5.size
        clear hc4 ho14
        go_wp2_with (at_builtin; refine wpList_append_ow rfl (.tmp 33) (.tmp 35) _ rfl 62 ib (.agg #[.int .i64 0, .int .i64 0, .int .i64 0]) 3 24 Try.underlying25 hib jb0 jb1 jb2 rfl (by omega) w.heap.size A4 ys.length c4 (tv ys) rfl (own_below' (own_below' o45 ((Below.refl _ _).alloc (Nat.le_refl _) _)) ((Below.refl _ _).alloc (Nat.le_refl _) _)) (some ⟨w5.heap.size + 1, 0, none⟩) 1 1 (tv [(p, n, s)]) rfl rfl (Rd.lit (by simp)) (tv_one _) (by unfold maxLen; omega) (by omega) (by simp; omega) ?_; intro A6 c6 w6 hO6 hS6 hA6; have n6 := hS6.cell (show (World.alloc (World.alloc w5 (.cells #[.int .i64 p, .int .i64 n, .int .i64 s] 62)) (.cells #[.int .i64 p, .int .i64 n, .int .i64 s] 62)).cell? ⟨w5.heap.size, 1, none⟩ = some (.int .i64 n) by simp [go_sem]) (fun h => by have := (own_lo' o45 h).2; simp only at this; omega))
        go_roundw
        case rel =>
          have hal : ∀ x, At A6 x → ¬ At A3 x := own_apart (fun x h4 h3 => HAP.out x h3 h4) (own_below' (own_below' o35 ((Below.refl _ _).alloc (Nat.le_refl _) _)) ((Below.refl _ _).alloc (Nat.le_refl _) _)) hA6
          have hO := hO6
          rw [tv_snoc'] at hO
          refine ⟨k + 1, p + n, A3, c3, A6, c6, xs, ys ++ [(p, n, s)], by omega, by go_num, rfl, rfl, by simp, by omega, by omega, by omega, by simp; omega, HI3.out, own_outS (own_below' (own_below' o35 ((Below.refl _ _).alloc (Nat.le_refl _) _)) ((Below.refl _ _).alloc (Nat.le_refl _) _)) hS6 (fun x h3 h4 => HAP.out x h3 h4), by simpa using hO, fun x h3 h6 => hal x h6 h3, ?_, ?_⟩
          · exact Cur.outS' ((hc5.alloc _).alloc _) hS6 (fun b h => by have := (own_lo' o45 h).1; omega) hB
          · exact out_new ((hor5.alloc _).alloc _) hS6 (fun b h => .inr (own_lo' o45 h).1)
        case measure => simp [intOf]; omega
      | false =>
        go_wp2_with fail
        refine (l09Span_any g B A c bs _ hb hB hc3).mono ?_
        rintro e w5 ⟨p0, kk, bb, rfl, -, hbm, hc5, ho5⟩
        have ho15 := ho13.trans ho5
        have hsk : spOk p kk bb = true := by
          simp only [spOk, Bool.and_eq_true]
          exact ⟨btw_t (by omega) (by omega), hbm⟩
        have HI3 := Lib.hid (HI2.out.span hpp0 hsk)
        have o35 := HK3.out _ ho15
        have o45 := HK4.out _ ho15
        have hor5 := hor.trans ho15
        have hz5 := hor5.size
        have s0 : Cl (w5.alloc (.cells #[.int .i64 p0, .int .i64 kk, .int .i64 bb] 50)) ⟨w5.heap.size, 0, none⟩ (.int .i64 p0) := Cl.new rfl rfl
        obtain ⟨s0c, s0f⟩ := s0
        clear hc3 ho5 ho13 ho15 hbm hsk
        go_wp2_with (at_builtin; refine wpList_append_ow rfl (.tmp 45) (.tmp 47) _ rfl 50 ia (.agg #[.int .i64 0, .int .i64 0, .int .i64 0]) 3 24 Try.underlying24 hia ja0 ja1 ja2 rfl (by omega) w.heap.size A3 xs.length c3 (tv xs) rfl (own_below' (own_below' o35 ((Below.refl _ _).alloc (Nat.le_refl _) _)) ((Below.refl _ _).alloc (Nat.le_refl _) _)) (some ⟨w5.heap.size + 1, 0, none⟩) 1 1 (tv [(p, kk, bb)]) rfl rfl (Rd.lit (by simp)) (tv_one _) (by unfold maxLen; omega) (by omega) (by simp; omega) ?_; intro A6 c6 w6 hO6 hS6 hA6)
        go_roundw
        case rel =>
          have hal : ∀ x, At A6 x → ¬ At A4 x := own_apart HAP.out (own_below' (own_below' o45 ((Below.refl _ _).alloc (Nat.le_refl _) _)) ((Below.refl _ _).alloc (Nat.le_refl _) _)) hA6
          have hO := hO6
          rw [tv_snoc'] at hO
          refine ⟨k + 1, p + 1, A6, c6, A4, c4, xs ++ [(p, kk, bb)], ys, by omega, by go_num, rfl, by simp, rfl, by omega, by omega, by simp; omega, by omega, HI3.out, by simpa using hO, own_outS (own_below' (own_below' o45 ((Below.refl _ _).alloc (Nat.le_refl _) _)) ((Below.refl _ _).alloc (Nat.le_refl _) _)) hS6 (fun x h4 h3 => HAP.out x h3 h4), hal, ?_, ?_⟩
          · exact Cur.outS' ((hc5.alloc _).alloc _) hS6 (fun b h => by have := (own_lo' o35 h).1; omega) hB
          · exact out_new ((hor5.alloc _).alloc _) hS6 (fun b h => .inr (own_lo' o35 h).1)
        case measure => simp [intOf]; omega
    · have h3 := HK3.out _ ho1
      have h4 := HK4.out _ ho1
      have hor1 := hor.trans ho1
      go_wp2
      go_ret2
      exact ⟨A3, c3, A4, c4, xs, ys, rfl, HI.out.mono (by omega), by omega, by omega, Rd.own h3, Rd.own h4, hor1⟩
def DrawnL (w : World) (e : Ending) (w' : World) : Prop :=
  ∃ (A3 : Option Addr) (c3 : Nat) (A4 : Option Addr) (c4 : Nat) (xs ys : List T3), e = .returned (.tuple #[.slice A3 xs.length c3, .slice A4 ys.length c4]) ∧ LayInv xs ys 24 ∧ xs.length ≤ 6 ∧ ys.length ≤ 6 ∧ Rd w' w'.heap.size A3 (tv xs) ∧ Rd w' w'.heap.size A4 (tv ys) ∧ Below w.heap.size w w'
theorem drawLayout_any {B : Nat} (A : Option Addr) (c : Nat) (bs : List Int) (w : World) (hb : Bytes bs) (hr : Rd w B A (bv bs)) :
    Calls Try.prog 12 #[.slice A bs.length c] w (DrawnL w) := by
  go_enter Try.func12, Try.ntmps12
  go_wp2_with fail
  refine (l01New_any _ A c bs _ hb hr.lt).mono ?_
  rintro e w1 ⟨g, rfl, hg0, hg1, hc, hb1⟩
  go_wp2_with fail
  refine (l21Case_any g _ A c bs _ hb hg0 hc).mono ?_
  rintro e w2 ⟨A3, c3, A4, c4, xs, ys, rfl, h1, h2, h3, h4, h5, ho⟩
  have HB := Lib.hid (ho.bel hb1 hg0)
  go_wp2
  go_ret2
  exact ⟨A3, c3, A4, c4, xs, ys, rfl, h1, h2, h3, h4, h5, HB.out⟩
end Go.Proofs.Ytjimpmdelnnflaa
