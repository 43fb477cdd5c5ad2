/- slices.Delete of one range. -/
import Derived.Test.YtfdpplamebmdhaaRangeTkQ
import Derived.Test.YtfdpplamebmdhaaSetM
import Derived.Deep.RegionLaw
import Derived.Deep.MidRow
namespace Go.Proofs.Ytfdpplamebmdhaa
open Go.ChangeShapes Go.WideShapes Go.ChangeAt Go.RowKit
set_option linter.unusedVariables false
set_option linter.unusedSimpArgs false

theorem zeroRange (w : World) : (zeroValue 42).run Try.prog w = .ok (.agg #[.int .i64 0, .int .i64 0]) w := by kernel_rfl
set_option maxHeartbeats 4000000 in
set_option maxRecDepth 1000000 in
theorem delete_r (b c n j m : Nat) (xs : List Rg) (w : World) {S : Nat → Prop} (hW : Wr w S (some ⟨b, 0, none⟩) (pv xs)) (hl : xs.length = n) (hj : n = j + 1 + m) (hc : n ≤ c) (hm : c ≤ 9223372036854775807) :
    Calls Try.prog 46 #[.slice (some ⟨b, 0, none⟩) n c, .int .i64 j, .int .i64 ((j : Int) + 1)] w fun e w' => e = .returned (.slice (some ⟨b, 0, none⟩) (j + m) c) ∧ Wr w' S (some ⟨b, 0, none⟩) (pv (xs.take j ++ xs.drop (j + 1))) ∧ OutS S w w' := by
  obtain ⟨i0, hi0, hz0, hz1, hz2⟩ := info_parts infoRange
  have hpl := pv_length xs
  have hsb : S b ∧ ∀ k, k < n * 2 → (w.cell? ⟨b, 0 + k, none⟩).isSome = true ∧ w.frozen? ⟨b, 0 + k, none⟩ = false := by
    rcases hW with h | ⟨b', off', hA, hs, h⟩
    · rw [h] at hpl; simp at hpl; omega
    · injection hA with e
      injection e with e1 e2
      subst e1 e2
      refine ⟨hs, fun k hk => ?_⟩
      have := h k _ (List.getElem?_eq_getElem (by omega))
      exact ⟨by rw [this.1]; rfl, this.2⟩
  obtain ⟨hS, hsome⟩ := hsb
  obtain ⟨news, hnews⟩ : ∃ news, news = pv (xs.drop (j + 1)) := ⟨_, rfl⟩
  have hnl : news.length = m * 2 := by rw [hnews, pv_length]; simp; omega
  obtain ⟨A, hA, hsrc⟩ : ∃ A : Addr, (if c = j + 1 then some (⟨b, 0, none⟩ : Addr) else some ⟨b, (j + 1) * 2, none⟩) = some A ∧ Hid (∀ t u, news[t]? = some u → w.drew.cell? (A.add t) = some u) := by
    by_cases h : c = j + 1
    · refine ⟨⟨b, 0, none⟩, by simp [h], fun t u hu => ?_⟩
      have h0 : news.length = 0 := by rw [hnl]; omega
      rw [List.length_eq_zero_iff.1 h0] at hu
      simp at hu
    · refine ⟨⟨b, (j + 1) * 2, none⟩, by simp [h], fun t u hu => ?_⟩
      rw [hnews, pv_dr, List.getElem?_drop] at hu
      obtain ⟨b', off', hA, -, hc1, -⟩ := hW.at_ hu
      injection hA with e
      injection e with e1 e2
      subst e1 e2
      rw [Addr.add_lit]
      rw [Nat.zero_add] at hc1
      exact hc1
  have s1 : Hid (news.length = m * 2) := hnl
  have s2 : Hid (∀ u ∈ news, u.oneCell' = true) := by rw [hnews]; exact pv_one _
  have s3 : Hid (∀ t, t < news.length → (w.drew.cell? ⟨b, 0 + j * 2 + t, none⟩).isSome = true ∧ w.drew.frozen? ⟨b, 0 + j * 2 + t, none⟩ = false) := by
    intro t ht
    rw [hnl] at ht
    rw [Nat.add_assoc]
    exact hsome (j * 2 + t) (by omega)
  obtain ⟨W1, hW1⟩ : ∃ W1, W1 = w.drew.setCells b (0 + j * 2) news := ⟨_, rfl⟩
  have hr1 : Hid (Wr W1 S (some ⟨b, 0, none⟩) ((pv xs).take (j * 2) ++ news ++ (pv xs).drop (j * 2 + news.length))) := by
    rw [hW1]
    exact (hW.drew).many rfl news (j * 2) (by omega)
  have ho1 : Hid (OutS S w W1) := by
    rw [hW1]
    exact ((OutS.refl).drewN 1).trans (OutS.many hS _ _ _)
  have hcl : ∀ ty cc, (Builtin.clear_ #[25] ty #[.slice (some ⟨b, (j + m) * 2, none⟩) 1 cc]).run Try.prog W1 = .ok (.tuple #[]) (W1.setCells b ((j + m) * 2) [.int .i64 0, .int .i64 0]) := by
    intro ty cc
    refine run_clear_two W1 _ _ ty Try.underlying25 zeroRange b _ _ (fun t ht => ?_) (fun t ht => ?_)
    · rw [hW1]
      have h2 := World.isSome_setCells b news (0 + j * 2) w.drew ⟨b, (j + m) * 2 + t, none⟩ (by have := (hsome ((j + m) * 2 + t) (by omega)).1; rw [Nat.zero_add] at this; exact this)
      exact h2
    · rw [hW1, World.frozen?_setCells]
      have := (hsome ((j + m) * 2 + t) (by omega)).2
      rw [Nat.zero_add] at this
      exact this
  have hWX : Hid (W1 = w.drew.setCells b (0 + j * 2) news) := hW1
  have HFin : Hid (∀ W2, W2 = W1.setCells b ((j + m) * 2) [.int .i64 0, .int .i64 0] → Wr W2 S (some ⟨b, 0, none⟩) (pv (xs.take j ++ xs.drop (j + 1))) ∧ OutS S w W2) := by
    intro W2 h2
    subst h2
    refine ⟨?_, ho1.out.trans (OutS.many hS _ _ _)⟩
    have h3 := hr1.out.many rfl [.int .i64 0, .int .i64 0] ((j + m) * 2) (by simp [hpl, hnl]; omega)
    rw [Nat.zero_add] at h3
    have e : ((pv xs).take (j * 2) ++ news ++ (pv xs).drop (j * 2 + news.length)).take ((j + m) * 2) = pv (xs.take j ++ xs.drop (j + 1)) := by
      rw [pv_app, pv_tk, ← hnews, List.take_append_of_le_length (by simp [hpl, hnl]; omega), List.take_of_length_le (by simp [hpl, hnl]; omega)]
    rw [e] at h3
    exact (h3.front).front
  have hwr : IntKind.i64.wrap ((j : Int) + 1) = (j : Int) + 1 := by rw [IntKind.wrap_i64]; omega
  have hp0 : (0 : Int) ≤ (j : Int) + 1 := by omega
  have hp1 : (j : Int) + 1 ≤ (n : Int) := by omega
  have hp2 : ((j : Int) + 1).toNat = j + 1 := by omega
  have hjc : j ≤ c := by omega
  have hn1 : n - (j + 1) = m := by omega
  have hne : ((j : Int) == (j : Int) + 1) = false := by simp; omega
  have hHJ := Lib.hid hj
  have hHL := Lib.hid hl
  have hHP := Lib.hid hpl
  have hroom : j + m ≤ c := by omega
  have hn2 : n - (j + m) = 1 := by omega
  have hq1 : (j : Int) + (m : Int) ≤ (n : Int) := by omega
  have hcne : ¬ c = j + m := by omega
  clear hW1 hr1 ho1 hW hsome hnews hnl hpl hl hj
  go_enter Try.func46, Try.ntmps46
  go_wp2_with fail
  go_region_law (refine step_append_room rfl (.tmp 22) (.tmp 25) 25 rfl 42 i0 2 Try.underlying25 hi0 hz1 b 0 j c (by simp [Act.eval, Act.put]) A m (c - (j + 1)) news (by simp [Act.eval, Act.put]) s1.out hsrc.out s2.out hroom s3.out ?_; rw [← hWX.out])
  go_wp2
  go_ret
  exact ⟨rfl, HFin.out _ rfl⟩
end Go.Proofs.Ytfdpplamebmdhaa
