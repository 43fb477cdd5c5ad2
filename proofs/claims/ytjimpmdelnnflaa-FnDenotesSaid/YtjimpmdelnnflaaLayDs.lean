/- A drawn layout is right. -/
import Derived.Test.YtjimpmdelnnflaaLayDr
import Derived.Test.YtjimpmdelnnflaaLayP
import Derived.Test.YtjimpmdelnnflaaLargeA
import Derived.Test.YtjimpmdelnnflaaSpanS
import Derived.Test.YtjimpmdelnnflaaLargeS
import Derived.Test.YtjimpmdelnnflaaL2
namespace Go.Proofs.Ytjimpmdelnnflaa
open Go.ChangeShapes Go.WideShapes Go.ChangeAt Go.RowKit
set_option linter.unusedVariables false
set_option linter.unusedSimpArgs false

set_option maxHeartbeats 4000000 in
theorem largeNew_draw (P S : Int) (w : World) (hk : lOk P (pagesFor S) S = true) :
    Calls Try.prog 61 #[.int .i64 P, .int .i64 S] w fun e w' => e = .returned (.tuple #[.agg #[.int .i64 P, .int .i64 (pagesFor S), .int .i64 S], .bool true]) ∧ Below w.heap.size w w' := by
  go_enter Try.func61, Try.ntmps61
  go_wp2_with (first | (go_at_call 80; refine (pages_s _ _).mono ?_; rintro e w1 ⟨rfl, rfl⟩))
  refine (largeOk_s _ _ _ _).mono ?_
  rintro e w1 ⟨rfl, hb⟩
  obtain ⟨hc, hf⟩ := bcell hb
  have hz : w.heap.size + 1 < w1.heap.size := by have := hb.size; simp at this; omega
  have c0 : w1.cell? ⟨w.heap.size, 0, none⟩ = some (.int .i64 0) := keep hb (by simp [go_sem])
  have c1 : w1.cell? ⟨w.heap.size, 1, none⟩ = some (.int .i64 0) := keep hb (by simp [go_sem])
  have c2 : w1.cell? ⟨w.heap.size, 2, none⟩ = some (.int .i64 0) := keep hb (by simp [go_sem])
  go_wp2
  refine bodyPost_ret (v := .tuple #[.agg #[.int .i64 P, .int .i64 (pagesFor S), .int .i64 S], .bool true]) (by simp [results, Try.results61, go_sem, c0, c1, c2]) rfl ⟨rfl, ?_⟩
  (repeat' (first | (with_reducible exact Below.refl _ _) | (with_reducible refine bel_alloc ?_ ?_ _) | (with_reducible refine Below.setCell ?_ ?_ _) | (with_reducible refine below_drewN ?_ _) | (with_reducible refine Below.drew ?_) | (with_reducible refine bel_step hb ?_ ?_) | (with_reducible exact Nat.le_refl _) | (with_reducible assumption) | omega | (simp only [World.size_alloc, World.size_setCell, World.size_drew]; omega) | (simp; omega) | (simp; done)))
structure LayInv (xs ys : List T3) (pg : Int) : Prop where
  sp : ∀ x ∈ xs, spO x = true
  lg : ∀ y ∈ ys, lgO y = true
  nd : (xs.map (·.1) ++ ys.flatMap lall).Nodup
  bd : ∀ q ∈ xs.map (·.1) ++ ys.flatMap lall, 0 ≤ q ∧ q < pg
theorem LayInv.nil : LayInv [] [] 0 := ⟨by simp, by simp, by simp, by simp⟩
theorem LayInv.mono {xs ys : List T3} {p q : Int} (h : LayInv xs ys p) (hq : p ≤ q) : LayInv xs ys q := ⟨h.sp, h.lg, h.nd, fun a ha => ⟨(h.bd a ha).1, by have := (h.bd a ha).2; omega⟩⟩
theorem LayInv.span {xs ys : List T3} {p : Int} (h : LayInv xs ys p) {k b : Int} (h0 : 0 ≤ p) (hk : spOk p k b = true) : LayInv (xs ++ [(p, k, b)]) ys (p + 1) := by
  have hd : p ∉ xs.map (·.1) ++ ys.flatMap lall := fun hh => by have := (h.bd p hh).2; omega
  have e : (xs ++ [(p, k, b)]).map (·.1) ++ ys.flatMap lall = xs.map (·.1) ++ ([p] ++ ys.flatMap lall) := by simp
  refine ⟨fun x hx => ?_, h.lg, ?_, fun q hq => ?_⟩
  · rcases List.mem_append.1 hx with hx | hx
    · exact h.sp x hx
    · simp at hx; subst hx; exact hk
  · rw [e]
    obtain ⟨a1, a2, a3⟩ := List.nodup_append.1 h.nd
    refine List.nodup_append.2 ⟨a1, List.nodup_append.2 ⟨by simp, a2, fun a ha b hb ee => ?_⟩, fun a ha b hb ee => ?_⟩
    · simp at ha
      subst ha ee
      exact hd (List.mem_append_right _ hb)
    · rcases List.mem_append.1 hb with hb | hb
      · simp at hb
        subst hb ee
        exact hd (List.mem_append_left _ ha)
      · exact a3 a ha b hb ee
  · rw [e] at hq
    rcases List.mem_append.1 hq with hq | hq
    · have := h.bd q (List.mem_append_left _ hq); omega
    · rcases List.mem_append.1 hq with hq | hq
      · simp at hq; omega
      · have := h.bd q (List.mem_append_right _ hq); omega
theorem LayInv.large {xs ys : List T3} {p : Int} (h : LayInv xs ys p) {n s : Int} (h0 : 0 ≤ p) (hn : 0 ≤ n) (hk : lOk p n s = true) : LayInv xs (ys ++ [(p, n, s)]) (p + n) := by
  have e : xs.map (·.1) ++ (ys ++ [(p, n, s)]).flatMap lall = (xs.map (·.1) ++ ys.flatMap lall) ++ lpg (p, n, s) n.toNat := by simp [lall]
  have hm : ∀ q ∈ lpg (p, n, s) n.toNat, p ≤ q ∧ q < p + n := by
    intro q hq
    simp only [lpg, List.mem_map, List.mem_range] at hq
    obtain ⟨t, ht, rfl⟩ := hq
    omega
  refine ⟨h.sp, fun y hy => ?_, ?_, fun q hq => ?_⟩
  · rcases List.mem_append.1 hy with hy | hy
    · exact h.lg y hy
    · simp at hy; subst hy; exact hk
  · rw [e]
    refine List.nodup_append.2 ⟨h.nd, ?_, fun a ha b hb ee => ?_⟩
    · have hr : (List.range n.toNat).Nodup := List.nodup_range
      unfold lpg
      rw [List.nodup_iff_pairwise_ne, List.pairwise_map]
      refine (List.nodup_iff_pairwise_ne.1 hr).imp fun hne he => hne ?_
      omega
    · have h1 := (h.bd a ha).2
      have h2 := (hm b hb).1
      omega
  · rw [e] at hq
    rcases List.mem_append.1 hq with hq | hq
    · have := h.bd q hq; omega
    · have := hm q hq; omega
theorem LayInv.ok {xs ys : List T3} {p : Int} (h : LayInv xs ys p) : layOk xs ys = true := by
  have a : xs.all spO = true := by rw [List.all_eq_true]; exact h.sp
  have b : ys.all lgO = true := by rw [List.all_eq_true]; exact h.lg
  simp [layOk, a, b, h.nd]
theorem tv_snoc' (xs : List T3) (x : T3) : tv xs ++ tv [x] = tv (xs ++ [x]) := by simp [tv]
end Go.Proofs.Ytjimpmdelnnflaa
