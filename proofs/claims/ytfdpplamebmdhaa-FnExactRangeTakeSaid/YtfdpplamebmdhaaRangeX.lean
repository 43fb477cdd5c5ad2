/- How long RangePut's answer is. -/
import Derived.Test.YtfdpplamebmdhaaRangeP
namespace Go.Proofs.Ytfdpplamebmdhaa
theorem ip_len : ∀ (r : Rg) (l : List Rg) (d : Bool) (l' : List Rg), ip r d l = some l' → l'.length ≤ l.length + 1
  | r, [], d, l', h => by
    unfold ip at h
    cases d <;> simp at h <;> subst h <;> simp
  | r, x :: l, d, l', h => by
    unfold ip at h
    split at h
    · exact absurd h (by simp)
    split at h
    · have := ip_len _ l d l' h; simp; omega
    split at h
    · have := ip_len _ l d l' h; simp; omega
    split at h
    · rename_i hd
      obtain ⟨t, ht, rfl⟩ := Option.map_eq_some_iff.mp h
      have := ip_true _ l t ht
      simp; omega
    · obtain ⟨t, ht, rfl⟩ := Option.map_eq_some_iff.mp h
      have := ip_len _ l d t ht
      simp; omega
where
  ip_true : ∀ (r : Rg) (l : List Rg) (l' : List Rg), ip r true l = some l' → l'.length ≤ l.length
  | r, [], l', h => by
    unfold ip at h; simp at h; subst h; simp
  | r, x :: l, l', h => by
    unfold ip at h
    split at h
    · exact absurd h (by simp)
    split at h
    · have := ip_true _ l l' h; simp; omega
    split at h
    · have := ip_true _ l l' h; simp; omega
    split at h
    · rename_i hd; exact absurd hd.2 (by simp)
    · obtain ⟨t, ht, rfl⟩ := Option.map_eq_some_iff.mp h
      have := ip_true _ l t ht
      simp; omega
end Go.Proofs.Ytfdpplamebmdhaa
