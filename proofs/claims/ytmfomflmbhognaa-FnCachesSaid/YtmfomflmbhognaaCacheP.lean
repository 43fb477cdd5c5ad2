/- What a valid cache is, in plain words. -/
import Derived.Test.YtmfomflmbhognaaCls
import Derived.Test.YtmfomflmbhognaaHasI
namespace Go.Proofs.Ytmfomflmbhognaa

def addrOk (k : Nat) (x : Int) : Bool := btw x 0 511 && decide (x % cs k = 0)
def rowOk (k : Nat) (l : List Int) : Bool := decide (l.length ≤ 8) && l.all (addrOk k)
def cOkB (xss : List (List Int)) : Bool := decide (xss.length = 4) && (List.range xss.length).all (fun k => rowOk k (xss.getD k [])) && decide (xss.flatten.Nodup)
def pre (xss : List (List Int)) (k j : Nat) : List Int := (xss.take k).flatten ++ (xss.getD k []).take j
theorem getD_at {xss : List (List Int)} {k : Nat} (h : k < xss.length) : xss.getD k [] = xss[k] := by simp [List.getD_eq_getElem?_getD, List.getElem?_eq_getElem h]
theorem cOk_len {xss : List (List Int)} (h : xss.length ≠ 4) : cOkB xss = false := by simp [cOkB, h]
theorem cOk_row {xss : List (List Int)} {k : Nat} (hk : k < xss.length) (h : rowOk k xss[k] = false) : cOkB xss = false := by
  have : (List.range xss.length).all (fun k => rowOk k (xss.getD k [])) = false := by
    rw [List.all_eq_false]
    exact ⟨k, List.mem_range.2 hk, by rw [getD_at hk, h]; simp⟩
  simp only [cOkB, this, Bool.and_false, Bool.false_and]
theorem cOk_addr {xss : List (List Int)} {k j : Nat} (hk : k < xss.length) (hj : j < xss[k].length) (h : addrOk k xss[k][j] = false) : cOkB xss = false := by
  refine cOk_row hk ?_
  have : xss[k].all (addrOk k) = false := by
    rw [List.all_eq_false]
    exact ⟨xss[k][j], List.getElem_mem hj, by simp [h]⟩
  simp [rowOk, this]
theorem cOk_long {xss : List (List Int)} {k : Nat} (hk : k < xss.length) (h : 8 < xss[k].length) : cOkB xss = false := by
  refine cOk_row hk ?_
  have : ¬ xss[k].length ≤ 8 := by omega
  simp [rowOk, this]
theorem pre_succ {xss : List (List Int)} {k j : Nat} (hk : k < xss.length) (hj : j < xss[k].length) : pre xss k (j + 1) = pre xss k j ++ [xss[k][j]] := by
  simp only [pre, getD_at hk]
  rw [List.take_succ_eq_append_getElem hj, List.append_assoc]
theorem pre_end {xss : List (List Int)} {k : Nat} (hk : k < xss.length) : pre xss k xss[k].length = pre xss (k + 1) 0 := by
  simp only [pre, getD_at hk, List.take_length, List.take_zero, List.append_nil]
  rw [List.take_succ_eq_append_getElem hk, List.flatten_append]
  simp
theorem cOk_dup {xss : List (List Int)} {k j : Nat} (hk : k < xss.length) (hj : j < xss[k].length) (h : xss[k][j] ∈ pre xss k j) : cOkB xss = false := by
  have hs : (pre xss k (j + 1)).Sublist xss.flatten := by
    have h1 : xss.flatten = (xss.take k).flatten ++ (xss[k] ++ (xss.drop (k + 1)).flatten) := by
      conv => lhs; rw [← List.take_append_drop k xss]
      rw [List.flatten_append, List.drop_eq_getElem_cons hk, List.flatten_cons]
    rw [h1]
    simp only [pre, getD_at hk]
    exact List.Sublist.append (List.Sublist.refl _) ((List.take_sublist _ _).trans (List.sublist_append_left _ _))
  have : ¬ xss.flatten.Nodup := by
    intro hn
    have h2 := hn.sublist hs
    rw [pre_succ hk hj, List.nodup_append] at h2
    exact h2.2.2 _ h _ (by simp) rfl
  simp [cOkB, this]
theorem nodup_snoc {l : List Int} {x : Int} (h : l.Nodup) (hx : x ∉ l) : (l ++ [x]).Nodup := by
  rw [List.nodup_append]
  refine ⟨h, by simp, fun a ha b hb => ?_⟩
  simp at hb
  subst hb
  exact fun e => hx (e ▸ ha)
theorem row_all {xss : List (List Int)} {k : Nat} (hk : k < xss.length) (h8 : xss[k].length ≤ 8) (h : ∀ j (hj : j < xss[k].length), addrOk k xss[k][j] = true) : rowOk k xss[k] = true := by
  simp only [rowOk, h8, decide_true, Bool.true_and, List.all_eq_true]
  intro x hx
  obtain ⟨j, hj, rfl⟩ := List.getElem_of_mem hx
  exact h j hj
theorem cOk_all {xss : List (List Int)} (h4 : xss.length = 4) (h : ∀ k (hk : k < xss.length), rowOk k xss[k] = true) (hn : (pre xss xss.length 0).Nodup) : cOkB xss = true := by
  have h1 : (List.range xss.length).all (fun k => rowOk k (xss.getD k [])) = true := by
    rw [List.all_eq_true]
    intro k hk
    have hk := List.mem_range.1 hk
    rw [getD_at hk]
    exact h k hk
  have h2 : xss.flatten.Nodup := by simpa [pre] using hn
  rw [cOkB, h1]
  simp [h2, h4]
end Go.Proofs.Ytmfomflmbhognaa
