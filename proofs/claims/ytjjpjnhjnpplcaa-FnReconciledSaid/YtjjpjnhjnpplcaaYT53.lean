import Derived.Test.YtjjpjnhjnpplcaaYT43
import Derived.Test.YtjjpjnhjnpplcaaYT28
import Derived.Test.YtjjpjnhjnpplcaaYT15
import Derived.Test.YtjjpjnhjnpplcaaYT21
import Derived.Test.YtjjpjnhjnpplcaaYT14
import Derived.Test.YtjjpjnhjnpplcaaZAwC
set_option linter.unusedVariables false
set_option linter.unusedSimpArgs false
set_option maxRecDepth 20000
set_option maxHeartbeats 8000000
namespace Go.Proofs.Ytjjpjnhjnpplcaa
open Go.Aw
attribute [local irreducible] QRun LexD AWp TCall TMut fop fint fcmp fconv

/-! ### sums by trees -/
/-- after 't' steps from the last to the first -/
def smT (p : List Int) (v : List Nat) : Nat → List Nat
  | 0 => v
  | t + 1 => if hasK p (p.length - 1 - t) p.length then (smT p v t).set (p.length - 1 - t) (kidN p (smT p v t) ((p.length - 1 - t : Nat) : Int) p.length) else smT p v t
theorem smT_len (p : List Int) (v : List Nat) : ∀ t, (smT p v t).length = v.length
  | 0 => rfl
  | t + 1 => by
    unfold smT
    split
    · rw [List.length_set]; exact smT_len p v t
    · exact smT_len p v t
def leafL (p : List Int) : List Nat := (List.range p.length).filter fun i => !hasK p i p.length
def leafN (p : List Int) (i : Nat) : List Nat := (List.range i).filter fun i => !hasK p i p.length
theorem leafN_S (p : List Int) (i : Nat) : leafN p (i + 1) = if hasK p i p.length then leafN p i else leafN p i ++ [i] := by
  unfold leafN
  rw [List.range_succ, List.filter_append]
  cases h : hasK p i p.length <;> simp [h]
theorem leafN_mem {p : List Int} {n i : Nat} : i ∈ leafN p n ↔ i < n ∧ hasK p i p.length = false := by simp [leafN]
/-- leaves laid at their places -/
def scN (p : List Int) (lv : List Nat) : Nat → List Nat
  | 0 => List.replicate p.length 0
  | i + 1 => if hasK p i p.length then scN p lv i else (scN p lv i).set i (lv.getD (leafN p i).length 0)
theorem scN_len (p : List Int) (lv : List Nat) : ∀ i, (scN p lv i).length = p.length
  | 0 => by simp [scN]
  | i + 1 => by
    unfold scN
    split
    · exact scN_len p lv i
    · rw [List.length_set]; exact scN_len p lv i
def tsOk (p : List Int) (lv : List Nat) : Bool := isTree p && lv.all fin && decide (lv.length = (leafL p).length)
def treeS (p : List Int) (lv : List Nat) : List Nat × Bool := if tsOk p lv then ifAllF (smT p (scN p lv p.length) p.length) else ([], false)
def sumUp (p : List Int) (v : List Nat) : List Nat × Bool := if both p v then ifAllF (smT p v p.length) else ([], false)
theorem getD_set' {m : List Nat} {i j v : Nat} (hi : i < m.length) : (m.set i v).getD j 0 = if j = i then v else m.getD j 0 := by
  by_cases h : j = i
  · subst h; simp [List.getD_eq_getElem?_getD, hi]
  · simp [List.getD_eq_getElem?_getD, h, List.getElem?_set, Ne.symm h]
theorem kidN_congr {p : List Int} {v w : List Nat} {i : Int} : ∀ {n : Nat}, (∀ k, k < n → icmp .eql (p.getD k 0) i = true → v.getD k 0 = w.getD k 0) → kidN p v i n = kidN p w i n
  | 0, _ => rfl
  | n + 1, h => by
    rw [kidN, kidN, kidN_congr (fun k hk => h k (by omega))]
    by_cases hc : icmp .eql (p.getD n 0) i = true
    · rw [if_pos hc, if_pos hc, h n (by omega) hc]
    · rw [if_neg hc, if_neg hc]
/-- the sums depend on the leaves' values alone -/
theorem smT_agree {p : List Int} (hp : isTree p = true) {v w : List Nat} (hv : v.length = p.length) (hw : w.length = p.length) (hl : ∀ k, k < p.length → hasK p k p.length = false → v.getD k 0 = w.getD k 0) :
    ∀ t, t ≤ p.length → ∀ k, k < p.length → (p.length ≤ k + t ∨ hasK p k p.length = false) → (smT p v t).getD k 0 = (smT p w t).getD k 0
  | 0, _, k, hk, h => by
    rcases h with h | h
    · omega
    · exact hl k hk h
  | t + 1, ht, k, hk, h => by
    have ih := smT_agree hp hv hw hl t (by omega)
    unfold smT
    by_cases hh : hasK p (p.length - 1 - t) p.length = true
    · rw [if_pos hh, if_pos hh, getD_set' (by rw [smT_len]; omega), getD_set' (by rw [smT_len]; omega)]
      by_cases hki : k = p.length - 1 - t
      · rw [if_pos hki, if_pos hki]
        refine kidN_congr fun m hm hc => ih m hm (.inl ?_)
        have : ¬ m ≤ p.length - 1 - t := fun hle => by
          have h1 := isTree_at hp (k := m) (i := p.length - 1 - t) hle hm
          simp only [icmp, beq_iff_eq] at hc
          exact h1 hc
        omega
      · rw [if_neg hki, if_neg hki]
        exact ih k hk (h.elim (fun h => .inl (by omega)) .inr)
    · rw [if_neg hh, if_neg hh]
      by_cases hki : k = p.length - 1 - t
      · exact ih k hk (.inr (by rw [hki]; simpa using hh))
      · exact ih k hk (h.elim (fun h => .inl (by omega)) .inr)
theorem smT_same {p : List Int} (hp : isTree p = true) {v w : List Nat} (hv : v.length = p.length) (hw : w.length = p.length) (hl : ∀ k, k < p.length → hasK p k p.length = false → v.getD k 0 = w.getD k 0) : smT p v p.length = smT p w p.length := by
  refine List.ext_getElem (by rw [smT_len, smT_len, hv, hw]) fun k h1 h2 => ?_
  rw [smT_len, hv] at h1
  have := smT_agree hp hv hw hl p.length (Nat.le_refl _) k h1 (.inl (by omega))
  rw [smT_len] at h2
  have a : k < (smT p v p.length).length := by rw [smT_len]; omega
  have b : k < (smT p w p.length).length := by rw [smT_len]; omega
  simpa [List.getD_eq_getElem?_getD, a, b] using this
/-- the leaves of 'v', laid at their places, are those of 'v' -/
theorem scN_get {p : List Int} {lv : List Nat} : ∀ {n : Nat}, n ≤ p.length → ∀ k, k < p.length → hasK p k p.length = false → (scN p lv n).getD k 0 = if k < n then lv.getD (leafN p k).length 0 else 0
  | 0, _, k, hk, _ => by
    rw [if_neg (by omega)]
    simp [scN, List.getD_eq_getElem?_getD, hk]
  | n + 1, hn, k, hk, hh => by
    have ih := scN_get (p := p) (lv := lv) (n := n) (by omega) k hk hh
    unfold scN
    by_cases hc : hasK p n p.length = true
    · have hkn : k ≠ n := fun e => by rw [e, hc] at hh; cases hh
      rw [if_pos hc, ih]
      by_cases h1 : k < n
      · rw [if_pos h1, if_pos (by omega)]
      · rw [if_neg h1, if_neg (by omega)]
    · rw [if_neg hc, getD_set' (by rw [scN_len]; omega)]
      by_cases hkn : k = n
      · subst hkn
        rw [if_pos rfl, if_pos (by omega)]
      · rw [if_neg hkn, ih]
        by_cases h1 : k < n
        · rw [if_pos h1, if_pos (by omega)]
        · rw [if_neg h1, if_neg (by omega)]
theorem leaf_at {p : List Int} : ∀ {n k : Nat}, k < n → hasK p k p.length = false → (leafN p n)[(leafN p k).length]? = some k
  | 0, k, h, _ => by omega
  | n + 1, k, h, hh => by
    rw [leafN_S]
    by_cases hkn : k = n
    · subst hkn
      rw [hh]; simp
    · have ih := leaf_at (p := p) (n := n) (k := k) (by omega) hh
      split
      · exact ih
      · rw [List.getElem?_append_left (List.getElem?_eq_some_iff.1 ih).1]; exact ih
theorem sumUp_leaves {p : List Int} {v : List Nat} (hp : isTree p = true) (hv : v.length = p.length) :
    smT p (scN p ((leafL p).map fun i => v.getD i 0) p.length) p.length = smT p v p.length := by
  refine smT_same hp (scN_len ..) hv fun k hk hh => ?_
  rw [scN_get (Nat.le_refl _) k hk hh, if_pos hk]
  have := leaf_at (p := p) (n := p.length) hk hh
  have e : leafL p = leafN p p.length := rfl
  rw [e, List.getD_eq_getElem?_getD, List.getElem?_map, this]
  rfl
end Go.Proofs.Ytjjpjnhjnpplcaa
