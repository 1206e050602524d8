/- Which act stands where in the acts of a move. Plain lemmas over lists; no condition. -/
import Derived.Test.YthjbjlokpcpceaaActs
namespace Go.Proofs.Ythjbjlokpcpceaa
open Go.RowKit
set_option linter.unusedVariables false

theorem outR_get (p f : Int) : ∀ (N k : Nat), k < N → (outR p f N)[k]? = some (actR 1 (phI p (f + k)) (3 + k) false 0 0 0 0)
  | 0, k, h => by omega
  | N + 1, k, h => by
    unfold outR
    by_cases hk : k < N
    · rw [List.getElem?_append_left (by rw [outR_len]; exact hk)]; exact outR_get p f N k hk
    · obtain rfl : k = N := by omega
      rw [List.getElem?_append_right (by rw [outR_len]; omega), outR_len]; simp
theorem inR_get (p t : Int) : ∀ (N k : Nat), k < N → (inR p t N)[k]? = some (actR 1 (3 + k) (phI p (t + k)) false 0 0 0 0)
  | 0, k, h => by omega
  | N + 1, k, h => by
    unfold inR
    by_cases hk : k < N
    · rw [List.getElem?_append_left (by rw [inR_len]; exact hk)]; exact inR_get p t N k hk
    · obtain rfl : k = N := by omega
      rw [List.getElem?_append_right (by rw [inR_len]; omega), inR_len]; simp
/-- A row that copies nothing. -/
def NoCopy (r : List Value) : Prop := ∃ k f t b s f' t' n, r = actR k f t b s f' t' n ∧ k ≠ 1
theorem noCopy (k f t : Int) (b : Bool) (s f' t' n : Int) (h : k ≠ 1) : NoCopy (actR k f t b s f' t' n) := ⟨k, f, t, b, s, f', t', n, rfl, h⟩
theorem tail_no {j : Nat} {r : List Value} (h : tailR[j]? = some r) : NoCopy r := by
  have hm := List.mem_of_getElem? h
  simp only [tailR, List.mem_cons, List.not_mem_nil, or_false] at hm
  rcases hm with rfl | rfl | rfl <;> exact noCopy _ _ _ _ _ _ _ _ (by decide)
theorem mid_no {s f t n : Int} {j : Nat} {r : List Value} (h : (midR s f t n)[j]? = some r) : NoCopy r := by
  have hm := List.mem_of_getElem? h
  simp only [midR, List.mem_cons, List.not_mem_nil, or_false] at hm
  rcases hm with rfl | rfl | rfl <;> exact noCopy _ _ _ _ _ _ _ _ (by decide)
theorem last_get (p t : Int) (N k : Nat) (hk : k < N + 3) : ∃ r, (inR p t N ++ tailR)[k]? = some r ∧ ((k < N ∧ r = actR 1 (3 + k) (phI p (t + k)) false 0 0 0 0) ∨ (N ≤ k ∧ NoCopy r)) := by
  by_cases h : k < N
  · exact ⟨_, by rw [List.getElem?_append_left (by rw [inR_len]; exact h)]; exact inR_get p t N k h, .inl ⟨h, rfl⟩⟩
  · have hl : k - N < tailR.length := by simp [tailR]; omega
    refine ⟨tailR[k - N], ?_, .inr ⟨by omega, tail_no (List.getElem?_eq_getElem hl)⟩⟩
    rw [List.getElem?_append_right (by rw [inR_len]; omega), inR_len]
    exact List.getElem?_eq_getElem hl
theorem acts_get (p s f t : Int) (N k : Nat) (hk : k < N + 3 + (N + 3)) : ∃ r, (outR p f N ++ midR s f t N ++ (inR p t N ++ tailR))[k]? = some r ∧
    ((k < N ∧ r = actR 1 (phI p (f + k)) (3 + k) false 0 0 0 0) ∨ (N ≤ k ∧ k < N + 3 ∧ NoCopy r) ∨ (∃ j, k = N + 3 + j ∧ j < N ∧ r = actR 1 (3 + j) (phI p (t + j)) false 0 0 0 0) ∨ (N + 3 + N ≤ k ∧ NoCopy r)) := by
  by_cases h1 : k < N
  · refine ⟨_, ?_, .inl ⟨h1, rfl⟩⟩
    rw [List.getElem?_append_left (by simp [outR_len, midR]; omega), List.getElem?_append_left (by rw [outR_len]; exact h1)]
    exact outR_get p f N k h1
  · by_cases h2 : k < N + 3
    · have hl : k - N < (midR s f t N).length := by simp [midR]; omega
      refine ⟨(midR s f t N)[k - N], ?_, .inr (.inl ⟨by omega, h2, mid_no (List.getElem?_eq_getElem hl)⟩)⟩
      rw [List.getElem?_append_left (by simp [outR_len, midR]; omega), List.getElem?_append_right (by rw [outR_len]; omega), outR_len]
      exact List.getElem?_eq_getElem hl
    · obtain ⟨r, hr, h3⟩ := last_get p t N (k - (N + 3)) (by omega)
      refine ⟨r, ?_, ?_⟩
      · rw [List.getElem?_append_right (by simp [outR_len, midR]; omega)]
        have : (outR p f N ++ midR s f t N).length = N + 3 := by simp [outR_len, midR]
        rw [this]; exact hr
      · rcases h3 with ⟨h3, h4⟩ | ⟨h3, h4⟩
        · exact .inr (.inr (.inl ⟨k - (N + 3), by omega, h3, h4⟩))
        · exact .inr (.inr (.inr ⟨by omega, h4⟩))
end Go.Proofs.Ythjbjlokpcpceaa
