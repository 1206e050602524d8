/- Plain laws of extents that stand one behind the other. -/
import Derived.Test.YtmipfmeafbeegaaSpGapsPure
import Derived.Test.YtmipfmeafbeegaaSpAdd
namespace Go.Proofs.Ytmipfmeafbeegaa
open Go.RowKit
set_option linter.unusedVariables false

theorem check_cap {C : Int} {xs : List Ext} (h : checkE C xs = true) : 0 ≤ C ∧ C ≤ 65536 := by
  simp only [checkE, Bool.and_eq_true, decide_eq_true_eq] at h; exact h.1
theorem chain_snoc : ∀ (xs : List Ext) (en : Int) (x : Ext), Chain en xs → endF en xs ≤ x.2.1 → 1 ≤ x.2.2 → x.2.2 ≤ 9 → x.2.1 + x.2.2 ≤ 65536 → Chain en (xs ++ [x])
  | [], en, x, _, h, h1, h2, h3 => ⟨h, h1, h2, h3, trivial⟩
  | y :: r, en, x, hc, h, h1, h2, h3 => by
    obtain ⟨c1, c2, c3, c4, c5⟩ := hc
    exact ⟨c1, c2, c3, c4, chain_snoc r _ x c5 h h1 h2 h3⟩
theorem endF_snoc : ∀ (xs : List Ext) (en : Int) (x : Ext), endF en (xs ++ [x]) = x.2.1 + x.2.2
  | [], _, _ => rfl
  | y :: r, en, x => endF_snoc r _ x
theorem chain_mem : ∀ (xs : List Ext) (en : Int), en ≤ 65536 → Chain en xs → ∀ y ∈ xs, en ≤ y.2.1 ∧ y.2.1 + y.2.2 ≤ endF en xs ∧ 1 ≤ y.2.2
  | [], _, _, _, y, hy => by simp at hy
  | x :: r, en, h0, hc, y, hy => by
    obtain ⟨c1, c2, c3, c4, c5⟩ := hc
    have hg := (endF_ge r _ c4 c5).1
    rcases List.mem_cons.1 hy with rfl | hy
    · exact ⟨c1, hg, c2⟩
    · have := chain_mem r _ c4 c5 y hy
      simp only [endF]; omega
theorem chain_ran : ∀ (xs : List Ext) (en : Int), en ≤ 65536 → Chain en xs → Ran lessE xs
  | [], _, _, _ => List.Pairwise.nil
  | x :: r, en, h0, hc => by
    obtain ⟨c1, c2, c3, c4, c5⟩ := hc
    refine List.Pairwise.cons (fun y hy => ?_) (chain_ran r _ c4 c5)
    have := chain_mem r _ c4 c5 y hy
    simp [lessE]; omega
theorem rightF_snoc (C : Int) : ∀ (xs : List Ext) (en : Int) (ss : List Int) (x : Ext), rightF C en ss xs = true → oneB C x.1 x.2.1 x.2.2 = true → endF en xs ≤ x.2.1 → x.1 ∉ ss → (∀ y ∈ xs, y.1 ≠ x.1) → rightF C en ss (xs ++ [x]) = true
  | [], en, ss, x, _, h1, h2, h3, _ => by
    rw [List.nil_append, rightF_step C en ss x [] h1 h2 h3]; rfl
  | y :: r, en, ss, x, h, h1, h2, h3, h4 => by
    simp only [rightF, Bool.and_eq_true, decide_eq_true_eq, Bool.not_eq_true', decide_eq_false_iff_not] at h
    obtain ⟨⟨⟨g1, g2⟩, g3⟩, g4⟩ := h
    rw [List.cons_append, rightF_step C en ss y _ g1 g2 g3]
    refine rightF_snoc C r _ _ x g4 h1 h2 ?_ (fun z hz => h4 z (by simp [hz]))
    intro hm
    rcases List.mem_cons.1 hm with e | e
    · exact h4 y (by simp) e.symm
    · exact h3 e
theorem checkE_snoc {C : Int} {xs : List Ext} {x : Ext} (h : checkE C xs = true) (h1 : oneB C x.1 x.2.1 x.2.2 = true) (h2 : endF 0 xs ≤ x.2.1) (h4 : xs.any (fun y => decide (y.1 = x.1)) = false) : checkE C (xs ++ [x]) = true := by
  simp only [checkE, Bool.and_eq_true] at h ⊢
  refine ⟨h.1, rightF_snoc C xs _ _ x h.2 h1 h2 (by simp) (fun y hy => ?_)⟩
  have := List.any_eq_false.1 h4 y hy
  simpa using this
theorem chain_small {C : Int} {xs : List Ext} (h : checkE C xs = true) : xs.length ≤ 65536 := by
  have hch := chainE h
  have h1 := endF_ge xs 0 (by omega) hch
  have : ∀ (l : List Ext) (en : Int), Chain en l → (l.length : Int) ≤ sumN l := by
    intro l
    induction l with
    | nil => intro _ _; simp [sumN]
    | cons y r ih =>
      intro en hc
      obtain ⟨c1, c2, c3, c4, c5⟩ := hc
      have := ih _ c5
      simp only [List.length_cons, sumN]; omega
  have h2 := this xs 0 hch
  have h3 := sumN_ge xs 0 hch
  omega
end Go.Proofs.Ytmipfmeafbeegaa
