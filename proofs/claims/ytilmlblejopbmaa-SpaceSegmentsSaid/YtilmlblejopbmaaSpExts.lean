/- What a list of extents that is handed in reads as. Plain lemma. -/
import Derived.Test.YtilmlblejopbmaaSpVoc
import Derived.Test.YtilmlblejopbmaaTypes08
namespace Go.Proofs.Ytilmlblejopbmaa
open Go.RowKit
theorem extsD_of : ∀ z : List (List Value), (∀ r ∈ z, IsExtentD r) → ∃ xs : List Ext, z = xs.map rowExt ∧ ∀ x ∈ xs, (Lit.int .u64 x.1).wf = true
  | [], _ => ⟨[], rfl, by simp⟩
  | r :: z, h => by
    obtain ⟨xs, hx, hw⟩ := extsD_of z (fun r' h' => h r' (by simp [h']))
    obtain ⟨a, b, d, hr, h1, _⟩ := h r (by simp)
    exact ⟨(a, b, d) :: xs, by rw [hx, hr]; rfl, by
      intro x hx'
      rcases List.mem_cons.1 hx' with rfl | hx'
      · exact h1
      · exact hw x hx'⟩
end Go.Proofs.Ytilmlblejopbmaa
