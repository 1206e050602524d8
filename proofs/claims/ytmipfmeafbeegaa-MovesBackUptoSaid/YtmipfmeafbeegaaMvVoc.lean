/- Words for moves: rows of them. Plain lemmas; no condition. -/
import Derived.Test.YtmipfmeafbeegaaMvPure
namespace Go.Proofs.Ytmipfmeafbeegaa
open Go.RowKit
set_option linter.unusedVariables false

def rowMov (m : Mov) : List Value := [.int .u64 m.1, .int .i64 m.2.1, .int .i64 m.2.2.1, .int .i64 m.2.2.2]
theorem infoTMov : (Try.prog.info? 33).map (fun i => (i.zero, i.size, i.bytes)) = some (some (.agg #[.int .u64 0, .int .i64 0, .int .i64 0, .int .i64 0]), 4, 32) := by kernel_rfl
theorem rowMov_one (x : Mov) : ∀ u ∈ rowMov x, u.oneCell' = true := by
  intro u hu
  simp only [rowMov, List.mem_cons, List.not_mem_nil, or_false] at hu
  rcases hu with rfl | rfl | rfl | rfl <;> rfl
theorem movRow_len (xs : List Mov) : ∀ r ∈ xs.map rowMov, r.length = 4 := by
  intro r hr; simp only [List.mem_map] at hr; obtain ⟨y, _, rfl⟩ := hr; rfl
theorem movRows_len (xs : List Mov) : ((xs.map rowMov).flatten).length = xs.length * 4 := by
  rw [flat_len 4 _ (movRow_len xs)]; simp
theorem movRows_one (xs : List Mov) : ∀ u ∈ (xs.map rowMov).flatten, u.oneCell' = true := by
  intro u hu
  obtain ⟨r, hr, hu⟩ := List.mem_flatten.1 hu
  obtain ⟨y, _, rfl⟩ := List.mem_map.1 hr
  exact rowMov_one y u hu
end Go.Proofs.Ytmipfmeafbeegaa
