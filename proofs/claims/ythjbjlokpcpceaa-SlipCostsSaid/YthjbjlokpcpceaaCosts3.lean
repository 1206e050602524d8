/- The walk of SlipCosts, whatever is handed in. -/
import Derived.Test.YthjbjlokpcpceaaCosts2
namespace Go.Proofs.Ythjbjlokpcpceaa
open Go.RowKit
set_option linter.unusedVariables false

theorem slipcosts_row (n s f t N : Int) (w : World) (_ : (Lit.int .i64 n).wf = true) (_ : (Lit.int .u64 s).wf = true) (_ : (Lit.int .i64 f).wf = true) (_ : (Lit.int .i64 t).wf = true) (_ : (Lit.int .i64 N).wf = true) :
    Calls Try.prog 4 #[.int .i64 n, .agg #[.int .u64 s, .int .i64 f, .int .i64 t, .int .i64 N]] w fun e w' => e = .returned (.bool true) ∧ Below w.heap.size w w' := by
  by_cases hn : 256 ≤ n ∧ n ≤ 65536
  · obtain ⟨h1, h2⟩ := hn
    obtain ⟨s0, hs⟩ : ∃ s0, s0 = (n - 13) / 8 := ⟨_, rfl⟩
    obtain ⟨g, hg⟩ : ∃ g, g = (n - (13 + 3 * s0)) / 32 := ⟨_, rfl⟩
    cases hm : mayB (g * 31) s f t N with
    | true =>
      have hm' := (mayB_iff _ _ _ _ _).1 hm
      obtain ⟨k, rfl⟩ : ∃ k : Nat, N = (k : Int) := ⟨N.toNat, by omega⟩
      exact costs_ok n s0 g s f t k w h1 h2 hs hg hm
    | false =>
      cases hj : jmayB true s f t N with
      | false => exact costs_bad n s f t N _ _ _ _ _ _ _ _ _ 0 1 11 [] w (.inr ⟨rfl, by decide⟩) (fun w => refplan_ok n s0 g w h1 h2 hs hg) (ans_nil (fun w1 => acts_no n s0 g s f t N w1 h1 h2 hs hg hm)) (ans_nil (fun w1 => redo_form n s0 g true s f t N w1 h1 h2 hs hg hj))
      | true => exact costs_bad n s f t N _ _ _ _ _ _ _ _ _ 0 1 1 [] w (.inr ⟨rfl, by decide⟩) (fun w => refplan_ok n s0 g w h1 h2 hs hg) (ans_nil (fun w1 => acts_no n s0 g s f t N w1 h1 h2 hs hg hm)) (ans_nil (fun w1 => redo_far n s0 g s f t N w1 h1 h2 hs hg hj hm))
  · exact costs_bad n s f t N 0 0 0 0 0 0 0 0 0 1 1 1 [] w (.inl (by decide)) (fun w => refplan_bad n w (by omega)) (ans_nil (fun w1 => acts_zero s f t N w1)) (ans_nil (fun w1 => redo_zero true s f t N w1))
end Go.Proofs.Ythjbjlokpcpceaa
