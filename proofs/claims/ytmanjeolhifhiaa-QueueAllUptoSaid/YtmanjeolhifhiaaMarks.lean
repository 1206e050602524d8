/- Plain laws: what is left of a list where marks are set; no program. -/
import Derived.Test.YtmanjeolhifhiaaQueuePure
namespace Go.Proofs.Ytmanjeolhifhiaa
set_option linter.unusedVariables false
section
variable {τ : Type}
/-- What bears no mark. -/
def left : List τ → List Bool → List τ
  | [], _ => []
  | _ :: _, [] => []
  | x :: l, b :: m => if b then left l m else x :: left l m
theorem left_none : ∀ l : List τ, left l (List.replicate l.length false) = l
  | [] => rfl
  | x :: l => by simp [left, List.replicate_succ, left_none l]
theorem left_mem {a : τ} : ∀ (l : List τ) (m : List Bool), a ∈ left l m → ∃ k : Nat, m[k]? = some false ∧ l[k]? = some a
  | [], _, h => by simp [left] at h
  | _ :: _, [], h => by simp [left] at h
  | x :: l, b :: m, h => by
    cases b with
    | true =>
      simp [left] at h
      obtain ⟨k, h1, h2⟩ := left_mem l m h
      exact ⟨k + 1, by simpa using h1, by simpa using h2⟩
    | false =>
      simp [left] at h
      rcases h with rfl | h
      · exact ⟨0, rfl, rfl⟩
      · obtain ⟨k, h1, h2⟩ := left_mem l m h
        exact ⟨k + 1, by simpa using h1, by simpa using h2⟩
theorem left_set {a : τ} : ∀ (l : List τ) (m : List Bool) (k : Nat), m[k]? = some false → l[k]? = some a → (left l m).Perm (a :: left l (m.set k true))
  | [], _, k, _, h => by simp at h
  | _ :: _, [], k, h, _ => by simp at h
  | x :: l, b :: m, 0, h1, h2 => by
    simp at h1 h2
    subst h1; subst h2
    simp [left]
  | x :: l, b :: m, k + 1, h1, h2 => by
    have ih := left_set l m k (by simpa using h1) (by simpa using h2)
    cases b with
    | true => simpa [left] using ih
    | false =>
      simp only [List.set_cons_succ, left, Bool.false_eq_true, if_false]
      exact (ih.cons x).trans (List.Perm.swap a x _)
end
end Go.Proofs.Ytmanjeolhifhiaa
