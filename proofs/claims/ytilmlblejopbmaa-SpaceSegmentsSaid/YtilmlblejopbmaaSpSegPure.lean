/- Plain laws: places counted by segments. -/
import Derived.Test.YtilmlblejopbmaaSpBackPure
import Derived.Test.YtilmlblejopbmaaInts
namespace Go.Proofs.Ytilmlblejopbmaa
open Go.RowKit
set_option linter.unusedVariables false

def sumI : List Int → Int
  | [] => 0
  | x :: r => x + sumI r
theorem sumI_set : ∀ (l : List Int) (j : Nat) (v : Int) (h : j < l.length), sumI (l.set j v) = sumI l - l[j] + v
  | [], j, v, h => by simp at h
  | x :: r, 0, v, h => by simp [sumI]; omega
  | x :: r, j + 1, v, h => by
    have := sumI_set r j v (by simpa using h)
    simp only [List.set_cons_succ, sumI, List.getElem_cons_succ]
    omega
theorem sumI_zero (n : Nat) : sumI (List.replicate n 0) = 0 := by
  induction n with
  | zero => rfl
  | succ n ih => simp [List.replicate_succ, sumI, ih]
theorem sumI_succ (l : List Int) (k : Nat) (h : k < l.length) : sumI (l.take (k + 1)) = sumI (l.take k) + l[k] := by
  have hs : ∀ (a b : List Int), sumI (a ++ b) = sumI a + sumI b := by
    intro a b
    induction a with
    | nil => simp [sumI]
    | cons x a ih => simp only [List.cons_append, sumI, ih]; omega
  rw [List.take_add_one, List.getElem?_eq_getElem h, hs]
  simp [sumI]
/-- Only places below e have been counted, each once. -/
def Inv (e : Nat) (outs : List Int) : Prop := ∀ (j : Nat) (h : j < outs.length), 0 ≤ outs[j] ∧ outs[j] ≤ 31 ∧ (outs[j] = 0 ∨ outs[j] + 31 * (j : Int) ≤ (e : Int))
theorem Inv.zero (n : Nat) : Inv 0 (List.replicate n 0) := by
  intro j h
  simp
theorem Inv.mono {a b : Nat} {outs : List Int} (h : Inv a outs) (hab : a ≤ b) : Inv b outs := by
  intro j hj
  have := h j hj
  omega
theorem Inv.step {p : Nat} {outs : List Int} (h : Inv p outs) (hj : p / 31 < outs.length) : Inv (p + 1) (outs.set (p / 31) (outs[p / 31] + 1)) := by
  intro j hj'
  have hjl : j < outs.length := by simpa using hj'
  have h0 := h j hjl
  rw [List.getElem_set]
  split
  · rename_i e
    subst e
    omega
  · omega
theorem ints_set (l : List Int) (j : Nat) (v : Int) : (ints l).set j (.int .i64 v) = ints (l.set j v) := by
  unfold ints; rw [List.map_set]
theorem ints_len (l : List Int) : (ints l).length = l.length := by simp [ints]
theorem ints_at (l : List Int) (j : Nat) (h : j < l.length) : (ints l)[j]? = some (.int .i64 l[j]) := by simp [ints, List.getElem?_eq_getElem h]
end Go.Proofs.Ytilmlblejopbmaa
