/- A value as sectors, over numbers and lists alone: how many there are, and which they are. -/
import Derived.Test.YtdgciajdnmgcnaaSecPure
namespace Go.Proofs.Ytdgciajdnmgcnaa
open Go.RowKit
set_option linter.unusedVariables false

/-- Of how many sectors a value of so many bytes is. -/
def cnt (n : Nat) : Nat := if 4096 < n then 0 else max ((n + 479) / 480) 1
/-- The bytes of one part. -/
def partL (l : List Int) (of i : Nat) : List Int := [(i : Int), (of : Int)] ++ (l.drop (480 * i)).take 480
/-- The sectors of a value. -/
def recL (s : Int) (l : List Int) : List (List Int) := (List.range (cnt l.length)).map fun i => sealed 113 s (partL l (cnt l.length) i)

theorem cnt_pos {n : Nat} (h : n ≤ 4096) : 1 ≤ cnt n ∧ cnt n ≤ 9 := by unfold cnt; rw [if_neg (by omega)]; omega
theorem cnt_eq {n : Nat} (h : n ≤ 4096) : cnt n = max ((n + 479) / 480) 1 := by unfold cnt; rw [if_neg (by omega)]
theorem partL_length {l : List Int} {of i : Nat} : (partL l of i).length = 2 + min 480 (l.length - 480 * i) := by simp [partL]; omega
theorem partL_isB {l : List Int} {of i : Nat} (h : IsB l) (hi : i < 256) (ho : of < 256) : IsB (partL l of i) := by
  intro x hx
  simp only [partL, List.mem_append, List.mem_cons, List.not_mem_nil, or_false] at hx
  rcases hx with (rfl | rfl) | hx
  · omega
  · omega
  · exact h x (List.mem_of_mem_drop (List.mem_of_mem_take hx))
theorem recL_length {s : Int} {l : List Int} : (recL s l).length = cnt l.length := by simp [recL]
theorem recL_get {s : Int} {l : List Int} {i : Nat} (h : i < (recL s l).length) : (recL s l)[i] = sealed 113 s (partL l (cnt l.length) i) := by simp [recL]
theorem recL_take {s : Int} {l : List Int} {i : Nat} (h : i < cnt l.length) : (recL s l).take (i + 1) = (recL s l).take i ++ [sealed 113 s (partL l (cnt l.length) i)] := by
  rw [List.take_add_one, List.getElem?_eq_getElem (by rw [recL_length]; exact h), recL_get]; rfl
theorem known113 : knownB 113 = true := by decide
theorem recL_mem {s : Int} {l : List Int} (hl : IsB l) (hn : l.length ≤ 4096) : ∀ x ∈ recL s l, x.length = 512 ∧ IsB x := by
  intro x hx
  simp only [recL, List.mem_map, List.mem_range] at hx
  obtain ⟨i, hi, rfl⟩ := hx
  have := cnt_pos hn
  have hp : (partL l (cnt l.length) i).length ≤ 496 := by rw [partL_length]; omega
  exact ⟨sealed_length _ _ hp, sealed_isB (by decide) (partL_isB hl (by omega) (by omega))⟩
end Go.Proofs.Ytdgciajdnmgcnaa
