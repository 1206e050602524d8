/- Words for slices of structs: rows of cells, one behind the other. Plain lemmas over any program; no condition. -/
import Derived.Test.YtmipfmeafbeegaaVoc
import Derived.Deep.MidRow
import Derived.Laws.StructEq
import Derived.ChangeKeysEq
namespace Go.Proofs.Ytmipfmeafbeegaa
open Go.RowKit
set_option linter.unusedVariables false

/-- New memory of some cells is read. -/
theorem rd_new (w : World) (cs : List Value) (t : Nat) : Rd (w.alloc (.cells cs.toArray t)) (some ⟨w.heap.size, 0, none⟩) cs :=
  rd_block (heap_alloc_new w _)
theorem flat_len (k : Nat) : ∀ (rows : List (List Value)), (∀ r ∈ rows, r.length = k) → rows.flatten.length = rows.length * k
  | [], _ => by simp
  | r :: rows, h => by
    have h1 := h r (by simp)
    have h2 := flat_len k rows (fun x hx => h x (by simp [hx]))
    simp only [List.flatten_cons, List.length_append, List.length_cons, h1, h2, Nat.succ_mul]
    omega
theorem flat_at (k : Nat) : ∀ (rows : List (List Value)), (∀ r ∈ rows, r.length = k) → ∀ i r, rows[i]? = some r → ∀ j v, r[j]? = some v → rows.flatten[i * k + j]? = some v
  | [], _, i, r, hi, _, _, _ => by simp at hi
  | x :: rows, h, i, r, hi, j, v, hj => by
    have h1 := h x (by simp)
    cases i with
    | zero =>
      simp at hi; subst hi
      have := (List.getElem?_eq_some_iff.1 hj).1
      simp only [List.flatten_cons, Nat.zero_mul, Nat.zero_add]
      rw [List.getElem?_append_left this]; exact hj
    | succ i =>
      simp at hi
      have h2 := flat_at k rows (fun x hx => h x (by simp [hx])) i r hi j v hj
      simp only [List.flatten_cons, Nat.succ_mul]
      rw [List.getElem?_append_right (by omega), ← h2]
      congr 1
      omega
/-- Row i of what is read. -/
theorem Rd.row {w : World} {b o k : Nat} {rows : List (List Value)} (h : Rd w (some ⟨b, o, none⟩) rows.flatten) (hk : ∀ r ∈ rows, r.length = k) {i : Nat} {r : List Value} (hi : rows[i]? = some r) : w.rangeAt b (o + i * k) r := by
  intro j v hj
  obtain ⟨b', o', h1, h2⟩ := h _ _ (flat_at k rows hk i r hi j v hj)
  obtain ⟨rfl, rfl⟩ : b = b' ∧ o = o' := by simpa using h1
  rw [Nat.add_assoc]; exact h2
theorem rangeAt_kept {w w' : World} {B b o : Nat} {r : List Value} (h : w.rangeAt b o r) (hb : Below B w w') (hB : b < B) : w'.rangeAt b o r := by
  intro j v hj
  exact (hb.cell (p := ⟨b, o + j, none⟩) hB).trans (h j v hj)
/-- The slice is at an address, if it has an element. -/
theorem Rd.at_row {w : World} {A : Option Addr} {k : Nat} {rows : List (List Value)} (h : Rd w A rows.flatten) (hk : ∀ r ∈ rows, r.length = k) (hpos : 0 < k) {i : Nat} {r : List Value} (hi : rows[i]? = some r) : ∃ b o, A = some ⟨b, o, none⟩ ∧ w.rangeAt b (o + i * k) r := by
  have hr := hk r (List.mem_of_getElem? hi)
  obtain ⟨b, o, hA, _⟩ := h _ _ (flat_at k rows hk i r hi 0 (r[0]'(by omega)) (List.getElem?_eq_getElem (by omega)))
  subst hA
  exact ⟨b, o, rfl, h.row hk hi⟩
end Go.Proofs.Ytmipfmeafbeegaa
