/- A list of ints that is handed in, as a slice that reads. Plain lemma. -/
import Derived.Test.YtmanjeolhifhiaaVoc
namespace Go.Proofs.Ytmanjeolhifhiaa
open Go.RowKit
def IsRow (k : IntKind) (w : World) (a : Option Addr) (len cap : Nat) (zs : List Int) : Prop :=
  (a = none ∧ len = 0 ∧ cap = 0 ∧ zs = []) ∨
  ∃ x, a = some x ∧ len ≤ cap ∧ cap ≤ maxLen ∧ zs.length = cap ∧ (∀ i, i < zs.length → w.cell? (x.add i) = some (.int k (zs.getD i 0))) ∧ ∀ n ∈ zs, (Lit.int k n).wf = true
/-- Its numbers, as they are read. -/
def ints (l : List Int) : List Value := l.map (Value.int .i64)
theorem row_ints {w : World} {a : Option Addr} {len cap : Nat} {zs : List Int} (h : IsRow .i64 w a len cap zs) :
    ∃ l : List Int, l.length = len ∧ Rd w a (ints l) ∧ len ≤ maxLen ∧ ∀ n ∈ l, (Lit.int .i64 n).wf = true := by
  rcases h with ⟨rfl, rfl, rfl, rfl⟩ | ⟨x, rfl, h1, h2, h3, h4, h5⟩
  · exact ⟨[], rfl, Rd.nil _ _, by simp, by simp⟩
  · refine ⟨zs.take len, by simp; omega, ?_, Nat.le_trans h1 h2, fun n hn => h5 n (List.mem_of_mem_take hn)⟩
    intro j u hj
    have hj' : (zs.take len)[j]? = some (zs.getD j 0) ∧ u = .int .i64 (zs.getD j 0) ∧ j < zs.length := by
      unfold ints at hj
      rw [List.getElem?_map] at hj
      cases hz : (zs.take len)[j]? with
      | none => rw [hz] at hj; simp at hj
      | some y =>
        rw [hz] at hj
        have hjl := (List.getElem?_eq_some_iff.1 hz).1
        simp at hjl
        have hy : zs[j]? = some y := by
          rw [List.getElem?_take] at hz
          split at hz
          · exact hz
          · cases hz
        have hg : zs.getD j 0 = y := by rw [List.getD_eq_getElem?_getD, hy]; rfl
        exact ⟨by rw [hg], by rw [hg]; simpa using hj.symm, by omega⟩
    obtain ⟨_, rfl, hjz⟩ := hj'
    have h0 := h4 0 (by omega)
    have hx0 : x.add 0 = x := by simp [Addr.add]
    rw [hx0] at h0
    have hcj := h4 j hjz
    obtain ⟨b, o, s⟩ := x
    cases s with
    | none => exact ⟨b, o, rfl, by rw [add_at] at hcj; exact hcj⟩
    | some s => simp [World.cell?] at h0; split at h0 <;> simp at h0
end Go.Proofs.Ytmanjeolhifhiaa
