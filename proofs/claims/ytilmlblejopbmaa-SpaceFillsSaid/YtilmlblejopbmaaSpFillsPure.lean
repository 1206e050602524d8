/- Plain laws of places that fill up one behind the other. -/
import Derived.Test.YtilmlblejopbmaaSpBackPure
import Derived.Test.YtilmlblejopbmaaSpGaps
namespace Go.Proofs.Ytilmlblejopbmaa
open Go.RowKit
set_option linter.unusedVariables false

/-- Extents without a gap, and what they were ahead of the last one. -/
structure Fill (K : Int) (i : Nat) (ys : List Ext) : Prop where
  chk : checkE K ys = true
  dense : sumN ys = endF 0 ys
  ser : ∀ y ∈ ys, 1 ≤ y.1 ∧ y.1 ≤ (i : Int)
  len : ys.length ≤ i
  last : ys = [] ∨ ∃ zs x, ys = zs ++ [x] ∧ checkE K zs = true ∧ sumN zs = endF 0 zs ∧ zs.any (fun y => decide (y.1 = x.1)) = false ∧ x.2.1 = endF 0 zs ∧ 1 ≤ x.2.2 ∧ x.2.2 ≤ 9 ∧ x.2.1 + x.2.2 ≤ K
theorem Fill.nil {K : Int} (h0 : 0 ≤ K) (h1 : K ≤ 65536) : Fill K 0 [] := ⟨by simp [checkE, rightF, h0, h1], rfl, by simp, by simp, .inl rfl⟩
theorem Fill.mono {K : Int} {i : Nat} {ys : List Ext} (h : Fill K i ys) : Fill K (i + 1) ys :=
  ⟨h.chk, h.dense, fun y hy => by have := h.ser y hy; omega, by have := h.len; omega, h.last⟩
theorem Fill.fresh {K : Int} {i : Nat} {ys : List Ext} (h : Fill K i ys) : ys.any (fun y => decide (y.1 = (i : Int) + 1)) = false := by
  rw [List.any_eq_false]
  intro y hy
  have := h.ser y hy
  simp; omega
theorem Fill.one {K : Int} {i : Nat} {ys : List Ext} {m : Int} (h : Fill K i ys) (hm1 : 1 ≤ m) (hm2 : m ≤ 9) (hf : endF 0 ys ≤ K - m) : oneB K ((i : Int) + 1) (endF 0 ys) m = true := by
  have := check_cap h.chk
  have := endF_ge ys 0 (by omega) (chainE h.chk)
  exact (oneB_iff _ _ _ _).2 (by omega)
theorem Fill.snoc {K : Int} {i : Nat} {ys : List Ext} {m : Int} (h : Fill K i ys) (hm1 : 1 ≤ m) (hm2 : m ≤ 9) (hf : endF 0 ys ≤ K - m) : Fill K (i + 1) (ys ++ [((i : Int) + 1, endF 0 ys, m)]) := by
  have ho := h.one hm1 hm2 hf
  refine ⟨checkE_snoc (x := ((i : Int) + 1, endF 0 ys, m)) h.chk ho (Int.le_refl _) h.fresh, ?_, ?_, ?_, .inr ⟨ys, _, rfl, h.chk, h.dense, h.fresh, rfl, hm1, hm2, by show endF 0 ys + m ≤ K; omega⟩⟩
  · rw [sumN_append, endF_snoc, h.dense]; simp [sumN]
  · intro y hy
    rcases List.mem_append.1 hy with hy | hy
    · have := h.ser y hy; omega
    · simp at hy; rw [hy]; simp; omega
  · have := h.len; simp; omega
theorem Fill.densE {K : Int} {i : Nat} {ys : List Ext} (h : Fill K i ys) : decide (tailE ys = liveE ys) = true := by
  have hch := chainE h.chk
  rw [tailE_chain hch, liveE_chain hch, h.dense]; simp
theorem wf_small {a : Int} (h0 : 0 ≤ a) (h1 : a ≤ 1000000) : (Lit.int .u64 a).wf = true := by
  simp only [Lit.wf, Bool.and_eq_true, decide_eq_true_eq]
  have hmin : IntKind.u64.min = 0 := rfl
  have hmax : IntKind.u64.max = 18446744073709551615 := rfl
  omega
theorem Fill.wf {K : Int} {i : Nat} {ys : List Ext} (h : Fill K i ys) (hi : i ≤ 1000) : ∀ y ∈ ys, (Lit.int .u64 y.1).wf = true := by
  intro y hy
  have := h.ser y hy
  exact wf_small (by omega) (by omega)
theorem rightF_up {C D : Int} (h : C ≤ D) (hD : D ≤ 65536) : ∀ (xs : List Ext) (en : Int) (ss : List Int), rightF C en ss xs = true → rightF D en ss xs = true
  | [], _, _, _ => rfl
  | x :: r, en, ss, hx => by
    simp only [rightF, Bool.and_eq_true] at hx ⊢
    refine ⟨⟨⟨?_, hx.1.1.2⟩, hx.1.2⟩, rightF_up h hD r _ _ hx.2⟩
    have := (oneB_iff _ _ _ _).1 hx.1.1.1
    exact (oneB_iff _ _ _ _).2 (by omega)
theorem checkE_up {C : Int} {xs : List Ext} (h : checkE C xs = true) : checkE 65536 xs = true := by
  have hc := check_cap h
  simp only [checkE, Bool.and_eq_true] at h ⊢
  exact ⟨by simp, rightF_up hc.2 (by omega) xs _ _ h.2⟩
theorem gaps_dense {C : Int} {xs : List Ext} (h : checkE C xs = true) (hd : sumN xs = endF 0 xs) : (gapsF 0 xs).length = 0 := by
  have hch := chainE h
  have := gaps_none hch
  rw [tailE_chain hch, liveE_chain hch, hd] at this
  simpa using this
end Go.Proofs.Ytilmlblejopbmaa
