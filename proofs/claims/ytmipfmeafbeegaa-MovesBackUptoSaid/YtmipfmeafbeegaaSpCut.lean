/- Laws: clear of a slice of structs, what is cut out of an owned row, one row of it set. -/
import Derived.Test.YtmipfmeafbeegaaSpAdd2
import Derived.Lib.SliceRun
namespace Go.Proofs.Ytmipfmeafbeegaa
open Go.RowKit
set_option linter.unusedVariables false

section
variable {P : Program}
theorem run_clear_k (w : World) (t e ty : TypeId) (z : Value) (ht : P.underlying t = some (.slice e)) (hv : ∀ w, (zeroValue e).run P w = .ok z w) (b o n c : Nat) (hn : 0 < n) (L : List Value) (hL : (Builtin.zeroCells z.cells n).toList = L)
    (hc : ∀ j, j < L.length → (w.cell? ⟨b, o + j, none⟩).isSome = true) (hf : ∀ j, j < L.length → w.frozen? ⟨b, o + j, none⟩ = false) (h1 : ∀ v ∈ L, v.oneCell' = true) :
    (Builtin.clear_ #[t] ty #[.slice (some ⟨b, o, none⟩) n c]).run P w = .ok (.tuple #[]) (w.setCells b o L) := by
  have hst := run_storeCells_cells (P := P) b o L 0 w (by simpa using hc) (by simpa using hf) h1
  simp only [Nat.add_zero] at hst
  obtain ⟨m, rfl⟩ : ∃ m, n = m + 1 := ⟨n - 1, by omega⟩
  simp [Builtin.clear_, run_underlying ht, hv, hL, hst]
theorem run_from3 {t e : TypeId} {k : Nat} (kh : IntKind) (ht : P.underlying t = some (.slice e)) (hsz : (P.info? e).map (·.size) = some k) (g n c lo : Nat) (h : Int) (hh : h = lo) (h2 : lo ≤ n) (h3 : lo < c) :
    ∀ W : World, (Instr.slice t (.slice (some ⟨g, 0, none⟩) n c) (some (.int kh h)) none none).run P W = .ok (.slice (some ⟨g, lo * k, none⟩) (n - lo) (c - lo)) W := by
  intro W
  subst hh
  have hel : P.elem t = e := by simp [Program.elem, ht]
  have hu : P.underlying t = some (.slice (P.elem t)) := by rw [hel]; exact ht
  have hne : ¬ c = lo := by omega
  cases hi' : P.info? e with
  | none => rw [hi'] at hsz; simp at hsz
  | some i =>
    rw [hi'] at hsz
    simp at hsz
    rw [run_slice_l W t (some ⟨g, 0, none⟩) n c hu kh (lo : Int) (by omega) (by omega), hel]
    simp [sizeOf, typeInfo, hi', sliced, Result.andThen, hsz, Addr.add, hne]
    try exact fun h => h.symm
end
theorem own_setCells {base e size n cap g : Nat} : ∀ (vs : List Value) (o : Nat) (w : World) (L : List Value), w.ownsRow base e size (.slice (some ⟨g, 0, none⟩) n cap) n L →
    ∃ L', (w.setCells g o vs).ownsRow base e size (.slice (some ⟨g, 0, none⟩) n cap) n L' ∧ L'.take o = L.take o ∧ w.grownBy (w.setCells g o vs) (some g)
  | [], o, w, L, h => ⟨L, h, rfl, ⟨rfl, rfl, rfl, Nat.le_refl _, fun _ _ _ => rfl⟩⟩
  | v :: vs, o, w, L, h => by
    obtain ⟨h1, g1⟩ := h.stored o v
    obtain ⟨L', h2, t2, g2⟩ := own_setCells vs (o + 1) _ _ h1
    refine ⟨L', h2, ?_, ⟨g2.os.trans g1.os, g2.tape.trans g1.tape, g2.output.trans g1.output, Nat.le_trans g1.size g2.size, fun k hk hne => (g2.block k (Nat.lt_of_lt_of_le hk g1.size) hne).trans (g1.block k hk hne)⟩⟩
    have := congrArg (List.take o) t2
    rw [List.take_take, List.take_take] at this
    have e : min o (o + 1) = o := by omega
    rw [e] at this
    rw [this, List.take_set_of_le (Nat.le_refl _)]
theorem own_pref {w : World} {base e size n i : Nat} {g cap : Nat} {L : List Value} (h : w.ownsRow base e size (.slice (some ⟨g, 0, none⟩) n cap) n L) (hi : i ≤ n) : w.ownsRow base e size (.slice (some ⟨g, 0, none⟩) i cap) i (L.take (i * size)) := by
  obtain ⟨hl, h⟩ := h
  rcases h with ⟨h1, _⟩ | ⟨g', cap', cur, h1, h2, h3, h4, h5, h6, h7⟩
  · simp at h1
  · simp only [Value.slice.injEq, Option.some.injEq, Addr.mk.injEq, and_true, true_and] at h1
    obtain ⟨rfl, rfl⟩ := h1
    refine ⟨by rw [List.length_take, hl]; exact Nat.min_eq_left (Nat.mul_le_mul_right _ hi), .inr ⟨g, cap, cur, rfl, h2, h3, by omega, h5, h6, ?_⟩⟩
    rw [← h7, List.take_take]
    congr 1
    exact (Nat.min_eq_left (Nat.mul_le_mul_right _ hi)).symm
theorem extRow_set (l : List Ext) (i : Nat) (y : Ext) (hi : i < l.length) : (((((l.map rowExt).flatten).set (i * 3) (.int .u64 y.1)).set (i * 3 + 1) (.int .i64 y.2.1)).set (i * 3 + 2) (.int .i64 y.2.2)) = ((l.set i y).map rowExt).flatten := by
  obtain ⟨P, z, Q, hl, hP⟩ : ∃ P z Q, l = P ++ z :: Q ∧ P.length = i := ⟨l.take i, l[i], l.drop (i + 1), by simp, by simp; omega⟩
  subst hl
  subst hP
  have hlen : (P.map rowExt).flatten.length = P.length * 3 := by
    rw [flat_len 3 _ (extRow_len P)]; simp
  have e : (P ++ z :: Q).set P.length y = P ++ y :: Q := by simp
  rw [e]
  simp only [List.map_append, List.map_cons, List.flatten_append, List.flatten_cons]
  generalize (P.map rowExt).flatten = F at *
  generalize (Q.map rowExt).flatten = G at *
  rw [← hlen]
  simp [rowExt]
theorem extRows_take (S : List Ext) (a : Nat) (ha : a ≤ S.length) : ((S.map rowExt).flatten).take (a * 3) = ((S.take a).map rowExt).flatten := by
  conv => lhs; rw [← List.take_append_drop a S, List.map_append, List.flatten_append]
  rw [List.take_append_of_le_length (by rw [extRows_len, List.length_take]; omega), List.take_of_length_le (by rw [extRows_len, List.length_take]; omega)]
theorem filt_succ (p : Ext → Bool) (l : List Ext) (k : Nat) (h : k < l.length) : (l.take (k + 1)).filter p = (l.take k).filter p ++ (if p l[k] then [l[k]] else []) := by
  rw [List.take_add_one, List.getElem?_eq_getElem h, List.filter_append]
  congr 1
  simp [List.filter_cons]
end Go.Proofs.Ytmipfmeafbeegaa
