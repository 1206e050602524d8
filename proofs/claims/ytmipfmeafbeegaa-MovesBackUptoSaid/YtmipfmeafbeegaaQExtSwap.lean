/- Contracts: the methods of a queue's pile: Swap. -/
import Derived.Test.YtmipfmeafbeegaaQExtPile
import Derived.BigRegion
namespace Go.Proofs.Ytmipfmeafbeegaa
open Go.RowKit
set_option linter.unusedVariables false

set_option maxRecDepth 100000 in
set_option maxHeartbeats 4000000 in
theorem qExt_swap (base : Nat) (w : World) (q : Nat) (v lf : Value) (l : List (Ext × Nat)) (tn : Nat) (i j : Nat) (h : QAtExt base w q v lf l tn) (hi : i < l.length) (hj : j < l.length) (hij : i ≠ j) :
    Calls Try.prog 76 #[.pointer (some ⟨q, 0, none⟩), .int .i64 (i : Int), .int .i64 (j : Int)] w fun e w' => e = .returned (.tuple #[]) ∧ QAtExt base w' q v lf (swapL zeroExt l i j) tn ∧ Chg (QBlk q v) w w' := by
  obtain ⟨g, cap, cur, rfl, hg, hcur, hnc, hcm, hsz, hflat⟩ := ownExt_at h.own (by intro e; rw [e] at hi; simp at hi)
  obtain ⟨A, c, hA, _, _, hrd, _⟩ := own_rd h.own
  obtain ⟨rfl, rfl⟩ : A = some ⟨g, 0, none⟩ ∧ c = cap := by simpa using hA.symm
  have hri := thExt_at hrd i hi
  have hrj := thExt_at hrd j hj
  have hq0 : w.cell? ⟨q, 0, none⟩ = some (.slice (some ⟨g, 0, none⟩) l.length c) := by rw [cell_of_row w q 0 _ _ _ h.blk]; rfl
  have hfr := fun k => frozen_of_row w g k _ _ hcur
  have hgq : g ≠ q := h.ne g rfl
  have H := Lib.hid h
  have b1 : (0 : Int) ≤ (i : Int) ∧ (i : Int) < (l.length : Int) := by omega
  have b2 : (0 : Int) ≤ (j : Int) ∧ (j : Int) < (l.length : Int) := by omega
  clear hA hcur hflat hrd hsz h hg hnc hcm
  generalize hx : l.getD i zeroExt = x at *
  generalize hy : l.getD j zeroExt = y at *
  have HX := Lib.hid hx
  have HY := Lib.hid hy
  clear hx hy
  have ci0 := hri 0 _ rfl
  have cj0 := hrj 0 _ rfl
  have ci1 := hri 1 _ rfl
  have cj1 := hrj 1 _ rfl
  have ci2 := hri 2 _ rfl
  have cj2 := hrj 2 _ rfl
  have ci3 := hri 3 _ rfl
  have cj3 := hrj 3 _ rfl
  simp only [Nat.add_zero] at ci0 cj0
  clear hri hrj
  go_enter Try.func76, Try.ntmps76
  go_wp2_with fail
  go_region
  go_end0
  refine ⟨rfl, ?_⟩
  obtain ⟨h1, d1⟩ := H.out.store' rfl i y hi
  obtain ⟨h2, d2⟩ := h1.store' (by simp) j x (by simpa using hj)
  have e : swapL zeroExt l i j = (l.set i y).set j x := by unfold swapL; rw [HX.out, HY.out]
  rw [e]
  exact ⟨h2.drew, (d1.trans d2).drew⟩
set_option maxRecDepth 100000 in
set_option maxHeartbeats 4000000 in
theorem qExt_swap_same (base : Nat) (w : World) (q : Nat) (v lf : Value) (l : List (Ext × Nat)) (tn : Nat) (i : Nat) (h : QAtExt base w q v lf l tn) (hi : i < l.length) :
    Calls Try.prog 76 #[.pointer (some ⟨q, 0, none⟩), .int .i64 (i : Int), .int .i64 (i : Int)] w fun e w' => e = .returned (.tuple #[]) ∧ QAtExt base w' q v lf l tn ∧ Chg (QBlk q v) w w' := by
  obtain ⟨g, cap, cur, rfl, hg, hcur, hnc, hcm, hsz, hflat⟩ := ownExt_at h.own (by intro e; rw [e] at hi; simp at hi)
  obtain ⟨A, c, hA, _, _, hrd, _⟩ := own_rd h.own
  obtain ⟨rfl, rfl⟩ : A = some ⟨g, 0, none⟩ ∧ c = cap := by simpa using hA.symm
  have hri := thExt_at hrd i hi
  have hq0 : w.cell? ⟨q, 0, none⟩ = some (.slice (some ⟨g, 0, none⟩) l.length c) := by rw [cell_of_row w q 0 _ _ _ h.blk]; rfl
  have hfr := fun k => frozen_of_row w g k _ _ hcur
  have hgq : g ≠ q := h.ne g rfl
  have H := Lib.hid h
  have b1 : (0 : Int) ≤ (i : Int) ∧ (i : Int) < (l.length : Int) := by omega
  clear hA hcur hflat hrd hsz h hg hnc hcm
  generalize hx : l.getD i zeroExt = x at *
  have HX := Lib.hid hx
  clear hx
  have ci0 := hri 0 _ rfl
  have ci1 := hri 1 _ rfl
  have ci2 := hri 2 _ rfl
  have ci3 := hri 3 _ rfl
  simp only [Nat.add_zero] at ci0
  clear hri
  go_enter Try.func76, Try.ntmps76
  go_wp2_with fail
  go_region
  go_end0
  refine ⟨rfl, ?_⟩
  obtain ⟨h1, d1⟩ := H.out.store' rfl i x hi
  obtain ⟨h2, d2⟩ := h1.store' (by simp) i x (by simpa using hi)
  have e : (l.set i x).set i x = l := by
    rw [← HX.out]
    apply List.ext_getElem?
    intro m
    simp only [List.set_set, List.getElem?_set]
    split
    · rename_i hm; subst hm; rw [List.getD_eq_getElem?_getD, List.getElem?_eq_getElem hi]; simp
    · rfl
  rw [e] at h2
  exact ⟨h2.drew, (d1.trans d2).drew⟩
end Go.Proofs.Ytmipfmeafbeegaa
