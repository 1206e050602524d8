/- Contracts: the methods of a queue's pile: Pop. -/
import Derived.Test.YtmipfmeafbeegaaQExtPush
namespace Go.Proofs.Ytmipfmeafbeegaa
open Go.RowKit
set_option linter.unusedVariables false

theorem own_shrink {w : World} {base e k g c m : Nat} {xs : List Value} (h : w.ownsRow base e k (.slice (some ⟨g, 0, none⟩) (m + 1) c) (m + 1) xs) : w.ownsRow base e k (.slice (some ⟨g, 0, none⟩) m c) m (xs.take (m * k)) := by
  obtain ⟨h1, h2⟩ := h
  rcases h2 with ⟨h2, _⟩ | ⟨g', cap', cur, h3, h4, h5, h6, h7, h8, h9⟩
  · cases h2
  · simp only [Value.slice.injEq, Option.some.injEq, Addr.mk.injEq, and_true, true_and] at h3
    obtain ⟨rfl, rfl⟩ := h3
    have hle : m * k ≤ (m + 1) * k := Nat.mul_le_mul_right k (by omega)
    refine ⟨by rw [List.length_take, h1]; omega, .inr ⟨g, c, cur, rfl, h4, h5, by omega, h7, h8, ?_⟩⟩
    rw [← h9, List.take_take, Nat.min_eq_left hle]
theorem thExt_take (l : List (Ext × Nat)) (m : Nat) (h : m ≤ l.length) : ((l.map thExt).flatten).take (m * 4) = ((l.take m).map thExt).flatten := by
  have e : (l.map thExt).flatten = ((l.take m).map thExt).flatten ++ ((l.drop m).map thExt).flatten := by
    rw [← List.flatten_append, ← List.map_append, List.take_append_drop]
  have hlen : ((l.take m).map thExt).flatten.length = m * 4 := by
    rw [flat_len 4 _ (by intro r hr; simp only [List.mem_map] at hr; obtain ⟨y, _, rfl⟩ := hr; exact thExt_len y)]; simp; omega
  rw [e, ← hlen, List.take_left]
theorem QAtExt.alloc {base : Nat} {w : World} {q : Nat} {v lf : Value} {l : List (Ext × Nat)} {tn : Nat} (h : QAtExt base w q v lf l tn) (o : Obj) : QAtExt base (w.alloc o) q v lf l tn := h.kept (below1 w o)
theorem LeftExt.alloc {base : Nat} {w w' : World} {q : Nat} {v lf : Value} {l : List (Ext × Nat)} {tn : Nat} (h : LeftExt base w q v lf l tn w') (o : Obj) : LeftExt base w q v lf l tn (w'.alloc o) := by
  obtain ⟨v', h1, h2, h3⟩ := h
  exact ⟨v', h1.alloc o, h2.alloc o, h3⟩
theorem leftTakeExt {base : Nat} {w : World} {q g c m : Nat} {lf : Value} {l : List (Ext × Nat)} {tn : Nat} (h : QAtExt base w q (.slice (some ⟨g, 0, none⟩) (m + 1) c) lf l tn) (hl : l.length = m + 1) :
    LeftAtExt base w q (.slice (some ⟨g, 0, none⟩) (m + 1) c) (.slice (some ⟨g, 0, none⟩) m c) lf (l.take m) tn (((((w.setCell ⟨g, m * 4, none⟩ (.int .u64 0)).setCell ⟨g, m * 4 + 1, none⟩ (.int .i64 0)).setCell ⟨g, m * 4 + 2, none⟩ (.int .i64 0)).setCell ⟨g, m * 4 + 3, none⟩ (.int .i64 0)).setCell ⟨q, 0, none⟩ (.slice (some ⟨g, 0, none⟩) m c)) := by
  obtain ⟨h1, d1⟩ := h.store' hl.symm m zeroExt (by omega)
  have hgq : g ≠ q := h.ne g rfl
  have hst : ((((w.setCell ⟨g, m * 4, none⟩ (.int .u64 0)).setCell ⟨g, m * 4 + 1, none⟩ (.int .i64 0)).setCell ⟨g, m * 4 + 2, none⟩ (.int .i64 0)).setCell ⟨g, m * 4 + 3, none⟩ (.int .i64 0)) = (((w.setCell ⟨g, m * 4, none⟩ (.int .u64 zeroExt.1.1)).setCell ⟨g, m * 4 + 1, none⟩ (.int .i64 zeroExt.1.2.1)).setCell ⟨g, m * 4 + 2, none⟩ (.int .i64 zeroExt.1.2.2)).setCell ⟨g, m * 4 + 3, none⟩ (.int .i64 (zeroExt.2 : Int)) := rfl
  rw [hst]
  generalize (((w.setCell ⟨g, m * 4, none⟩ (.int .u64 zeroExt.1.1)).setCell ⟨g, m * 4 + 1, none⟩ (.int .i64 zeroExt.1.2.1)).setCell ⟨g, m * 4 + 2, none⟩ (.int .i64 zeroExt.1.2.2)).setCell ⟨g, m * 4 + 3, none⟩ (.int .i64 (zeroExt.2 : Int)) = w1 at *
  have hown := h1.own
  have hl1 : (l.set m zeroExt).length = m + 1 := by simp [hl]
  rw [hl1] at hown
  have hsh := own_shrink hown
  rw [thExt_take _ _ (by omega)] at hsh
  have e : (l.set m zeroExt).take m = l.take m := by
    apply List.ext_getElem?
    intro i
    simp only [List.getElem?_take, List.getElem?_set]
    split
    · rw [if_neg (by omega)]
    · rfl
  rw [e] at hsh
  refine ⟨⟨heap_setCell_same w1 q 0 _ _ _ h1.blk, ?_, h.ge, ?_⟩, ?_⟩
  · have hlt : (l.take m).length = m := by simp; omega
    rw [hlt]
    obtain ⟨g1, g2⟩ := hsh
    rcases g2 with ⟨g2, _⟩ | ⟨g', cap', cur, g3, g4, g5, g6⟩
    · cases g2
    · simp only [Value.slice.injEq, Option.some.injEq, Addr.mk.injEq, and_true, true_and] at g3
      obtain ⟨rfl, rfl⟩ := g3
      exact ⟨g1, .inr ⟨g, c, cur, rfl, g4, (Below.heap_setCell w1 ⟨q, 0, none⟩ _ g hgq).trans g5, g6⟩⟩
  · intro j hj
    simp [Value.ownBlock] at hj
    omega
  · exact d1.setCell (p := ⟨q, 0, none⟩) (fun _ => .inl rfl) _
set_option maxRecDepth 100000 in
set_option maxHeartbeats 4000000 in
theorem qExt_take (base : Nat) (w : World) (q g c m : Nat) (lf : Value) (l : List (Ext × Nat)) (tn : Nat) (h : QAtExt base w q (.slice (some ⟨g, 0, none⟩) (m + 1) c) lf l tn) (hl : l.length = m + 1) :
    Calls Try.prog 74 #[.pointer (some ⟨q, 0, none⟩)] w fun e w' => e = .returned (.iface 76 (.agg #[.int .u64 (l.getD m zeroExt).1.1, .int .i64 (l.getD m zeroExt).1.2.1, .int .i64 (l.getD m zeroExt).1.2.2, .int .i64 ((l.getD m zeroExt).2 : Int)])) ∧ LeftAtExt base w q (.slice (some ⟨g, 0, none⟩) (m + 1) c) (.slice (some ⟨g, 0, none⟩) m c) lf (l.take m) tn w' := by
  have hne : l ≠ [] := by intro e; rw [e] at hl; simp at hl
  obtain ⟨g', cap', cur, hv, hg, hcur, hnc, hcm, hsz, hflat⟩ := ownExt_at h.own hne
  obtain ⟨rfl, rfl⟩ : g = g' ∧ c = cap' := by simp at hv; exact ⟨hv.1, hv.2.2⟩
  obtain ⟨A, c', hA, _, _, hrd, _⟩ := own_rd h.own
  obtain rfl : A = some ⟨g, 0, none⟩ := by simp at hA; exact hA.1.symm
  have hri := thExt_at hrd m (by omega)
  have hq0 : w.cell? ⟨q, 0, none⟩ = some (.slice (some ⟨g, 0, none⟩) (m + 1) c) := by rw [cell_of_row w q 0 _ _ _ h.blk]; rfl
  have hfq := frozen_of_row w q 0 _ _ h.blk
  have hfr := fun k => frozen_of_row w g k _ _ hcur
  have hgq : g ≠ q := h.ne g rfl
  have hltq : q < w.heap.size := h.lt
  have hltg : g < w.heap.size := (Array.getElem?_eq_some_iff.1 hcur).1
  have hcut := run_cut_k (P := Try.prog) .i64 Try.underlying68 (by kernel_rfl) (some ⟨g, 0, none⟩) (m + 1) c m (m : Int) rfl (by omega)
  have H := Lib.hid h
  have HLN := Lib.hid hl
  have b1 : (0 : Int) ≤ (m : Int) ∧ (m : Int) < ((m + 1 : Nat) : Int) := by omega
  have hbig : m + 1 ≤ maxLen := by omega
  unfold maxLen at hbig
  clear hA hv hcur hflat hrd hsz h hg hnc hcm hl hne
  generalize hx : l.getD m zeroExt = x at *
  have HX := Lib.hid hx
  clear hx
  have ci0 := hri 0 _ rfl
  have ci1 := hri 1 _ rfl
  have ci2 := hri 2 _ rfl
  have ci3 := hri 3 _ rfl
  simp only [Nat.add_zero] at ci0
  clear hri
  go_enter Try.func74, Try.ntmps74
  go_wp2
  go_ret
  refine ⟨rfl, ?_⟩
  exact ⟨(leftTakeExt H.out HLN.out).1.alloc _, (leftTakeExt H.out HLN.out).2.alloc _⟩
end Go.Proofs.Ytmipfmeafbeegaa
