/- Contracts: the methods of a queue's pile: Pop. -/
import Derived.Test.YtmanjeolhifhiaaQItmPush
namespace Go.Proofs.Ytmanjeolhifhiaa
open Go.RowKit
set_option linter.unusedVariables false

theorem own_shrink {w : World} {base e k g c m : Nat} {xs : List Value} (h : w.ownsRow base e k (.slice (some ⟨g, 0, none⟩) (m + 1) c) (m + 1) xs) : w.ownsRow base e k (.slice (some ⟨g, 0, none⟩) m c) m (xs.take (m * k)) := by
  obtain ⟨h1, h2⟩ := h
  rcases h2 with ⟨h2, _⟩ | ⟨g', cap', cur, h3, h4, h5, h6, h7, h8, h9⟩
  · cases h2
  · simp only [Value.slice.injEq, Option.some.injEq, Addr.mk.injEq, and_true, true_and] at h3
    obtain ⟨rfl, rfl⟩ := h3
    have hle : m * k ≤ (m + 1) * k := Nat.mul_le_mul_right k (by omega)
    refine ⟨by rw [List.length_take, h1]; omega, .inr ⟨g, c, cur, rfl, h4, h5, by omega, h7, h8, ?_⟩⟩
    rw [← h9, List.take_take, Nat.min_eq_left hle]
theorem thItm_take (l : List (Itm × Nat)) (m : Nat) (h : m ≤ l.length) : ((l.map thItm).flatten).take (m * 3) = ((l.take m).map thItm).flatten := by
  have e : (l.map thItm).flatten = ((l.take m).map thItm).flatten ++ ((l.drop m).map thItm).flatten := by
    rw [← List.flatten_append, ← List.map_append, List.take_append_drop]
  have hlen : ((l.take m).map thItm).flatten.length = m * 3 := by
    rw [flat_len 3 _ (by intro r hr; simp only [List.mem_map] at hr; obtain ⟨y, _, rfl⟩ := hr; exact thItm_len y)]; simp; omega
  rw [e, ← hlen, List.take_left]
theorem QAtItm.alloc {base : Nat} {w : World} {q : Nat} {v lf : Value} {l : List (Itm × Nat)} {tn : Nat} (h : QAtItm base w q v lf l tn) (o : Obj) : QAtItm base (w.alloc o) q v lf l tn := h.kept (below1 w o)
theorem LeftItm.alloc {base : Nat} {w w' : World} {q : Nat} {v lf : Value} {l : List (Itm × Nat)} {tn : Nat} (h : LeftItm base w q v lf l tn w') (o : Obj) : LeftItm base w q v lf l tn (w'.alloc o) := by
  obtain ⟨v', h1, h2, h3⟩ := h
  exact ⟨v', h1.alloc o, h2.alloc o, h3⟩
theorem leftTakeItm {base : Nat} {w : World} {q g c m : Nat} {lf : Value} {l : List (Itm × Nat)} {tn : Nat} (h : QAtItm base w q (.slice (some ⟨g, 0, none⟩) (m + 1) c) lf l tn) (hl : l.length = m + 1) :
    LeftAtItm base w q (.slice (some ⟨g, 0, none⟩) (m + 1) c) (.slice (some ⟨g, 0, none⟩) m c) lf (l.take m) tn ((((w.setCell ⟨g, m * 3, none⟩ (.int .i64 0)).setCell ⟨g, m * 3 + 1, none⟩ (.string ⟨#[]⟩)).setCell ⟨g, m * 3 + 2, none⟩ (.int .i64 0)).setCell ⟨q, 0, none⟩ (.slice (some ⟨g, 0, none⟩) m c)) := by
  obtain ⟨h1, d1⟩ := h.store' hl.symm m zeroItm (by omega)
  have hgq : g ≠ q := h.ne g rfl
  have hst : (((w.setCell ⟨g, m * 3, none⟩ (.int .i64 0)).setCell ⟨g, m * 3 + 1, none⟩ (.string ⟨#[]⟩)).setCell ⟨g, m * 3 + 2, none⟩ (.int .i64 0)) = ((w.setCell ⟨g, m * 3, none⟩ (.int .i64 zeroItm.1.1)).setCell ⟨g, m * 3 + 1, none⟩ (.string zeroItm.1.2)).setCell ⟨g, m * 3 + 2, none⟩ (.int .i64 (zeroItm.2 : Int)) := rfl
  rw [hst]
  generalize ((w.setCell ⟨g, m * 3, none⟩ (.int .i64 zeroItm.1.1)).setCell ⟨g, m * 3 + 1, none⟩ (.string zeroItm.1.2)).setCell ⟨g, m * 3 + 2, none⟩ (.int .i64 (zeroItm.2 : Int)) = w1 at *
  have hown := h1.own
  have hl1 : (l.set m zeroItm).length = m + 1 := by simp [hl]
  rw [hl1] at hown
  have hsh := own_shrink hown
  rw [thItm_take _ _ (by omega)] at hsh
  have e : (l.set m zeroItm).take m = l.take m := by
    apply List.ext_getElem?
    intro i
    simp only [List.getElem?_take, List.getElem?_set]
    split
    · rw [if_neg (by omega)]
    · rfl
  rw [e] at hsh
  refine ⟨⟨heap_setCell_same w1 q 0 _ _ _ h1.blk, ?_, h.ge, ?_⟩, ?_⟩
  · have hlt : (l.take m).length = m := by simp; omega
    rw [hlt]
    obtain ⟨g1, g2⟩ := hsh
    rcases g2 with ⟨g2, _⟩ | ⟨g', cap', cur, g3, g4, g5, g6⟩
    · cases g2
    · simp only [Value.slice.injEq, Option.some.injEq, Addr.mk.injEq, and_true, true_and] at g3
      obtain ⟨rfl, rfl⟩ := g3
      exact ⟨g1, .inr ⟨g, c, cur, rfl, g4, (Below.heap_setCell w1 ⟨q, 0, none⟩ _ g hgq).trans g5, g6⟩⟩
  · intro j hj
    simp [Value.ownBlock] at hj
    omega
  · exact d1.setCell (p := ⟨q, 0, none⟩) (fun _ => .inl rfl) _
set_option maxRecDepth 100000 in
set_option maxHeartbeats 4000000 in
theorem qItm_take (base : Nat) (w : World) (q g c m : Nat) (lf : Value) (l : List (Itm × Nat)) (tn : Nat) (h : QAtItm base w q (.slice (some ⟨g, 0, none⟩) (m + 1) c) lf l tn) (hl : l.length = m + 1) :
    Calls Try.prog 83 #[.pointer (some ⟨q, 0, none⟩)] w fun e w' => e = .returned (.iface 98 (.agg #[.int .i64 (l.getD m zeroItm).1.1, .string (l.getD m zeroItm).1.2, .int .i64 ((l.getD m zeroItm).2 : Int)])) ∧ LeftAtItm base w q (.slice (some ⟨g, 0, none⟩) (m + 1) c) (.slice (some ⟨g, 0, none⟩) m c) lf (l.take m) tn w' := by
  have hne : l ≠ [] := by intro e; rw [e] at hl; simp at hl
  obtain ⟨g', cap', cur, hv, hg, hcur, hnc, hcm, hsz, hflat⟩ := ownItm_at h.own hne
  obtain ⟨rfl, rfl⟩ : g = g' ∧ c = cap' := by simp at hv; exact ⟨hv.1, hv.2.2⟩
  obtain ⟨A, c', hA, _, _, hrd, _⟩ := own_rd h.own
  obtain rfl : A = some ⟨g, 0, none⟩ := by simp at hA; exact hA.1.symm
  have hri := thItm_at hrd m (by omega)
  have hq0 : w.cell? ⟨q, 0, none⟩ = some (.slice (some ⟨g, 0, none⟩) (m + 1) c) := by rw [cell_of_row w q 0 _ _ _ h.blk]; rfl
  have hfq := frozen_of_row w q 0 _ _ h.blk
  have hfr := fun k => frozen_of_row w g k _ _ hcur
  have hgq : g ≠ q := h.ne g rfl
  have hltq : q < w.heap.size := h.lt
  have hltg : g < w.heap.size := (Array.getElem?_eq_some_iff.1 hcur).1
  have hcut := run_cut_k (P := Try.prog) .i64 Try.underlying84 (by kernel_rfl) (some ⟨g, 0, none⟩) (m + 1) c m (m : Int) rfl (by omega)
  have H := Lib.hid h
  have HLN := Lib.hid hl
  have b1 : (0 : Int) ≤ (m : Int) ∧ (m : Int) < ((m + 1 : Nat) : Int) := by omega
  have hbig : m + 1 ≤ maxLen := by omega
  unfold maxLen at hbig
  clear hA hv hcur hflat hrd hsz h hg hnc hcm hl hne
  generalize hx : l.getD m zeroItm = x at *
  have HX := Lib.hid hx
  clear hx
  have ci0 := hri 0 _ rfl
  have ci1 := hri 1 _ rfl
  have ci2 := hri 2 _ rfl
  simp only [Nat.add_zero] at ci0
  clear hri
  go_enter Try.func83, Try.ntmps83
  go_wp2
  go_ret
  refine ⟨rfl, ?_⟩
  exact ⟨(leftTakeItm H.out HLN.out).1.alloc _, (leftTakeItm H.out HLN.out).2.alloc _⟩
end Go.Proofs.Ytmanjeolhifhiaa
