/- Contracts: the queue's own calls: Push, Pop. -/
import Derived.Test.YtmipfmeafbeegaaQExtHeap
import Derived.StillTailTactics
namespace Go.Proofs.Ytmipfmeafbeegaa
open Go.RowKit
set_option linter.unusedVariables false

theorem bodyPost_world {P : Program} {f : Func} {R : Ending → World → Prop} {e : Exit} {a : Act} {W : World} (I : World → Prop) (hI : I W) (h : ∀ X, I X → bodyPost P f R e a X) : bodyPost P f R e a W := h W hI
theorem fieldExt (a0 a1 a2 a3 : Value) (w : World) : (Instr.field 76 (.agg #[a0, a1, a2, a3]) 0).run Try.prog w = .ok (.agg #[a0, a1, a2]) w := by kernel_rfl
theorem QAtExt.turn {base : Nat} {w : World} {q : Nat} {v lf : Value} {l : List (Ext × Nat)} {tn : Nat} (h : QAtExt base w q v lf l tn) (t' : Nat) : QAtExt base (w.setCell ⟨q, 2, none⟩ (.int .i64 (t' : Int))) q v lf l t' := by
  refine ⟨heap_setCell_same w q 2 _ _ _ h.blk, ?_, h.ge, h.ne⟩
  obtain ⟨h1, h2⟩ := h.own
  refine ⟨h1, ?_⟩
  rcases h2 with h2 | ⟨g, cap, cur, rfl, h4, h5, h6⟩
  · exact .inl h2
  · exact .inr ⟨g, cap, cur, rfl, h4, (Below.heap_setCell w ⟨q, 2, none⟩ _ g (h.ne g rfl)).trans h5, h6⟩
set_option maxRecDepth 100000 in
set_option maxHeartbeats 4000000 in
theorem qExt_push (base : Nat) (less : Ext → Ext → Bool) (fn : Nat) (R : RanksExt less fn) (w : World) (q : Nat) (v : Value) (l : List (Ext × Nat)) (tn : Nat) (x : Ext) (h : QAtExt base w q v (.func (.func fn) #[] #[]) l tn) (hcap : l.length + 1 ≤ 4000000000) (ht : tn ≤ 4000000000) (hbase : base ≤ w.heap.size) :
    Calls Try.prog 27 #[.pointer (some ⟨q, 0, none⟩), .agg #[.int .u64 x.1, .int .i64 x.2.1, .int .i64 x.2.2]] w fun e w' => e = .returned (.int .i64 0) ∧ LeftExt base w q v (.func (.func fn) #[] #[]) (pushL zeroExt (ltT less) l (x, tn)) (tn + 1) w' := by
  have H := Lib.hid h
  have hlt := h.lt
  have C := Lib.hid (fun (w1 : World) (hq : QAtExt base w1 q v (.func (.func fn) #[] #[]) l tn) (hb : base ≤ w1.heap.size) => qExt_hpush base less fn R w1 q v l tn (x, tn) hq hcap hb)
  clear h
  obtain ⟨w0, hw0⟩ : ∃ w0 : World, w0 = w.alloc (.cells #[.int .u64 x.1, .int .i64 x.2.1, .int .i64 x.2.2] 26) := ⟨_, rfl⟩
  have hQ0 : QAtExt base w0 q v (.func (.func fn) #[] #[]) l tn := by rw [hw0]; exact H.out.alloc _
  have hc0 : Chg (QBlk q v) w w0 := by rw [hw0]; exact (Chg.refl _ w).alloc _
  have hblk : w0.heap[w.heap.size]? = some (.cells #[.int .u64 x.1, .int .i64 x.2.1, .int .i64 x.2.2] 26 (0, 0)) := by rw [hw0]; exact heap_alloc_new _ _
  have hq2 : w0.cell? ⟨q, 2, none⟩ = some (.int .i64 (tn : Int)) := by rw [cell_of_row w0 q 2 _ _ _ hQ0.blk]; rfl
  have hcr := fun i => cell_of_row w0 w.heap.size i _ _ _ hblk
  have HQ0 := Lib.hid hQ0
  have HC0 := Lib.hid hc0
  have hs0 := hc0.size
  clear hQ0 hc0 hblk
  go_enter Try.func27, Try.ntmps27
  go_upto_region 3 with fail
  rw [← hw0]
  clear hw0
  go_still_tail 11, (by kernel_rfl)
  change wpList _ _ _ _ _ w0.drew
  go_wp2_with fail
  refine (C.out _ HQ0.out.drew (by simp; omega)).mono ?_
  rintro e w1 ⟨rfl, hL⟩
  obtain ⟨v1, hq1, hc1, hn1⟩ := hL
  clear hcr hq2
  have hq2 : w1.cell? ⟨q, 2, none⟩ = some (.int .i64 (tn : Int)) := by rw [cell_of_row w1 q 2 _ _ _ hq1.blk]; rfl
  have hf2 := frozen_of_row w1 q 2 _ _ hq1.blk
  have HQ1 := Lib.hid hq1
  have HC1 := Lib.hid hc1
  have HN1 := Lib.hid hn1
  clear hq1 hc1 hn1
  go_wp2
  go_ret
  refine ⟨rfl, ?_⟩
  have hT := HQ1.out.turn (tn + 1)
  rw [show ((tn + 1 : Nat) : Int) = (tn : Int) + 1 by omega] at hT
  refine LeftExt.then hs0 HC0.out (fun j hj => .inl hj) ⟨v1, ?_, ?_, HN1.out⟩
  · exact ⟨by have := hT.blk; rw [show ((tn + 1 : Nat) : Int) = (tn : Int) + 1 by omega]; exact this, hT.own, hT.ge, hT.ne⟩
  · have hc : Chg (QBlk q v) w0 w1 := ⟨HC1.out.os, HC1.out.tape, HC1.out.output, HC1.out.size, HC1.out.block⟩
    exact hc.setCell (p := ⟨q, 2, none⟩) (fun _ => .inl rfl) _

set_option maxRecDepth 100000 in
set_option maxHeartbeats 4000000 in
theorem qExt_pop (base : Nat) (less : Ext → Ext → Bool) (fn : Nat) (R : RanksExt less fn) (w : World) (q g c m : Nat) (l : List (Ext × Nat)) (tn : Nat) (h : QAtExt base w q (.slice (some ⟨g, 0, none⟩) (m + 1) c) (.func (.func fn) #[] #[]) l tn) (hl : l.length = m + 1) (hcap : l.length ≤ 4000000000) :
    Calls Try.prog 47 #[.pointer (some ⟨q, 0, none⟩)] w fun e w' => e = .returned (.tuple #[.agg #[.int .u64 ((popL zeroExt (ltT less) l).getD m zeroExt).1.1, .int .i64 ((popL zeroExt (ltT less) l).getD m zeroExt).1.2.1, .int .i64 ((popL zeroExt (ltT less) l).getD m zeroExt).1.2.2], .bool true]) ∧ LeftAtExt base w q (.slice (some ⟨g, 0, none⟩) (m + 1) c) (.slice (some ⟨g, 0, none⟩) m c) (.func (.func fn) #[] #[]) ((popL zeroExt (ltT less) l).take m) tn w' := by
  have hlt := h.lt
  obtain ⟨w0, hw0⟩ : ∃ w0 : World, w0 = w.alloc (.cells #[.int .u64 0, .int .i64 0, .int .i64 0] 26) := ⟨_, rfl⟩
  have hQ0 : QAtExt base w0 q (.slice (some ⟨g, 0, none⟩) (m + 1) c) (.func (.func fn) #[] #[]) l tn := by rw [hw0]; exact h.alloc _
  have hblk : w0.heap[w.heap.size]? = some (.cells #[.int .u64 0, .int .i64 0, .int .i64 0] 26 (0, 0)) := by rw [hw0]; exact heap_alloc_new _ _
  have hs0 : w0.heap.size = w.heap.size + 1 := by rw [hw0]; simp
  have C1 := Lib.hid (by have := qExt_qlen base w0 q _ _ _ tn hQ0; rw [hl] at this; exact this)
  have C2 := Lib.hid (qExt_hpop base less fn R w0 q g c m l tn hQ0 hl hcap)
  have hta := assertExt
  have hfd := fieldExt
  have HBK := Lib.hid hblk
  have HW0 := Lib.hid hw0
  have HS0 := Lib.hid hs0
  have hgl := (h.own.lt g rfl).2
  have b0 : (((m : Int) + 1) == 0) = false := by rw [beq_eq_false_iff_ne]; omega
  have HC0 : Hid (Chg (QBlk q (.slice (some ⟨g, 0, none⟩) (m + 1) c)) w w0) := by rw [hw0]; exact Lib.hid ((Chg.refl _ w).alloc _)
  clear h hQ0 hblk hl hs0
  generalize (popL zeroExt (ltT less) l).getD m zeroExt = x at *
  go_enter Try.func47, Try.ntmps47
  go_upto_region 1 with fail
  rw [← hw0]
  clear hw0
  go_wp2_with fail
  refine C1.out.mono ?_
  rintro e w1 ⟨rfl, rfl⟩
  go_wp2_with fail
  refine C2.out.mono ?_
  rintro e w2 ⟨rfl, hL⟩
  obtain ⟨hq2, hc2⟩ := hL
  have HQ2 := Lib.hid hq2
  have HC2 := Lib.hid hc2
  have hbk2 := (hc2.block w.heap.size (by have := HS0.out; omega) (by
    intro hq
    rcases hq with e | e
    · omega
    · simp [Value.ownBlock] at e; omega)).trans HBK.out
  have HBK2 := Lib.hid hbk2
  have hcr := fun i => cell_of_row w2 w.heap.size i _ _ _ hbk2
  have hfr := fun i => frozen_of_row w2 w.heap.size i _ _ hbk2
  clear hq2 hc2 hbk2
  go_wp2
  refine bodyPost_world (fun X => X.heap[w.heap.size]? = some (.cells #[.int .u64 x.1.1, .int .i64 x.1.2.1, .int .i64 x.1.2.2] 26 (0, 0)) ∧ LeftAtExt base w q (.slice (some ⟨g, 0, none⟩) (m + 1) c) (.slice (some ⟨g, 0, none⟩) m c) (.func (.func fn) #[] #[]) ((popL zeroExt (ltT less) l).take m) tn X) ⟨?_, ?_⟩ (fun X hX0 => ?_)
  rotate_left
  rotate_left
  · obtain ⟨hX, hL⟩ := hX0
    have hXc := fun i => cell_of_row X w.heap.size i _ _ _ hX
    have HL := Lib.hid hL
    clear hX hL hcr hfr
    exact bodyPost_ret (v := .tuple #[.agg #[.int .u64 x.1.1, .int .i64 x.1.2.1, .int .i64 x.1.2.2], .bool true]) (by simp [results, Try.results47, go_sem, hXc]) rfl ⟨rfl, HL.out⟩
  · have h0 : _ = some (Obj.cells #[.int .u64 x.1.1, .int .i64 0, .int .i64 0] 26 (0, 0)) := heap_setCell_same _ w.heap.size 0 _ _ (.int .u64 x.1.1) HBK2.out
    have h1 : _ = some (Obj.cells #[.int .u64 x.1.1, .int .i64 x.1.2.1, .int .i64 0] 26 (0, 0)) := heap_setCell_same _ w.heap.size 1 _ _ (.int .i64 x.1.2.1) h0
    have h2 : _ = some (Obj.cells #[.int .u64 x.1.1, .int .i64 x.1.2.1, .int .i64 x.1.2.2] 26 (0, 0)) := heap_setCell_same _ w.heap.size 2 _ _ (.int .i64 x.1.2.2) h1
    exact h2
  · have hS : ∀ j, QBlk q (.slice (some ⟨g, 0, none⟩) m c) j → ¬ (j = w.heap.size) := by
      rintro j hj rfl
      rcases hj with e | e
      · omega
      · simp [Value.ownBlock] at e; omega
    have hch : Chg (fun j => j = w.heap.size) w2 (((w2.setCell ⟨w.heap.size, 0, none⟩ (.int .u64 x.1.1)).setCell ⟨w.heap.size, 1, none⟩ (.int .i64 x.1.2.1)).setCell ⟨w.heap.size, 2, none⟩ (.int .i64 x.1.2.2)) := (((Chg.refl (fun j => j = w.heap.size) w2).setCell (p := ⟨w.heap.size, 0, none⟩) (fun _ => rfl) (.int .u64 x.1.1)).setCell (p := ⟨w.heap.size, 1, none⟩) (fun _ => rfl) (.int .i64 x.1.2.1)).setCell (p := ⟨w.heap.size, 2, none⟩) (fun _ => rfl) (.int .i64 x.1.2.2)
    have hall : Chg (QBlk q (.slice (some ⟨g, 0, none⟩) (m + 1) c)) w (((w2.setCell ⟨w.heap.size, 0, none⟩ (.int .u64 x.1.1)).setCell ⟨w.heap.size, 1, none⟩ (.int .i64 x.1.2.1)).setCell ⟨w.heap.size, 2, none⟩ (.int .i64 x.1.2.2)) := (((HC0.out.trans HC2.out).setCell (p := ⟨w.heap.size, 0, none⟩) (fun h => absurd h (by simp)) (.int .u64 x.1.1)).setCell (p := ⟨w.heap.size, 1, none⟩) (fun h => absurd h (by simp)) (.int .i64 x.1.2.1)).setCell (p := ⟨w.heap.size, 2, none⟩) (fun h => absurd h (by simp)) (.int .i64 x.1.2.2)
    exact ⟨HQ2.out.chg hch hS, hall⟩
end Go.Proofs.Ytmipfmeafbeegaa
