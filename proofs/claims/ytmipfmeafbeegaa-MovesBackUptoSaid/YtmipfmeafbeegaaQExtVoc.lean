/- Words for a queue of one kind of things: what its block and the things' blocks hold. Plain lemmas; no condition. -/
import Derived.Test.YtmipfmeafbeegaaStr
import Derived.Test.YtmipfmeafbeegaaQueuePure
import Derived.Test.YtmipfmeafbeegaaProg
import Derived.IntWalk
namespace Go.Proofs.Ytmipfmeafbeegaa
open Go.RowKit
set_option linter.unusedVariables false

abbrev Ext := Int × Int × Int
def zeroExt : Ext × Nat := ((0, 0, 0), 0)
def rowExt (x : Ext) : List Value := [.int .u64 x.1, .int .i64 x.2.1, .int .i64 x.2.2]
def thExt (y : Ext × Nat) : List Value := [.int .u64 y.1.1, .int .i64 y.1.2.1, .int .i64 y.1.2.2, .int .i64 (y.2 : Int)]
theorem thExt_len (y : Ext × Nat) : (thExt y).length = 4 := rfl
theorem infoExt : (Try.prog.info? 76).map (fun i => (i.zero, i.size, i.bytes)) = some (some (.agg #[.int .u64 0, .int .i64 0, .int .i64 0, .int .i64 0]), 4, 32) := by kernel_rfl
theorem infoTExt : (Try.prog.info? 26).map (fun i => (i.zero, i.size, i.bytes)) = some (some (.agg #[.int .u64 0, .int .i64 0, .int .i64 0]), 3, 24) := by kernel_rfl
theorem rowExt_one (x : Ext) : ∀ u ∈ rowExt x, u.oneCell' = true := by
  intro u hu
  simp only [rowExt, List.mem_cons, List.not_mem_nil, or_false] at hu
  rcases hu with rfl | rfl | rfl <;> rfl
theorem thExt_one (y : Ext × Nat) : ∀ u ∈ thExt y, u.oneCell' = true := by
  intro u hu
  simp only [thExt, List.mem_cons, List.not_mem_nil, or_false] at hu
  rcases hu with rfl | rfl | rfl | rfl <;> rfl
/-- The queue at block q, its own: v: the slice of its things; lf: the function that ranks; l: the things; tn: the next turn. -/
structure QAtExt (base : Nat) (w : World) (q : Nat) (v lf : Value) (l : List (Ext × Nat)) (tn : Nat) : Prop where
  blk : w.heap[q]? = some (.cells #[v, lf, .int .i64 (tn : Int)] 72 (0, 0))
  own : w.ownsRow base 76 4 v l.length ((l.map thExt).flatten)
  ge : base ≤ q
  ne : ∀ j, v.ownBlock = some j → j ≠ q
/-- The blocks of a queue. -/
def QBlk (q : Nat) (v : Value) (j : Nat) : Prop := j = q ∨ v.ownBlock = some j
theorem QAtExt.kept {base : Nat} {w w' : World} {q : Nat} {v lf : Value} {l : List (Ext × Nat)} {tn : Nat} (h : QAtExt base w q v lf l tn) (hb : Below w.heap.size w w') : QAtExt base w' q v lf l tn :=
  ⟨(hb.block q (Array.getElem?_eq_some_iff.1 h.blk).1).trans h.blk, own_kept h.own hb, h.ge, h.ne⟩
theorem QAtExt.drew {base : Nat} {w : World} {q : Nat} {v lf : Value} {l : List (Ext × Nat)} {tn : Nat} (h : QAtExt base w q v lf l tn) : QAtExt base w.drew q v lf l tn := ⟨h.blk, h.own, h.ge, h.ne⟩
theorem QAtExt.lt {base : Nat} {w : World} {q : Nat} {v lf : Value} {l : List (Ext × Nat)} {tn : Nat} (h : QAtExt base w q v lf l tn) : q < w.heap.size := (Array.getElem?_eq_some_iff.1 h.blk).1
/-- Nothing but what is not the queue's has turned. -/
theorem QAtExt.chg {base : Nat} {w w' : World} {q : Nat} {v lf : Value} {l : List (Ext × Nat)} {tn : Nat} {S : Nat → Prop} (h : QAtExt base w q v lf l tn) (hb : Chg S w w') (hS : ∀ j, QBlk q v j → ¬ S j) : QAtExt base w' q v lf l tn := by
  refine ⟨(hb.block q h.lt (hS q (.inl rfl))).trans h.blk, ?_, h.ge, h.ne⟩
  obtain ⟨hl, ho⟩ := h.own
  refine ⟨hl, ?_⟩
  rcases ho with ho | ⟨g, cap, cur, rfl, h1, h2, h3⟩
  · exact .inl ho
  · exact .inr ⟨g, cap, cur, rfl, h1, (hb.block g (Array.getElem?_eq_some_iff.1 h2).1 (hS g (.inr (by simp [Value.ownBlock])))).trans h2, h3⟩
/-- Where the things lie. -/
theorem ownExt_at {base : Nat} {w : World} {v : Value} {l : List (Ext × Nat)} (h : w.ownsRow base 76 4 v l.length ((l.map thExt).flatten)) (hl : l ≠ []) :
    ∃ g cap cur, v = .slice (some ⟨g, 0, none⟩) l.length cap ∧ base ≤ g ∧ w.heap[g]? = some (.cells cur 76 (0, 0)) ∧ l.length ≤ cap ∧ cap ≤ maxLen ∧ cur.size = cap * 4 ∧ (l.map thExt).flatten = cur.toList.take (l.length * 4) := by
  obtain ⟨hlen, h⟩ := h
  rcases h with ⟨rfl, h0⟩ | ⟨g, cap, cur, rfl, h1, h2, h3, h4, h5, h6⟩
  · exact absurd (List.eq_nil_of_length_eq_zero h0) hl
  · exact ⟨g, cap, cur, rfl, h1, h2, h3, h4, h5, h6.symm⟩
theorem thExt_at {l : List (Ext × Nat)} {w : World} {g : Nat} (h : Rd w (some ⟨g, 0, none⟩) ((l.map thExt).flatten)) (i : Nat) (hi : i < l.length) : w.rangeAt g (i * 4) (thExt (l.getD i zeroExt)) := by
  have := h.row (k := 4) (by intro r hr; simp only [List.mem_map] at hr; obtain ⟨y, _, rfl⟩ := hr; exact thExt_len y) (i := i) (r := thExt (l.getD i zeroExt)) (by simp [List.getElem?_eq_getElem hi, List.getD_eq_getElem?_getD])
  rwa [Nat.zero_add] at this
theorem thExt_set (l : List (Ext × Nat)) (i : Nat) (y : Ext × Nat) (hi : i < l.length) : ((((((l.map thExt).flatten).set (i * 4) (.int .u64 y.1.1)).set (i * 4 + 1) (.int .i64 y.1.2.1)).set (i * 4 + 2) (.int .i64 y.1.2.2)).set (i * 4 + 3) (.int .i64 (y.2 : Int))) = ((l.set i y).map thExt).flatten := by
  obtain ⟨P, z, Q, hl, hP⟩ : ∃ P z Q, l = P ++ z :: Q ∧ P.length = i := ⟨l.take i, l[i], l.drop (i + 1), by simp, by simp; omega⟩
  subst hl
  subst hP
  have hlen : (P.map thExt).flatten.length = P.length * 4 := by
    rw [flat_len 4 _ (by intro r hr; simp only [List.mem_map] at hr; obtain ⟨y, _, rfl⟩ := hr; exact thExt_len y)]; simp
  have e : (P ++ z :: Q).set P.length y = P ++ y :: Q := by simp
  rw [e]
  simp only [List.map_append, List.map_cons, List.flatten_append, List.flatten_cons]
  generalize (P.map thExt).flatten = F at *
  generalize (Q.map thExt).flatten = G at *
  rw [← hlen]
  simp [thExt]
theorem QAtExt.store {base : Nat} {w : World} {q g c : Nat} {lf : Value} {l : List (Ext × Nat)} {tn : Nat} (h : QAtExt base w q (.slice (some ⟨g, 0, none⟩) l.length c) lf l tn) (i : Nat) (y : Ext × Nat) (hi : i < l.length) :
    QAtExt base ((((w.setCell ⟨g, i * 4, none⟩ (.int .u64 y.1.1)).setCell ⟨g, i * 4 + 1, none⟩ (.int .i64 y.1.2.1)).setCell ⟨g, i * 4 + 2, none⟩ (.int .i64 y.1.2.2)).setCell ⟨g, i * 4 + 3, none⟩ (.int .i64 (y.2 : Int))) q (.slice (some ⟨g, 0, none⟩) l.length c) lf (l.set i y) tn ∧ Chg (QBlk q (.slice (some ⟨g, 0, none⟩) l.length c)) w ((((w.setCell ⟨g, i * 4, none⟩ (.int .u64 y.1.1)).setCell ⟨g, i * 4 + 1, none⟩ (.int .i64 y.1.2.1)).setCell ⟨g, i * 4 + 2, none⟩ (.int .i64 y.1.2.2)).setCell ⟨g, i * 4 + 3, none⟩ (.int .i64 (y.2 : Int))) := by
  have hgq : g ≠ q := h.ne g rfl
  have hb : ∀ (W : World) (a : Nat) (u : Value), (W.setCell ⟨g, a, none⟩ u).heap[q]? = W.heap[q]? := fun W a u => Below.heap_setCell W ⟨g, a, none⟩ u q (fun e => hgq e.symm)
  refine ⟨⟨?_, ?_, h.ge, h.ne⟩, ?_⟩
  · simp only [hb]; exact h.blk
  · have hl : (l.set i y).length = l.length := by simp
    rw [hl, ← thExt_set l i y hi]
    exact ((((h.own.stored (i * 4) (.int .u64 y.1.1)).1.stored (i * 4 + 1) (.int .i64 y.1.2.1)).1.stored (i * 4 + 2) (.int .i64 y.1.2.2)).1.stored (i * 4 + 3) (.int .i64 (y.2 : Int))).1
  · refine ((((Chg.refl _ w).setCell (p := ⟨g, i * 4, none⟩) ?_ (.int .u64 y.1.1)).setCell (p := ⟨g, i * 4 + 1, none⟩) ?_ (.int .i64 y.1.2.1)).setCell (p := ⟨g, i * 4 + 2, none⟩) ?_ (.int .i64 y.1.2.2)).setCell (p := ⟨g, i * 4 + 3, none⟩) ?_ (.int .i64 (y.2 : Int))
    all_goals exact fun _ => .inr rfl
theorem QAtExt.store' {base : Nat} {w : World} {q g n c : Nat} {lf : Value} {l : List (Ext × Nat)} {tn : Nat} (h : QAtExt base w q (.slice (some ⟨g, 0, none⟩) n c) lf l tn) (hn : n = l.length) (i : Nat) (y : Ext × Nat) (hi : i < l.length) :
    QAtExt base ((((w.setCell ⟨g, i * 4, none⟩ (.int .u64 y.1.1)).setCell ⟨g, i * 4 + 1, none⟩ (.int .i64 y.1.2.1)).setCell ⟨g, i * 4 + 2, none⟩ (.int .i64 y.1.2.2)).setCell ⟨g, i * 4 + 3, none⟩ (.int .i64 (y.2 : Int))) q (.slice (some ⟨g, 0, none⟩) n c) lf (l.set i y) tn ∧ Chg (QBlk q (.slice (some ⟨g, 0, none⟩) n c)) w ((((w.setCell ⟨g, i * 4, none⟩ (.int .u64 y.1.1)).setCell ⟨g, i * 4 + 1, none⟩ (.int .i64 y.1.2.1)).setCell ⟨g, i * 4 + 2, none⟩ (.int .i64 y.1.2.2)).setCell ⟨g, i * 4 + 3, none⟩ (.int .i64 (y.2 : Int))) := by
  subst hn
  exact h.store i y hi
end Go.Proofs.Ytmipfmeafbeegaa
