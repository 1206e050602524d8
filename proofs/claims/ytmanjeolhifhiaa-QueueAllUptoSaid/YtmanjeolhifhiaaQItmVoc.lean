/- Words for a queue of one kind of things: what its block and the things' blocks hold. Plain lemmas; no condition. -/
import Derived.Test.YtmanjeolhifhiaaStr
import Derived.Test.YtmanjeolhifhiaaQueuePure
import Derived.Test.YtmanjeolhifhiaaProg
import Derived.IntWalk
namespace Go.Proofs.Ytmanjeolhifhiaa
open Go.RowKit
set_option linter.unusedVariables false

abbrev Itm := Int × ByteArray
def zeroItm : Itm × Nat := ((0, ⟨#[]⟩), 0)
def rowItm (x : Itm) : List Value := [.int .i64 x.1, .string x.2]
def thItm (y : Itm × Nat) : List Value := [.int .i64 y.1.1, .string y.1.2, .int .i64 (y.2 : Int)]
theorem thItm_len (y : Itm × Nat) : (thItm y).length = 3 := rfl
theorem infoItm : (Try.prog.info? 98).map (fun i => (i.zero, i.size, i.bytes)) = some (some (.agg #[.int .i64 0, .string ⟨#[]⟩, .int .i64 0]), 3, 32) := by kernel_rfl
theorem infoTItm : (Try.prog.info? 33).map (fun i => (i.zero, i.size, i.bytes)) = some (some (.agg #[.int .i64 0, .string ⟨#[]⟩]), 2, 24) := by kernel_rfl
theorem rowItm_one (x : Itm) : ∀ u ∈ rowItm x, u.oneCell' = true := by
  intro u hu
  simp only [rowItm, List.mem_cons, List.not_mem_nil, or_false] at hu
  rcases hu with rfl | rfl <;> rfl
theorem thItm_one (y : Itm × Nat) : ∀ u ∈ thItm y, u.oneCell' = true := by
  intro u hu
  simp only [thItm, List.mem_cons, List.not_mem_nil, or_false] at hu
  rcases hu with rfl | rfl | rfl <;> rfl
/-- The queue at block q, its own: v: the slice of its things; lf: the function that ranks; l: the things; tn: the next turn. -/
structure QAtItm (base : Nat) (w : World) (q : Nat) (v lf : Value) (l : List (Itm × Nat)) (tn : Nat) : Prop where
  blk : w.heap[q]? = some (.cells #[v, lf, .int .i64 (tn : Int)] 88 (0, 0))
  own : w.ownsRow base 98 3 v l.length ((l.map thItm).flatten)
  ge : base ≤ q
  ne : ∀ j, v.ownBlock = some j → j ≠ q
/-- The blocks of a queue. -/
def QBlk (q : Nat) (v : Value) (j : Nat) : Prop := j = q ∨ v.ownBlock = some j
theorem QAtItm.kept {base : Nat} {w w' : World} {q : Nat} {v lf : Value} {l : List (Itm × Nat)} {tn : Nat} (h : QAtItm base w q v lf l tn) (hb : Below w.heap.size w w') : QAtItm base w' q v lf l tn :=
  ⟨(hb.block q (Array.getElem?_eq_some_iff.1 h.blk).1).trans h.blk, own_kept h.own hb, h.ge, h.ne⟩
theorem QAtItm.drew {base : Nat} {w : World} {q : Nat} {v lf : Value} {l : List (Itm × Nat)} {tn : Nat} (h : QAtItm base w q v lf l tn) : QAtItm base w.drew q v lf l tn := ⟨h.blk, h.own, h.ge, h.ne⟩
theorem QAtItm.lt {base : Nat} {w : World} {q : Nat} {v lf : Value} {l : List (Itm × Nat)} {tn : Nat} (h : QAtItm base w q v lf l tn) : q < w.heap.size := (Array.getElem?_eq_some_iff.1 h.blk).1
/-- Nothing but what is not the queue's has turned. -/
theorem QAtItm.chg {base : Nat} {w w' : World} {q : Nat} {v lf : Value} {l : List (Itm × Nat)} {tn : Nat} {S : Nat → Prop} (h : QAtItm base w q v lf l tn) (hb : Chg S w w') (hS : ∀ j, QBlk q v j → ¬ S j) : QAtItm base w' q v lf l tn := by
  refine ⟨(hb.block q h.lt (hS q (.inl rfl))).trans h.blk, ?_, h.ge, h.ne⟩
  obtain ⟨hl, ho⟩ := h.own
  refine ⟨hl, ?_⟩
  rcases ho with ho | ⟨g, cap, cur, rfl, h1, h2, h3⟩
  · exact .inl ho
  · exact .inr ⟨g, cap, cur, rfl, h1, (hb.block g (Array.getElem?_eq_some_iff.1 h2).1 (hS g (.inr (by simp [Value.ownBlock])))).trans h2, h3⟩
/-- Where the things lie. -/
theorem ownItm_at {base : Nat} {w : World} {v : Value} {l : List (Itm × Nat)} (h : w.ownsRow base 98 3 v l.length ((l.map thItm).flatten)) (hl : l ≠ []) :
    ∃ g cap cur, v = .slice (some ⟨g, 0, none⟩) l.length cap ∧ base ≤ g ∧ w.heap[g]? = some (.cells cur 98 (0, 0)) ∧ l.length ≤ cap ∧ cap ≤ maxLen ∧ cur.size = cap * 3 ∧ (l.map thItm).flatten = cur.toList.take (l.length * 3) := by
  obtain ⟨hlen, h⟩ := h
  rcases h with ⟨rfl, h0⟩ | ⟨g, cap, cur, rfl, h1, h2, h3, h4, h5, h6⟩
  · exact absurd (List.eq_nil_of_length_eq_zero h0) hl
  · exact ⟨g, cap, cur, rfl, h1, h2, h3, h4, h5, h6.symm⟩
theorem thItm_at {l : List (Itm × Nat)} {w : World} {g : Nat} (h : Rd w (some ⟨g, 0, none⟩) ((l.map thItm).flatten)) (i : Nat) (hi : i < l.length) : w.rangeAt g (i * 3) (thItm (l.getD i zeroItm)) := by
  have := h.row (k := 3) (by intro r hr; simp only [List.mem_map] at hr; obtain ⟨y, _, rfl⟩ := hr; exact thItm_len y) (i := i) (r := thItm (l.getD i zeroItm)) (by simp [List.getElem?_eq_getElem hi, List.getD_eq_getElem?_getD])
  rwa [Nat.zero_add] at this
theorem thItm_set (l : List (Itm × Nat)) (i : Nat) (y : Itm × Nat) (hi : i < l.length) : (((((l.map thItm).flatten).set (i * 3) (.int .i64 y.1.1)).set (i * 3 + 1) (.string y.1.2)).set (i * 3 + 2) (.int .i64 (y.2 : Int))) = ((l.set i y).map thItm).flatten := by
  obtain ⟨P, z, Q, hl, hP⟩ : ∃ P z Q, l = P ++ z :: Q ∧ P.length = i := ⟨l.take i, l[i], l.drop (i + 1), by simp, by simp; omega⟩
  subst hl
  subst hP
  have hlen : (P.map thItm).flatten.length = P.length * 3 := by
    rw [flat_len 3 _ (by intro r hr; simp only [List.mem_map] at hr; obtain ⟨y, _, rfl⟩ := hr; exact thItm_len y)]; simp
  have e : (P ++ z :: Q).set P.length y = P ++ y :: Q := by simp
  rw [e]
  simp only [List.map_append, List.map_cons, List.flatten_append, List.flatten_cons]
  generalize (P.map thItm).flatten = F at *
  generalize (Q.map thItm).flatten = G at *
  rw [← hlen]
  simp [thItm]
theorem QAtItm.store {base : Nat} {w : World} {q g c : Nat} {lf : Value} {l : List (Itm × Nat)} {tn : Nat} (h : QAtItm base w q (.slice (some ⟨g, 0, none⟩) l.length c) lf l tn) (i : Nat) (y : Itm × Nat) (hi : i < l.length) :
    QAtItm base (((w.setCell ⟨g, i * 3, none⟩ (.int .i64 y.1.1)).setCell ⟨g, i * 3 + 1, none⟩ (.string y.1.2)).setCell ⟨g, i * 3 + 2, none⟩ (.int .i64 (y.2 : Int))) q (.slice (some ⟨g, 0, none⟩) l.length c) lf (l.set i y) tn ∧ Chg (QBlk q (.slice (some ⟨g, 0, none⟩) l.length c)) w (((w.setCell ⟨g, i * 3, none⟩ (.int .i64 y.1.1)).setCell ⟨g, i * 3 + 1, none⟩ (.string y.1.2)).setCell ⟨g, i * 3 + 2, none⟩ (.int .i64 (y.2 : Int))) := by
  have hgq : g ≠ q := h.ne g rfl
  have hb : ∀ (W : World) (a : Nat) (u : Value), (W.setCell ⟨g, a, none⟩ u).heap[q]? = W.heap[q]? := fun W a u => Below.heap_setCell W ⟨g, a, none⟩ u q (fun e => hgq e.symm)
  refine ⟨⟨?_, ?_, h.ge, h.ne⟩, ?_⟩
  · simp only [hb]; exact h.blk
  · have hl : (l.set i y).length = l.length := by simp
    rw [hl, ← thItm_set l i y hi]
    exact (((h.own.stored (i * 3) (.int .i64 y.1.1)).1.stored (i * 3 + 1) (.string y.1.2)).1.stored (i * 3 + 2) (.int .i64 (y.2 : Int))).1
  · refine (((Chg.refl _ w).setCell (p := ⟨g, i * 3, none⟩) ?_ (.int .i64 y.1.1)).setCell (p := ⟨g, i * 3 + 1, none⟩) ?_ (.string y.1.2)).setCell (p := ⟨g, i * 3 + 2, none⟩) ?_ (.int .i64 (y.2 : Int))
    all_goals exact fun _ => .inr rfl
theorem QAtItm.store' {base : Nat} {w : World} {q g n c : Nat} {lf : Value} {l : List (Itm × Nat)} {tn : Nat} (h : QAtItm base w q (.slice (some ⟨g, 0, none⟩) n c) lf l tn) (hn : n = l.length) (i : Nat) (y : Itm × Nat) (hi : i < l.length) :
    QAtItm base (((w.setCell ⟨g, i * 3, none⟩ (.int .i64 y.1.1)).setCell ⟨g, i * 3 + 1, none⟩ (.string y.1.2)).setCell ⟨g, i * 3 + 2, none⟩ (.int .i64 (y.2 : Int))) q (.slice (some ⟨g, 0, none⟩) n c) lf (l.set i y) tn ∧ Chg (QBlk q (.slice (some ⟨g, 0, none⟩) n c)) w (((w.setCell ⟨g, i * 3, none⟩ (.int .i64 y.1.1)).setCell ⟨g, i * 3 + 1, none⟩ (.string y.1.2)).setCell ⟨g, i * 3 + 2, none⟩ (.int .i64 (y.2 : Int))) := by
  subst hn
  exact h.store i y hi
end Go.Proofs.Ytmanjeolhifhiaa
