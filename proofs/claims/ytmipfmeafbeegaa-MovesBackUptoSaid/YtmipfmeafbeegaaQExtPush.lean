/- Contracts: the methods of a queue's pile: Push, Pop. -/
import Derived.Test.YtmipfmeafbeegaaQExtSwap
import Derived.Deep.RegionLaw
import Derived.Deep.AppendLies
namespace Go.Proofs.Ytmipfmeafbeegaa
open Go.RowKit
set_option linter.unusedVariables false

/-- What a call leaves: the queue with these things; nothing else has turned; the things lie where they lay, or in new memory. -/
def LeftExt (base : Nat) (w : World) (q : Nat) (v lf : Value) (l : List (Ext × Nat)) (tn : Nat) (w' : World) : Prop :=
  ∃ v', QAtExt base w' q v' lf l tn ∧ Chg (QBlk q v) w w' ∧ ∀ j, v'.ownBlock = some j → v.ownBlock = some j ∨ w.heap.size ≤ j
/-- The same, the slice of its things said. -/
def LeftAtExt (base : Nat) (w : World) (q : Nat) (v v' lf : Value) (l : List (Ext × Nat)) (tn : Nat) (w' : World) : Prop := QAtExt base w' q v' lf l tn ∧ Chg (QBlk q v) w w'
theorem run_cut_k {P : Program} {t e : TypeId} (kh : IntKind) (ht : P.underlying t = some (.slice e)) (hsz : (P.info? e).isSome = true) (A : Option Addr) (n c hi : Nat) (h : Int) (hh : h = hi) (h2 : hi ≤ c) :
    ∀ W : World, (Instr.slice t (.slice A n c) none (some (.int kh h)) none).run P W = .ok (.slice A hi c) W := by
  intro W
  subst hh
  have hel : P.elem t = e := by simp [Program.elem, ht]
  have hu : P.underlying t = some (.slice (P.elem t)) := by rw [hel]; exact ht
  cases hi' : P.info? e with
  | none => rw [hi'] at hsz; simp at hsz
  | some i =>
    rw [run_slice_h W t A n c hu kh (hi : Int) (by omega) (by omega), hel]
    cases A <;> simp [sizeOf, typeInfo, hi', sliced, Result.andThen, Addr.add]

theorem below1 (w : World) (o : Obj) : Below w.heap.size w (w.alloc o) := (Below.refl _ _).alloc (Nat.le_refl _) _
theorem leftAppendExt {base : Nat} {w w8 : World} {q : Nat} {v lf : Value} {l : List (Ext × Nat)} {tn : Nat} (h : QAtExt base w q v lf l tn) (hbase : base ≤ w.heap.size) (x : Ext × Nat) (o : Obj) {g c : Nat}
    (hown : w8.ownsRow base 76 4 (.slice (some ⟨g, 0, none⟩) (l.length + 1) c) (l.length + 1) ((l.map thExt).flatten ++ thExt x)) (hg0 : (w.alloc o).drew.grownBy w8 v.ownBlock) (hat : v.ownBlock = some g ∨ g = w.heap.size + 1) :
    LeftExt base w q v lf (l ++ [x]) tn (w8.setCell ⟨q, 0, none⟩ (.slice (some ⟨g, 0, none⟩) (l.length + 1) c)) := by
  have hg : (w.alloc o).grownBy w8 v.ownBlock := ⟨hg0.os, hg0.tape, hg0.output, hg0.size, hg0.block⟩
  have hlt := h.lt
  have hne : some q ≠ v.ownBlock := fun e => h.ne q e.symm rfl
  have hb8 : w8.heap[q]? = some (.cells #[v, lf, .int .i64 (tn : Int)] 72 (0, 0)) := (hg.block q (by simp; omega) hne).trans (((below1 w _).block q hlt).trans h.blk)
  have hgq : g ≠ q := by
    rintro rfl
    rcases hat with e | e
    · exact h.ne _ e rfl
    · omega
  refine ⟨_, ⟨heap_setCell_same w8 q 0 _ _ _ hb8, ?_, h.ge, ?_⟩, ?_, ?_⟩
  · have e : ((l ++ [x]).map thExt).flatten = (l.map thExt).flatten ++ thExt x := by simp
    have el : (l ++ [x]).length = l.length + 1 := by simp
    rw [e, el]
    obtain ⟨h1, h2⟩ := hown
    rcases h2 with ⟨h2, _⟩ | ⟨g', cap', cur, h3, h4, h5, h6⟩
    · cases h2
    · simp only [Value.slice.injEq, Option.some.injEq, Addr.mk.injEq, and_true, true_and] at h3
      obtain ⟨rfl, rfl⟩ := h3
      exact ⟨h1, .inr ⟨g, c, cur, rfl, h4, (Below.heap_setCell w8 ⟨q, 0, none⟩ _ g hgq).trans h5, h6⟩⟩
  · intro j hj
    simp [Value.ownBlock] at hj
    omega
  · have c1 : Chg (QBlk q v) w (w.alloc o) := (Chg.refl _ w).alloc o
    have c2 : Chg (QBlk q v) w w8 := ⟨hg.os.trans c1.os, hg.tape.trans c1.tape, hg.output.trans c1.output, Nat.le_trans c1.size hg.size, fun k hk hn => (hg.block k (by simp; omega) (fun e => hn (.inr e.symm))).trans (c1.block k hk hn)⟩
    exact c2.setCell (p := ⟨q, 0, none⟩) (fun _ => .inl rfl) _
  · intro j hj
    simp [Value.ownBlock] at hj
    subst hj
    rcases hat with e | e
    · exact .inl e
    · exact .inr (by omega)
theorem LeftExt.drew {base : Nat} {w w' : World} {q : Nat} {v lf : Value} {l : List (Ext × Nat)} {tn : Nat} (h : LeftExt base w q v lf l tn w') : LeftExt base w q v lf l tn w'.drew := by
  obtain ⟨v', h1, h2, h3⟩ := h
  exact ⟨v', h1.drew, h2.drew, h3⟩
theorem assertExt (v : Value) (w : World) : (Instr.typeAssert (.iface 76 v) 20 76 false).run Try.prog w = .ok v w := by kernel_rfl
set_option maxRecDepth 100000 in
set_option maxHeartbeats 4000000 in
theorem qExt_append (base : Nat) (w : World) (q : Nat) (v lf : Value) (l : List (Ext × Nat)) (tn : Nat) (x : Ext × Nat) (h : QAtExt base w q v lf l tn) (hcap : l.length + 1 ≤ 4000000000) (hbase : base ≤ w.heap.size) :
    Calls Try.prog 75 #[.pointer (some ⟨q, 0, none⟩), .iface 76 (.agg #[.int .u64 x.1.1, .int .i64 x.1.2.1, .int .i64 x.1.2.2, .int .i64 (x.2 : Int)])] w fun e w' => e = .returned (.tuple #[]) ∧ LeftExt base w q v lf (l ++ [x]) tn w' := by
  have hq0 : w.cell? ⟨q, 0, none⟩ = some v := by rw [cell_of_row w q 0 _ _ _ h.blk]; rfl
  have hfr := frozen_of_row w q 0 _ _ h.blk
  have hlt : q < w.heap.size := h.lt
  have H := Lib.hid h
  obtain ⟨A0, c0, hv, _⟩ := own_sh h.own
  have HV := Lib.hid hv
  have hta := assertExt
  have HNE := Lib.hid (fun (e : some q = v.ownBlock) => h.ne q e.symm rfl)
  clear h hv
  go_enter Try.func75, Try.ntmps75
  go_wp2_with fail
  have hqA := ((below1 w (.cells #[.int .u64 x.1.1, .int .i64 x.1.2.1, .int .i64 x.1.2.2, .int .i64 (x.2 : Int)] 76)).cell (p := ⟨q, 0, none⟩) hlt).trans hq0
  obtain ⟨i0, hi, hz0, hz1, hz2⟩ := info_parts infoExt
  go_region_law
    ((refine step_append_lies _ (by rfl) _ _ _ (by rfl) base 76 i0 (.agg #[.int .u64 0, .int .i64 0, .int .i64 0, .int .i64 0]) 4 32 Try.underlying68 hi hz0 hz1 hz2 rfl (by decide) v l.length _ (by rfl) ((H.out.own.alloc _).drew) ⟨w.heap.size, 0, none⟩ 1 1 (thExt x) (by rfl) (by rfl) (fun j u hj => (rd_new w (thExt x) 76).addr j u hj) (thExt_one _) (by decide) (by unfold maxLen; omega) (by omega) (by simp; omega) (w.heap.size + 1) (by simp) ?_; intro g8 c8 w8 hown8 hg8 hat8 hlt8; have HB8 := Lib.hid ((hg8.block q (by simp; omega) HNE.out).trans (((below1 w _).block q hlt).trans H.out.blk)); have hq8 := (cell_of_row w8 q 0 _ _ _ HB8.out); have hf8 := frozen_of_row w8 q 0 _ _ HB8.out; simp only [List.getElem?_toArray, List.getElem?_cons_zero] at hq8))
  all_goals
    go_end0
    first
      | exact ⟨rfl, leftAppendExt H.out hbase x _ hown8 hg8 hat8⟩
      | exact ⟨rfl, (leftAppendExt H.out hbase x _ hown8 hg8 hat8).drew⟩
end Go.Proofs.Ytmipfmeafbeegaa
