/- Contracts: a queue of one kind of things, by what it holds, in order: Push, Pop, Pop of an empty one. -/
import Derived.Test.YtmanjeolhifhiaaQItmSorted
namespace Go.Proofs.Ytmanjeolhifhiaa
open Go.RowKit
set_option linter.unusedVariables false

/-- The queue at block q: v: the slice of its things; S: what it holds, in order; tn: the next turn. -/
structure QIsItm (base : Nat) (less : Itm → Itm → Bool) (fn q : Nat) (v : Value) (S : List (Itm × Nat)) (tn : Nat) (W : World) : Prop where
  ex : ∃ l, QAtItm base W q v (.func (.func fn) #[] #[]) l tn ∧ QS zeroItm less l S
  turn : ∀ y ∈ S, y.2 < tn
/-- The slice lies where it lay, or in a new block. -/
def FreshItm (w : World) (v v' : Value) : Prop := ∀ j, v'.ownBlock = some j → v.ownBlock = some j ∨ w.heap.size ≤ j
theorem QIsItm.lt {base : Nat} {less : Itm → Itm → Bool} {fn q : Nat} {v : Value} {S : List (Itm × Nat)} {tn : Nat} {W : World} (h : QIsItm base less fn q v S tn W) : ∀ j, QBlk q v j → base ≤ j ∧ j < W.heap.size := by
  obtain ⟨⟨l, hq, _⟩, _⟩ := h
  rintro j (rfl | hj)
  · exact ⟨hq.ge, hq.lt⟩
  · exact hq.own.lt j hj
theorem QIsItm.chg {base : Nat} {less : Itm → Itm → Bool} {fn q : Nat} {v : Value} {S : List (Itm × Nat)} {tn : Nat} {W W' : World} {P : Nat → Prop} (h : QIsItm base less fn q v S tn W) (hc : Chg P W W') (hP : ∀ j, QBlk q v j → ¬ P j) : QIsItm base less fn q v S tn W' := by
  obtain ⟨⟨l, hq, hs⟩, ht⟩ := h
  exact ⟨⟨l, hq.chg hc hP, hs⟩, ht⟩
theorem QIsItm.kept {base : Nat} {less : Itm → Itm → Bool} {fn q : Nat} {v : Value} {S : List (Itm × Nat)} {tn : Nat} {W W' : World} (h : QIsItm base less fn q v S tn W) (hb : Below W.heap.size W W') : QIsItm base less fn q v S tn W' := by
  obtain ⟨⟨l, hq, hs⟩, ht⟩ := h
  exact ⟨⟨l, hq.kept hb, hs⟩, ht⟩
theorem qItm_new2 (less : Itm → Itm → Bool) (fn : Nat) (w : World) :
    Calls Try.prog 14 #[.func (.func fn) #[] #[]] w fun e w' => e = .returned (.pointer (some ⟨w.heap.size, 0, none⟩)) ∧ QIsItm w.heap.size less fn w.heap.size (.slice none 0 0) [] 0 w' ∧ Below w.heap.size w w' := by
  refine (qItm_new fn w).mono ?_
  rintro e w' ⟨rfl, hq, hb⟩
  exact ⟨rfl, ⟨⟨_, hq, QS.nil _ _⟩, by simp⟩, hb⟩
theorem qItm_push2 (base : Nat) (less : Itm → Itm → Bool) (hsw : Swo less) (fn : Nat) (R : RanksItm less fn) (w : World) (q : Nat) (v : Value) (S : List (Itm × Nat)) (tn : Nat) (x : Itm) (h : QIsItm base less fn q v S tn w) (hcap : S.length + 1 ≤ 4000000000) (ht : tn ≤ 4000000000) (hbase : base ≤ w.heap.size) :
    Calls Try.prog 18 #[.pointer (some ⟨q, 0, none⟩), .agg #[.int .i64 x.1, .string x.2]] w fun e w' => e = .returned (.int .i64 0) ∧ ∃ v', QIsItm base less fn q v' (insT less (x, tn) S) (tn + 1) w' ∧ Chg (QBlk q v) w w' ∧ FreshItm w v v' := by
  obtain ⟨⟨l, hq, hs⟩, ht2⟩ := h
  refine (qItm_push base less fn R w q v l tn x hq (by rw [hs.len]; exact hcap) ht hbase).mono ?_
  rintro e w' ⟨rfl, v', hq', hc, hf⟩
  refine ⟨rfl, v', ⟨⟨_, hq', hs.push hsw (x, tn) ht2⟩, ?_⟩, hc, hf⟩
  intro y hy
  rcases List.mem_cons.1 ((insT_perm (x, tn) S).mem_iff.1 hy) with rfl | hy
  · simp
  · have := ht2 y hy; omega
theorem qItm_pop2 (base : Nat) (less : Itm → Itm → Bool) (hsw : Swo less) (fn : Nat) (R : RanksItm less fn) (w : World) (q : Nat) (v : Value) (s : Itm × Nat) (S : List (Itm × Nat)) (tn : Nat) (h : QIsItm base less fn q v (s :: S) tn w) (hcap : S.length + 1 ≤ 4000000000) :
    Calls Try.prog 21 #[.pointer (some ⟨q, 0, none⟩)] w fun e w' => e = .returned (.tuple #[.agg #[.int .i64 s.1.1, .string s.1.2], .bool true]) ∧ ∃ v', QIsItm base less fn q v' S tn w' ∧ Chg (QBlk q v) w w' ∧ FreshItm w v v' := by
  obtain ⟨⟨l, hq, hs⟩, ht2⟩ := h
  have hl : l.length = S.length + 1 := hs.len
  have hown := hq.own
  rw [hl] at hown
  obtain ⟨g, c, rfl⟩ := ownsRow_succ hown
  obtain ⟨h1, h2, h3, h4⟩ := hs.pop hsw
  have e : l.length - 1 = S.length := by omega
  rw [e] at h3 h4
  refine (qItm_pop base less fn R w q g c S.length l tn hq hl (by omega)).mono ?_
  rw [h3]
  rintro e w' ⟨rfl, hq', hc⟩
  exact ⟨rfl, _, ⟨⟨_, hq', h4⟩, fun y hy => ht2 y (by simp [hy])⟩, hc, fun j hj => .inl (by simpa [Value.ownBlock] using hj)⟩
theorem qItm_qlen2 (base : Nat) (less : Itm → Itm → Bool) (fn : Nat) (w : World) (q : Nat) (v : Value) (S : List (Itm × Nat)) (tn : Nat) (h : QIsItm base less fn q v S tn w) :
    Calls Try.prog 23 #[.pointer (some ⟨q, 0, none⟩)] w fun e w' => e = .returned (.int .i64 (S.length : Int)) ∧ w = w' := by
  obtain ⟨⟨l, hq, hs⟩, ht2⟩ := h
  have := qItm_qlen base w q v _ l tn hq
  rw [hs.len] at this
  exact this
theorem qItm_qlen_nil (w : World) :
    Calls Try.prog 23 #[.pointer none] w fun e w' => e = .returned (.int .i64 0) ∧ w = w' := by
  go_enter Try.func23, Try.ntmps23
  go_wp2
  go_ret
  exact ⟨rfl, rfl⟩
/-- Where there is none. -/
theorem qItm_pop0 (p : Value) (w : World) (hp : ∀ w1, Below w.heap.size w w1 → Calls Try.prog 23 #[p] w1 fun e w' => e = .returned (.int .i64 0) ∧ w1 = w') :
    Calls Try.prog 21 #[p] w fun e w' => e = .returned (.tuple #[.agg #[.int .i64 0, .string ⟨#[]⟩], .bool false]) ∧ Below w.heap.size w w' := by
  have C := Lib.hid hp
  clear hp
  go_enter Try.func21, Try.ntmps21
  go_wp2_with fail
  refine (C.out _ (by first | exact below1 _ _ | exact (below1 _ _).drew)).mono ?_
  rintro e w1 ⟨rfl, rfl⟩
  go_wp2
  refine bodyPost_world (fun X => X.heap[w.heap.size]? = some (.cells #[.int .i64 0, .string ⟨#[]⟩] 33 (0, 0)) ∧ Below w.heap.size w X) ⟨?_, ?_⟩ (fun X hX0 => ?_)
  rotate_left
  rotate_left
  · obtain ⟨hX, hB⟩ := hX0
    have hXc := fun i => cell_of_row X w.heap.size i _ _ _ hX
    have HB := Lib.hid hB
    clear hX hB
    exact bodyPost_ret (v := .tuple #[.agg #[.int .i64 0, .string ⟨#[]⟩], .bool false]) (by simp [results, Try.results21, go_sem, hXc]) rfl ⟨rfl, HB.out⟩
  · have h00 := heap_alloc2_old w (.cells #[.int .i64 0, .string ⟨#[]⟩] 33) (.cells #[.int .i64 0, .string ⟨#[]⟩] 33)
    have h01 : _ = some (Obj.cells #[.int .i64 0, .string ⟨#[]⟩] 33 (0, 0)) := heap_setCell_same _ w.heap.size 0 _ _ (.int .i64 0) h00
    have h02 : _ = some (Obj.cells #[.int .i64 0, .string ⟨#[]⟩] 33 (0, 0)) := heap_setCell_same _ w.heap.size 1 _ _ (.string ⟨#[]⟩) h01
    first | exact h00 | exact h02
  · repeat (first | exact below2 _ _ _ | exact below1 _ _ | refine Below.drew ?_ | refine Below.setCell ?_ (by simp [World.setCell]) _)
theorem qItm_peek0 (p : Value) (w : World) (hp : ∀ w1, Below w.heap.size w w1 → Calls Try.prog 23 #[p] w1 fun e w' => e = .returned (.int .i64 0) ∧ w1 = w') :
    Calls Try.prog 32 #[p] w fun e w' => e = .returned (.tuple #[.agg #[.int .i64 0, .string ⟨#[]⟩], .bool false]) ∧ Below w.heap.size w w' := by
  have C := Lib.hid hp
  clear hp
  go_enter Try.func32, Try.ntmps32
  go_wp2_with fail
  refine (C.out _ (by first | exact below1 _ _ | exact (below1 _ _).drew)).mono ?_
  rintro e w1 ⟨rfl, rfl⟩
  go_wp2
  refine bodyPost_world (fun X => X.heap[w.heap.size]? = some (.cells #[.int .i64 0, .string ⟨#[]⟩] 33 (0, 0)) ∧ Below w.heap.size w X) ⟨?_, ?_⟩ (fun X hX0 => ?_)
  rotate_left
  rotate_left
  · obtain ⟨hX, hB⟩ := hX0
    have hXc := fun i => cell_of_row X w.heap.size i _ _ _ hX
    have HB := Lib.hid hB
    clear hX hB
    exact bodyPost_ret (v := .tuple #[.agg #[.int .i64 0, .string ⟨#[]⟩], .bool false]) (by simp [results, Try.results32, go_sem, hXc]) rfl ⟨rfl, HB.out⟩
  · have h00 := heap_alloc2_old w (.cells #[.int .i64 0, .string ⟨#[]⟩] 33) (.cells #[.int .i64 0, .string ⟨#[]⟩] 33)
    have h01 : _ = some (Obj.cells #[.int .i64 0, .string ⟨#[]⟩] 33 (0, 0)) := heap_setCell_same _ w.heap.size 0 _ _ (.int .i64 0) h00
    have h02 : _ = some (Obj.cells #[.int .i64 0, .string ⟨#[]⟩] 33 (0, 0)) := heap_setCell_same _ w.heap.size 1 _ _ (.string ⟨#[]⟩) h01
    first | exact h00 | exact h02
  · repeat (first | exact below2 _ _ _ | exact below1 _ _ | refine Below.drew ?_ | refine Below.setCell ?_ (by simp [World.setCell]) _)
end Go.Proofs.Ytmanjeolhifhiaa
