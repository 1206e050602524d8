/- What the laws over acts use: a device of 256 sectors and its layout; law.awake answers true. -/
import Derived.Test.YthjbjlokpcpceaaRedo
import Derived.Test.YthjbjlokpcpceaaDiskNew
namespace Go.Proofs.Ythjbjlokpcpceaa
open Go.RowKit
set_option linter.unusedVariables false

theorem bodyPost_world {P : Program} {f : Func} {R : Ending → World → Prop} {e : Exit} {a : Act} {W : World} (I : World → Prop) (hI : I W) (h : ∀ X, I X → bodyPost P f R e a X) : bodyPost P f R e a W := h W hI
theorem below_of_alloc {a w : World} {o : Obj} (h : Below (a.alloc o).heap.size (a.alloc o) w) : Below a.heap.size a w := ((Below.refl a.heap.size a).alloc (Nat.le_refl _) o).trans (h.mono (by simp))
def DeviceAt (w : World) (e : Ending) (w' : World) : Prop := ∃ p : Value, e = .returned (.tuple #[p, .agg #[.int .i64 256, .int .i64 3, .int .i64 13, .int .i64 30, .int .i64 43, .int .i64 73, .int .i64 30, .int .i64 103, .int .i64 4]]) ∧ Below w.heap.size w w'
set_option maxRecDepth 100000 in
set_option maxHeartbeats 2000000 in
theorem device_any (w : World) : Calls Try.prog 34 #[] w (DeviceAt w) := by
  have C1 := Lib.hid (fun w1 => new_ok 256 w1 (by decide) (by decide))
  have C2 := Lib.hid (fun w1 => refplan_ok 256 30 4 w1 (by decide) (by decide) (by decide) (by decide))
  go_enter Try.func34, Try.ntmps34
  go_wp2_with fail
  refine (C1.out _).mono ?_
  rintro e w1 ⟨g, rfl, -, -, -, -, hb1⟩
  have HB1 := Lib.hid ((below1 w _).trans (hb1.mono (by simp)))
  have hz1 : w.heap.size < w1.heap.size := by have := hb1.size; simp at this; omega
  have hb1' := Lib.hid hb1
  clear hb1
  go_wp2_with fail
  refine (C2.out _).mono ?_
  rintro e w2 ⟨rfl, hb2⟩
  have HB2 := Lib.hid (HB1.out.trans (hb2.mono HB1.out.size))
  have hz2 : w.heap.size < w2.heap.size := by have := hb2.size; omega
  have hc := fun i => (hb2.cell (p := ⟨w.heap.size, i, none⟩) hz1).trans (hb1'.out.cell (p := ⟨w.heap.size, i, none⟩) (by simp))
  have hf := fun i => (hb2.frozen (p := ⟨w.heap.size, i, none⟩) hz1).trans (hb1'.out.frozen (p := ⟨w.heap.size, i, none⟩) (by simp))
  have HBL : Hid (w2.heap[w.heap.size]? = some (.cells #[.int .i64 0, .int .i64 0, .int .i64 0, .int .i64 0, .int .i64 0, .int .i64 0, .int .i64 0, .int .i64 0, .int .i64 0] 29 (0, 0))) := Lib.hid (((hb2.block _ hz1).trans (hb1'.out.block _ (by simp))).trans (heap_alloc_new _ _))
  clear hb2 hb1'
  go_wp2_with fail
  go_region
  all_goals go_wp2
  all_goals
    refine bodyPost_world (fun X => X.heap[w.heap.size]? = some (.cells #[.int .i64 256, .int .i64 3, .int .i64 13, .int .i64 30, .int .i64 43, .int .i64 73, .int .i64 30, .int .i64 103, .int .i64 4] 29 (0, 0)) ∧ Below w.heap.size w X) ⟨?_, ?_⟩ (fun X hX0 => ?_)
    rotate_left
    rotate_left
    · obtain ⟨hX, hB⟩ := hX0
      have hXc := fun i => cell_of_row X w.heap.size i _ _ _ hX
      have HB := Lib.hid hB
      clear hX hB hc hf
      exact bodyPost_ret (v := .tuple #[.pointer (some ⟨g, 0, none⟩), .agg #[.int .i64 256, .int .i64 3, .int .i64 13, .int .i64 30, .int .i64 43, .int .i64 73, .int .i64 30, .int .i64 103, .int .i64 4]]) (by simp [results, Try.results34, go_sem, hXc]) rfl ⟨_, rfl, HB.out⟩
    · have e : ∀ X : World, X.drew.heap = X.heap := fun _ => rfl
      try rw [e]
      rw [Below.heap_alloc _ _ _ (by simp [World.setCell]; omega)]
      have h0 : _ = some (Obj.cells #[.int .i64 256, .int .i64 0, .int .i64 0, .int .i64 0, .int .i64 0, .int .i64 0, .int .i64 0, .int .i64 0, .int .i64 0] 29 (0, 0)) := heap_setCell_same _ w.heap.size 0 _ _ (.int .i64 256) HBL.out
      have h1 : _ = some (Obj.cells #[.int .i64 256, .int .i64 3, .int .i64 0, .int .i64 0, .int .i64 0, .int .i64 0, .int .i64 0, .int .i64 0, .int .i64 0] 29 (0, 0)) := heap_setCell_same _ w.heap.size 1 _ _ (.int .i64 3) h0
      have h2 : _ = some (Obj.cells #[.int .i64 256, .int .i64 3, .int .i64 13, .int .i64 0, .int .i64 0, .int .i64 0, .int .i64 0, .int .i64 0, .int .i64 0] 29 (0, 0)) := heap_setCell_same _ w.heap.size 2 _ _ (.int .i64 13) h1
      have h3 : _ = some (Obj.cells #[.int .i64 256, .int .i64 3, .int .i64 13, .int .i64 30, .int .i64 0, .int .i64 0, .int .i64 0, .int .i64 0, .int .i64 0] 29 (0, 0)) := heap_setCell_same _ w.heap.size 3 _ _ (.int .i64 30) h2
      have h4 : _ = some (Obj.cells #[.int .i64 256, .int .i64 3, .int .i64 13, .int .i64 30, .int .i64 43, .int .i64 0, .int .i64 0, .int .i64 0, .int .i64 0] 29 (0, 0)) := heap_setCell_same _ w.heap.size 4 _ _ (.int .i64 43) h3
      have h5 : _ = some (Obj.cells #[.int .i64 256, .int .i64 3, .int .i64 13, .int .i64 30, .int .i64 43, .int .i64 73, .int .i64 0, .int .i64 0, .int .i64 0] 29 (0, 0)) := heap_setCell_same _ w.heap.size 5 _ _ (.int .i64 73) h4
      have h6 : _ = some (Obj.cells #[.int .i64 256, .int .i64 3, .int .i64 13, .int .i64 30, .int .i64 43, .int .i64 73, .int .i64 30, .int .i64 0, .int .i64 0] 29 (0, 0)) := heap_setCell_same _ w.heap.size 6 _ _ (.int .i64 30) h5
      have h7 : _ = some (Obj.cells #[.int .i64 256, .int .i64 3, .int .i64 13, .int .i64 30, .int .i64 43, .int .i64 73, .int .i64 30, .int .i64 103, .int .i64 0] 29 (0, 0)) := heap_setCell_same _ w.heap.size 7 _ _ (.int .i64 103) h6
      have h8 : _ = some (Obj.cells #[.int .i64 256, .int .i64 3, .int .i64 13, .int .i64 30, .int .i64 43, .int .i64 73, .int .i64 30, .int .i64 103, .int .i64 4] 29 (0, 0)) := heap_setCell_same _ w.heap.size 8 _ _ (.int .i64 4) h7
      exact h8
    · try refine Below.drew ?_
      refine Below.alloc (Below.setCell (Below.setCell (Below.setCell (Below.setCell (Below.setCell (Below.setCell (Below.setCell (Below.setCell (Below.setCell HB2.out ?_ _) ?_ _) ?_ _) ?_ _) ?_ _) ?_ _) ?_ _) ?_ _) ?_ _) ?_ _
      all_goals (simp [World.setCell]; try omega)
set_option maxRecDepth 100000 in
set_option maxHeartbeats 2000000 in
theorem awake25 (w : World) : Calls Try.prog 11 #[] w fun e w' => e = .returned (.bool true) ∧ Below w.heap.size w w' := by
  have C1 := Lib.hid (fun w1 => device_any w1)
  have C2 : Hid (∀ w1, Calls Try.prog 7 #[.agg #[.int .i64 256, .int .i64 3, .int .i64 13, .int .i64 30, .int .i64 43, .int .i64 73, .int .i64 30, .int .i64 103, .int .i64 4], .agg #[.int .u64 7, .int .i64 4, .int .i64 1, .int .i64 2]] w1 fun e w' => ∃ v, e = .returned (.tuple #[v, .int .i64 0]) ∧ w'.ownsRow w1.heap.size 40 8 v 10 (outR 103 4 2 ++ midR 7 4 1 2 ++ (inR 103 1 2 ++ tailR)).flatten ∧ Below w1.heap.size w1 w') :=
    Lib.hid (fun w1 => acts_ok 256 30 4 7 4 1 2 w1 (by decide) (by decide) (by decide) (by decide) (by decide))
  go_enter Try.func11, Try.ntmps11
  go_wp2_with fail
  refine (C1.out _).mono ?_
  rintro e w1 ⟨p, rfl, hb1⟩
  have HB1 := Lib.hid hb1
  clear hb1
  go_wp2_with fail
  refine (C2.out _).mono ?_
  rintro e w2 ⟨v, rfl, hown, hb2⟩
  obtain ⟨A2, c2, rfl, _, _, hrd, _⟩ := own_rd hown
  have hrow : ∀ r ∈ (outR 103 4 2 ++ midR 7 4 1 2 ++ (inR 103 1 2 ++ tailR)), r.length = 8 := by
    intro r hr
    simp only [List.mem_append] at hr
    rcases hr with (h | h) | h
    · exact (outR_act _ _ _ r h).len
    · simp only [midR, List.mem_cons, List.not_mem_nil, or_false] at h
      rcases h with rfl | rfl | rfl <;> rfl
    · exact (all_act _ _ _ r (by simpa using h)).len
  obtain ⟨b, o, rfl, hr⟩ := hrd.at_row hrow (by decide) (i := 0) (r := actR 1 108 3 false 0 0 0 0) rfl
  have HB2 := Lib.hid (HB1.out.trans ((below_of_alloc hb2).mono HB1.out.size))
  have c0 := hr 0 _ rfl
  have c1 := hr 1 _ rfl
  have c2 := hr 2 _ rfl
  have c3 := hr 3 _ rfl
  have c4 := hr 4 _ rfl
  have c5 := hr 5 _ rfl
  have c6 := hr 6 _ rfl
  have c7 := hr 7 _ rfl
  simp only [Nat.add_zero, Nat.zero_mul] at c0 c1 c2 c3 c4 c5 c6 c7
  clear hr hrow hrd hown hb2
  go_wp2
  go_ret
  exact ⟨rfl, HB2.out⟩
end Go.Proofs.Ythjbjlokpcpceaa
