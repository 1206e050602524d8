/- The walk of QueueNil. -/
import Derived.Test.YtmanjeolhifhiaaQLNil
namespace Go.Proofs.Ytmanjeolhifhiaa
open Go.RowKit Go.Shelf
set_option linter.unusedVariables false
attribute [local go_sem] Oper.semAt_some

/-- The law's boxes: what came in, the answer, what was popped, what was peeked. -/
structure NilAt (w : World) (x : Itm) (r : Bool) (Ba Bb : Nat) (W : World) : Prop where
  v : W.heap[w.heap.size]? = some (.cells #[.int .i64 x.1, .string x.2] 33 (0, 0))
  r : W.heap[w.heap.size + 1]? = some (.cells #[.bool r] 4 (0, 0))
  a : W.heap[Ba]? = some (.cells #[.int .i64 0, .string ⟨#[]⟩] 33 (0, 0))
  b : W.heap[Bb]? = some (.cells #[.int .i64 0, .string ⟨#[]⟩] 33 (0, 0))
  below : Below w.heap.size w W
theorem NilAt.next {w : World} {x : Itm} {r : Bool} {Ba Bb : Nat} {W W' : World} (h : NilAt w x r Ba Bb W) (hb : Below W.heap.size W W') : NilAt w x r Ba Bb W' :=
  ⟨(hb.block _ (Array.getElem?_eq_some_iff.1 h.v).1).trans h.v, (hb.block _ (Array.getElem?_eq_some_iff.1 h.r).1).trans h.r, (hb.block _ (Array.getElem?_eq_some_iff.1 h.a).1).trans h.a, (hb.block _ (Array.getElem?_eq_some_iff.1 h.b).1).trans h.b, h.below.trans (hb.mono h.below.size)⟩
set_option maxRecDepth 100000 in
set_option maxHeartbeats 4000000 in
theorem nil_all (r0 : Int) (n0 : ByteArray) (w : World) : Calls Try.prog 9 #[.agg #[.int .i64 r0, .string n0]] w fun e w' => e = .returned (.bool true) ∧ Below w.heap.size w w' := by
  have hx : ∃ x : Itm, x.1 = r0 ∧ x.2 = n0 := ⟨(r0, n0), rfl, rfl⟩
  obtain ⟨x, hx1, hx2⟩ := hx
  rw [← hx1, ← hx2]
  clear hx1 hx2 r0 n0
  have C1 := Lib.hid (fun w1 => pop_nil w1)
  have C2 := Lib.hid (fun w1 => peek_nil w1)
  have C3 := Lib.hid (fun w1 => drain_nil w1)
  have C4 := Lib.hid (fun w1 => awake08 w1)
  have C5 := Lib.hid (fun w1 => push_nil x w1)
  have C6 := Lib.hid (fun w1 => qItm_qlen_nil w1)
  have C7 := Lib.hid (fun w1 => fork_nil w1)
  have C8 := Lib.hid (fun w1 => qItm_sorted lessI swoI _ ranksI none 0 0 [] w1 rfl (by intro j u hj; simp at hj) (by decide))
  refine (callsIn_wide (n := 9)).1 ?_
  refine callsIn_of_wp_marks Try.func9 rfl trivial ?_ rfl
  simp only [Try.ntmps9, List.size_toArray, List.length_cons, List.length_nil, Nat.reduceAdd, Nat.reduceSub, Array.replicate_succ, Array.replicate_zero, List.push_toArray, List.append_toArray, List.nil_append, List.cons_append]
  gi_wp2_with fail
  refine ⟨trivial, ?_⟩
  refine (callsIn_wide.2 (C1.out _)).mono ?_
  rintro e w1 ⟨rfl, hb1⟩
  have HB1 := Lib.hid hb1
  have hz1 := hb1.size
  simp only [World.size_alloc] at hz1
  clear hb1
  gi_wp2_with fail
  refine ⟨trivial, ?_⟩
  refine (callsIn_wide.2 (C2.out _)).mono ?_
  rintro e w2 ⟨rfl, hb2⟩
  have HB2 := Lib.hid hb2
  have hz2 := hb2.size
  simp only [World.size_alloc] at hz2
  clear hb2
  gi_wp2_with fail
  refine ⟨trivial, ?_⟩
  refine (callsIn_wide.2 (C3.out _)).mono ?_
  rintro e w3 ⟨rfl, rfl⟩
  have hN2 : NilAt w x false w1.heap.size w2.heap.size (w2.alloc (.cells #[.int .i64 0, .string ⟨#[]⟩] 33)) := by
    have hA := HB1.out
    have hB := HB2.out
    have hba : Below w.heap.size w w1 := (below2 w _ _).trans (hA.mono (by simp; omega))
    have hbb : Below w.heap.size w w2 := (hba.alloc hba.size _).trans (hB.mono (by simp; omega))
    refine ⟨?_, ?_, ?_, heap_alloc_new _ _, hbb.alloc hbb.size _⟩
    · rw [Below.heap_alloc _ _ _ (by omega), hB.block _ (by simp; omega), Below.heap_alloc _ _ _ (by omega), hA.block _ (by simp; omega)]
      exact heap_alloc2_old _ _ _
    · rw [Below.heap_alloc _ _ _ (by omega), hB.block _ (by simp; omega), Below.heap_alloc _ _ _ (by omega), hA.block _ (by simp)]
      exact heap_alloc2_new _ _ _
    · rw [Below.heap_alloc _ _ _ (by omega), hB.block _ (by simp)]
      exact heap_alloc_new _ _
  have hbx : ((w2.alloc (.cells #[.int .i64 0, .string ⟨#[]⟩] 33)).alloc (.cells #[.pointer none] 30)).heap[w2.heap.size + 1]? = some (.cells #[.pointer none] 30 (0, 0)) := heap_alloc2_new _ _ _
  have hN3 := hN2.next (below1 _ (.cells #[.pointer none] 30))
  have HN3 := Lib.hid hN3
  have HBX := Lib.hid hbx
  have nf := fun f x y w => eql_func_nil Try.underlying71 f x y w
  clear hN2 hN3 hbx
  gi_wp2_with fail
  refine ⟨trivial, ?_⟩
  refine (callsIn_wide.2 (C4.out _)).mono ?_
  rintro e w4 ⟨rfl, hb4⟩
  have hz4 := hb4.size
  simp only [World.size_alloc] at hz4
  have HN4 := Lib.hid (HN3.out.next hb4)
  have HBX4 := Lib.hid ((hb4.block (w2.heap.size + 1) (by simp)).trans HBX.out)
  clear hb4
  gi_wp2_with fail
  have hbelow4 := HN4.out.below.size
  clear nf
  refine range_w rfl (by omega) (gf := 46) (lb := #[.pointer (some ⟨w2.heap.size + 1, 0, none⟩)]) rfl trivial (enters_of Try.func46 (by kernel_rfl) rfl)
    (drain1_nil 8 (w2.heap.size + 1) (by omega)) (fun k hk => by subst hk; omega) (fun pre A C h hk hs => ⟨h.1, (hk _ rfl).trans h.2⟩) (fun _ => rfl)
    (fun _ W => Chg (fun k => k = w2.heap.size + 1) w4 W) (fun _ _ _ => False) ?mI (fun _ _ _ _ h _ => h) (Chg.refl _ _) ⟨rfl, HBX4.out⟩
    (fun _ _ _ => True) (fun _ _ _ _ _ _ _ => trivial) ?assign ?body ?done ?stop
  case mI =>
    intro s A C hc h
    exact hc.trans' h (fun i hi hs => by
      rcases hs with hs | ⟨hs, _⟩
      · exact hs
      · omega)
  case assign =>
    intro l pre x W K hsz hI hK
    gi_wp2
    exact hK _ _ (Below.refl _ _) hI trivial
  case body =>
    rintro l pre x a' W hl hr hI ⟨hR, _⟩ _
    simp at hR
  case stop =>
    intro D c pre W _ h _ _
    exact h.elim
  case done =>
    rintro D ys W hD rfl hI ⟨_, hRb⟩ hK
    have hzW := hI.size
    have hl := (Array.getElem?_eq_some_iff.1 HN4.out.b).1
    have hNW : NilAt w x false w1.heap.size w2.heap.size W := by
      obtain ⟨n1, n2, n3, n4, n5⟩ := HN4.out
      refine ⟨(hI.block _ (Array.getElem?_eq_some_iff.1 n1).1 (by omega)).trans n1, (hI.block _ (Array.getElem?_eq_some_iff.1 n2).1 (by omega)).trans n2, (hI.block _ (Array.getElem?_eq_some_iff.1 n3).1 (by omega)).trans n3, (hI.block _ (Array.getElem?_eq_some_iff.1 n4).1 (by omega)).trans n4, n5.trans (hI.below (fun k hk e => by omega) n5.size)⟩
    have hcv := fun i => cell_of_row W w.heap.size i _ _ _ hNW.v
    have hKD := Lib.hid hK
    have HNW := Lib.hid hNW
    clear hNW hI hRb hK
    gi_wp2_with fail
    refine ⟨trivial, ?_⟩
    refine (callsIn_wide.2 (C5.out _)).mono ?_
    rintro e w5 ⟨rfl, hb5⟩
    have HN5 := Lib.hid (HNW.out.next hb5)
    have HK5 := Lib.hid ((hb5.block D (Array.getElem?_eq_some_iff.1 hKD.out).1).trans hKD.out)
    have hz5 := hb5.size
    have hca := fun i => cell_of_row w5 w1.heap.size i _ _ _ HN5.out.a
    have hcb := fun i => cell_of_row w5 w2.heap.size i _ _ _ HN5.out.b
    clear hb5 hcv
    gi_wp2_with fail
    refine ⟨trivial, ?_⟩
    refine (callsIn_wide.2 (C6.out _)).mono ?_
    rintro e w6 ⟨rfl, rfl⟩
    gi_wp2_with fail
    refine ⟨trivial, ?_⟩
    refine (callsIn_wide.2 (C7.out _)).mono ?_
    rintro e w7 ⟨rfl, rfl⟩
    gi_wp2_with fail
    refine ⟨trivial, ?_⟩
    refine (callsIn_wide.2 (C8.out _)).mono ?_
    rintro e w8 ⟨v8, rfl, hown8, hb8⟩
    obtain ⟨A8, c8, rfl, _⟩ := own_sh hown8
    have HN8 := Lib.hid (HN5.out.next hb8)
    have HK8 := Lib.hid ((hb8.block D (Array.getElem?_eq_some_iff.1 HK5.out).1).trans HK5.out)
    have hcr := cell_of_row w8 (w.heap.size + 1) 0 _ _ _ HN8.out.r
    have hfr := frozen_of_row w8 (w.heap.size + 1) 0 _ _ HN8.out.r
    simp only [List.getElem?_toArray, List.getElem?_cons_zero] at hcr
    clear hown8 hb8 hca hcb
    gi_wp2
    have hDr : D ≠ w.heap.size + 1 := by omega
    have hKD9 : (w8.setCell ⟨w.heap.size + 1, 0, none⟩ (.bool true)).heap[D]? = some (.deferred (some [])) := (Below.heap_setCell w8 ⟨w.heap.size + 1, 0, none⟩ _ D hDr).trans HK8.out
    refine ⟨by simp, .inl ⟨_, _, rfl, run_takeDeferred hKD9, ?_⟩⟩
    have hX : ((w8.setCell ⟨w.heap.size + 1, 0, none⟩ (.bool true)).putObj D (.deferred none)).heap[w.heap.size + 1]? = some (.cells #[.bool true] 4 (0, 0)) :=
      (World.putObj_heap_other (by omega)).trans (heap_setCell_same w8 (w.heap.size + 1) 0 _ _ _ HN8.out.r)
    have hXB : Below w.heap.size w ((w8.setCell ⟨w.heap.size + 1, 0, none⟩ (.bool true)).putObj D (.deferred none)) :=
      (HN8.out.below.setCell (p := ⟨w.heap.size + 1, 0, none⟩) (by simp) _).trans (belowK_b (w := w) (Nat.le_refl _) _ D _ _ (by omega) hKD9 rfl rfl)
    have hXc := cell_of_row _ (w.heap.size + 1) 0 _ _ _ hX
    simp only [List.getElem?_toArray, List.getElem?_cons_zero] at hXc
    have HXB := Lib.hid hXB
    clear hX hXB hKD9 hcr hfr
    generalize (w8.setCell ⟨w.heap.size + 1, 0, none⟩ (.bool true)).putObj D (.deferred none) = X at *
    refine ⟨.bool true, by simp [results, Try.results9, go_sem, hXc], rfl, HXB.out⟩
theorem nil_row (r0 : Int) (n0 : ByteArray) (w : World) (h1 : (Lit.int .i64 r0).wf = true) (h2 : n0.size ≤ maxLen) : Calls Try.prog 9 #[.agg #[.int .i64 r0, .string n0]] w fun e w' => e = .returned (.bool true) ∧ Below w.heap.size w w' := nil_all r0 n0 w
end Go.Proofs.Ytmanjeolhifhiaa
