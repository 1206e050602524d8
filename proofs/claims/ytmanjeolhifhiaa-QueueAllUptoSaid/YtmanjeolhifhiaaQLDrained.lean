/- Contract: law.drained: what a queue tells, up to most of them. -/
import Derived.Test.YtmanjeolhifhiaaQLNil
namespace Go.Proofs.Ytmanjeolhifhiaa
open Go.RowKit Go.Shelf
set_option linter.unusedVariables false
attribute [local go_sem] Oper.semAt_some

/-- What was drained, and the queue that is left. -/
def DrainedAt (base q : Nat) (v : Value) (S : List (Itm × Nat)) (tn k : Nat) (w : World) (e : Ending) (w' : World) : Prop :=
  ∃ v' v2, e = .returned (.tuple #[v', .bool true]) ∧ w'.ownsRow w.heap.size 33 2 v' k ((((S.take k).map (·.1)).map rowItm).flatten) ∧ QIsItm base lessI 22 q v2 (S.drop k) tn w' ∧ v2.ownBlock = v.ownBlock ∧ Chg (QBlk q v) w w'
/-- The box of what has come, the box of most; the queue's blocks alone have turned. -/
def DrnOut (w : World) (q : Nat) (v : Value) (m : Nat) (w6 : World) (pre : List Itm) (W : World) : Prop :=
  (∃ v', W.heap[w.heap.size + 1 + 1]? = some (.cells #[v'] 22 (0, 0)) ∧ W.ownsRow w6.heap.size 33 2 v' pre.length ((pre.map rowItm).flatten) ∧ (∀ j, v'.ownBlock = some j → ¬ DBlk q (w.heap.size + 1) v j)) ∧ W.heap[w.heap.size]? = some (.cells #[.int .i64 (m : Int)] 3 (0, 0)) ∧ Chg (fun k => DBlk q (w.heap.size + 1) v k ∨ k = w.heap.size + 1 + 1) w6 W
theorem drnOut_minds {w : World} {q : Nat} {v : Value} {m : Nat} {w6 : World} (hs6 : w6.heap.size = w.heap.size + 3) (hbo : ¬ DBlk q (w.heap.size + 1) v (w.heap.size + 1 + 1)) (hbm : ¬ DBlk q (w.heap.size + 1) v w.heap.size) : MindsNot w6.heap.size (DBlk q (w.heap.size + 1) v) (DrnOut w q v m w6) := by
  rintro pre A C ⟨⟨v', h1, h2, h3⟩, h4, h5⟩ hc
  have hno : ∀ k o, A.heap[k]? = some o → o.isCells = true → ¬ DBlk q (w.heap.size + 1) v k → C.heap[k]? = A.heap[k]? := fun k o ho hoc hn => hc.block k (Array.getElem?_eq_some_iff.1 ho).1 (by
    rintro (e | ⟨_, o', ho', hoc'⟩)
    · exact hn e
    · rw [ho] at ho'; cases ho'; rw [hoc] at hoc'; cases hoc')
  refine ⟨⟨v', (hno _ _ h1 rfl hbo).trans h1, ?_, h3⟩, (hno _ _ h4 rfl hbm).trans h4, ?_⟩
  · obtain ⟨g1, g2⟩ := h2
    refine ⟨g1, ?_⟩
    rcases g2 with g2 | ⟨g, cap, cur, rfl, g3, g4, g5⟩
    · exact .inl g2
    · exact .inr ⟨g, cap, cur, rfl, g3, (hno _ _ g4 rfl (h3 g (by simp [Value.ownBlock]))).trans g4, g5⟩
  · exact h5.trans' hc (fun i hi hs => by
      rcases hs with hs | ⟨hs, _⟩
      · exact .inl hs
      · omega)
theorem drained_end {base q : Nat} {v : Value} {S : List (Itm × Nat)} {tn : Nat} {w w6 W W' : World} {pre : List Itm} {v' : Value} {k : Nat} (hk : pre.length = k)
    (hR : DrnItm base lessI 22 q (w.heap.size + 1) v tn S pre W) (ht : ∀ y ∈ S, y.2 < tn) (hO : W.ownsRow w6.heap.size 33 2 v' pre.length ((pre.map rowItm).flatten))
    (hC : Chg (fun k => DBlk q (w.heap.size + 1) v k ∨ k = w.heap.size + 1 + 1) w6 W) (hb6 : Below w.heap.size w w6) (hS6 : ∀ j, DBlk q (w.heap.size + 1) v j → j < w6.heap.size) (hB : Below w6.heap.size W W')
    (hO' : W'.ownsRow w6.heap.size 33 2 v' pre.length ((pre.map rowItm).flatten)) :
    ∃ v2, W'.ownsRow w.heap.size 33 2 v' k ((((S.take k).map (·.1)).map rowItm).flatten) ∧ QIsItm base lessI 22 q v2 (S.drop k) tn W' ∧ v2.ownBlock = v.ownBlock ∧ Chg (QBlk q v) w W' := by
  obtain ⟨_, v2, l, T, P0, hq, hv, hQ, hSe, hpre⟩ := hR
  have hPl : P0.length = k := by rw [← hk, hpre]; simp
  have e1 : S.take k = P0 := by rw [hSe, ← hPl]; simp
  have e2 : S.drop k = T := by rw [hSe, ← hPl]; simp
  refine ⟨v2, ?_, ⟨⟨l, hq.chg (Chg.of_below hB) ?_, by rw [e2]; exact hQ⟩, fun y hy => ht y (List.mem_of_mem_drop hy)⟩, hv, ?_⟩
  · rw [e1, ← hpre, ← hk]
    exact own_mono hO' hb6.size
  · intro j hj hle
    have := hS6 j (.inl (by
      rcases hj with e | e
      · exact .inl e
      · exact .inr (by rw [← hv]; exact e)))
    omega
  · have h1 : Chg (fun k => w.heap.size ≤ k) w w6 := Chg.of_below hb6
    have h2 : Chg (fun k => DBlk q (w.heap.size + 1) v k ∨ w.heap.size ≤ k) w W' := ((h1.mono (fun i _ hi => .inr hi)).trans (hC.mono (fun i _ hi => by
      rcases hi with hi | hi
      · exact .inl hi
      · exact .inr (by omega)))).trans ((Chg.of_below hB).mono (fun i _ hi => .inr (by have := hb6.size; omega)))
    refine h2.mono (fun i hi hs => ?_)
    rcases hs with (hs | hs) | hs
    · exact hs
    · omega
    · omega
set_option maxRecDepth 100000 in
set_option maxHeartbeats 4000000 in
theorem drained_any (base q : Nat) (v : Value) (S : List (Itm × Nat)) (tn m : Nat) (w : World) (h : QIsItm base lessI 22 q v S tn w) (hS : S.length ≤ 100000000) (hm : 1 ≤ m) (hm2 : m ≤ 1000000000) :
    Calls Try.prog 25 #[.pointer (some ⟨q, 0, none⟩), .int .i64 (m : Int)] w (DrainedAt base q v S tn (min m S.length) w) := by
  have HQ := Lib.hid h
  have C1 := Lib.hid (fun w1 => qItm_drain w1 q)
  have nf := fun f x y w => eql_func_nil Try.underlying71 f x y w
  clear h
  refine (callsIn_wide (n := 9)).1 ?_
  refine callsIn_of_wp_marks Try.func25 rfl trivial ?_ rfl
  simp only [Try.ntmps25, List.size_toArray, List.length_cons, List.length_nil, Nat.reduceAdd, Nat.reduceSub, Array.replicate_succ, Array.replicate_zero, List.push_toArray, List.append_toArray, List.nil_append, List.cons_append]
  gi_wp2_with fail
  refine ⟨trivial, ?_⟩
  refine (callsIn_wide.2 (C1.out _)).mono ?_
  rintro e w5 ⟨rfl, rfl⟩
  gi_wp2_with fail
  clear nf
  obtain ⟨w6, hw6⟩ : ∃ w6 : World, w6 = ((w.alloc (.cells #[.int .i64 (m : Int)] 3)).alloc (.cells #[.pointer (some ⟨q, 0, none⟩)] 30)).alloc (.cells #[.slice none 0 0] 22) := ⟨_, rfl⟩
  have hs6 : w6.heap.size = w.heap.size + 3 := by rw [hw6]; simp
  have hBm6 : w6.heap[w.heap.size]? = some (.cells #[.int .i64 (m : Int)] 3 (0, 0)) := by rw [hw6, Below.heap_alloc _ _ _ (by simp; omega)]; exact heap_alloc2_old _ _ _
  have hBx6 : w6.heap[w.heap.size + 1]? = some (.cells #[.pointer (some ⟨q, 0, none⟩)] 30 (0, 0)) := by rw [hw6, Below.heap_alloc _ _ _ (by simp)]; exact heap_alloc2_new _ _ _
  have hBo6 : w6.heap[w.heap.size + 1 + 1]? = some (.cells #[.slice none 0 0] 22 (0, 0)) := by
    rw [hw6]
    have := heap_alloc_new ((w.alloc (.cells #[.int .i64 (m : Int)] 3)).alloc (.cells #[.pointer (some ⟨q, 0, none⟩)] 30)) (.cells #[.slice none 0 0] 22)
    simpa using this
  have hb6 : Below w.heap.size w w6 := by rw [hw6]; exact (below2 _ _ _).alloc (by simp; omega) _
  rw [← hw6]
  have hqlt := HQ.out.lt
  obtain ⟨⟨l, hq, hQ⟩, htn⟩ := HQ.out
  have hq6 : QAtItm base w6 q v (.func (.func 22) #[] #[]) l tn := hq.kept (by rw [hw6]; exact (below2 _ _ _).alloc (by simp; omega) _)
  have hS6 : ∀ j, DBlk q (w.heap.size + 1) v j → j < w6.heap.size := by
    rintro j (hj | rfl)
    · have := (hqlt j hj).2; omega
    · omega
  have hbo : ¬ DBlk q (w.heap.size + 1) v (w.heap.size + 1 + 1) := by
    rintro (hj | e)
    · have := (hqlt _ hj).2; omega
    · omega
  have hbm : ¬ DBlk q (w.heap.size + 1) v w.heap.size := by
    rintro (hj | e)
    · have := (hqlt _ hj).2; omega
    · omega
  have HBV := Lib.hid (fun j (hj : v.ownBlock = some j) => show j ≠ w.heap.size + 1 by have := (hqlt j (.inr hj)).2; omega)
  have hqne : w.heap.size + 1 ≠ q := by have := (hqlt q (.inl rfl)).2; omega
  have HQ0 : Hid (DrnItm base lessI 22 q (w.heap.size + 1) v tn S [] w6) := Lib.hid ⟨hBx6, v, l, S, [], hq6, rfl, hQ, rfl, rfl⟩
  have HB6 := Lib.hid hb6
  have HS := Lib.hid hS6
  have HBO := Lib.hid hbo
  have HBM := Lib.hid hbm
  have HTN := Lib.hid htn
  have HO6 : Hid (DrnOut w q v m w6 [] w6) := Lib.hid ⟨⟨_, hBo6, World.ownsRow_nil _ _ _ _, fun j hj => by simp [Value.ownBlock] at hj⟩, hBm6, Chg.refl _ _⟩
  clear hBm6 hBx6 hBo6 hb6 hqlt hq hQ htn hq6 hS6 hbo hbm hw6
  refine range_w rfl (by omega) (gf := 46) (lb := #[.pointer (some ⟨w.heap.size + 1, 0, none⟩)]) rfl trivial (enters_of Try.func46 (by kernel_rfl) rfl)
    (qItm_drain1 8 base lessI swoI _ ranksI q (w.heap.size + 1) v tn S (by omega) (by omega) hqne HBV.out) HS.out (fun pre A C => drnItm_kept pre A C) (fun _ => rfl)
    (fun pre W => pre.length < m ∧ DrnOut w q v m w6 pre W) (fun c pre W => c = .exit 0 ∧ pre.length = m ∧ DrnOut w q v m w6 pre W)
    (fun pre A C h hc => ⟨h.1, drnOut_minds hs6 HBO.out HBM.out pre A C h.2 hc⟩) (fun c pre A C h hc => ⟨h.1, h.2.1, drnOut_minds hs6 HBO.out HBM.out pre A C h.2.2 hc⟩) ⟨by show 0 < m; omega, HO6.out⟩ HQ0.out
    (fun x a' W => ∃ Bv, W.heap[Bv]? = some (.cells #[.int .i64 x.1, .string x.2] 33 (0, 0)) ∧ w6.heap.size ≤ Bv ∧ a' = { tmps := #[.pointer (some ⟨q, 0, none⟩), .int .i64 (m : Int), undef, .pointer (some ⟨w.heap.size, 0, none⟩), .slice none 0 0, .bool false, .func (.func 46) #[] #[.pointer (some ⟨w.heap.size + 1, 0, none⟩)], .pointer (some ⟨w.heap.size + 1 + 1, 0, none⟩), .pointer (some ⟨Bv, 0, none⟩), .pointer (some ⟨q, 0, none⟩), .func (.func 46) #[] #[.pointer (some ⟨w.heap.size + 1, 0, none⟩)], .func (.func 46) #[] #[.pointer (some ⟨w.heap.size + 1, 0, none⟩)], .bool false, .func (.func 46) #[] #[.pointer (some ⟨w.heap.size + 1, 0, none⟩)], .agg #[.int .i64 x.1, .string x.2], undef, undef, undef, undef, undef, undef, undef, undef, undef, undef, undef, undef, undef], defers := [] })
    ?mA ?assign ?body ?done ?stop
  case mA =>
    rintro x a' _ A C ⟨Bv, h1, h2, h3⟩ hc
    refine ⟨Bv, (hc.block Bv (Array.getElem?_eq_some_iff.1 h1).1 ?_).trans h1, h2, h3⟩
    rintro (e | ⟨_, o, ho, hoc⟩)
    · have := HS.out Bv e; omega
    · rw [h1] at ho; cases ho; cases hoc
  case assign =>
    intro l pre x W K hsz hI hK
    gi_wp2
    refine hK _ _ (below1 W _) ⟨hI.1, drnOut_minds hs6 HBO.out HBM.out pre W _ hI.2 ((Chg.refl _ W).alloc _)⟩ ⟨W.heap.size, heap_alloc_new _ _, hsz, rfl⟩
  case body =>
    rintro l pre x a' W hl ⟨r, hr⟩ ⟨hlt, ⟨v', h1, h2, h3⟩, h4, h5⟩ hR ⟨Bv, h7, h6, rfl⟩
    obtain ⟨A', c', rfl, _⟩ := own_sh h2
    have hco := cell_of_row W (w.heap.size + 1 + 1) 0 _ _ _ h1
    have hfo := frozen_of_row W (w.heap.size + 1 + 1) 0 _ _ h1
    have hcm := cell_of_row W w.heap.size 0 _ _ _ h4
    have hcv := fun i => cell_of_row W Bv i _ _ _ h7
    simp only [List.getElem?_toArray, List.getElem?_cons_zero] at hco hcm
    obtain ⟨i0, hi, hz0, hz1, hz2⟩ := info_parts infoTItm
    have HR2 := Lib.hid hR
    have HO2 := Lib.hid h2
    have HI3 := Lib.hid h3
    have HC4 := Lib.hid h5
    have HBo := Lib.hid h1
    have HBm := Lib.hid h4
    have hWs := h5.size
    have hBoW := (Array.getElem?_eq_some_iff.1 h1).1
    have hBmW := (Array.getElem?_eq_some_iff.1 h4).1
    have b1 : ¬ (m : Int) ≤ (pre.length : Int) := by omega
    have b2 : ¬ m ≤ pre.length := by omega
    clear hR h2 h3 h5 h1 h4
    gi_wp2_with (gi_at_builtin; go_must (refine wpListIn_append_own _ rfl _ _ 22 rfl w6.heap.size 33 i0 (.agg #[.int .i64 0, .string ⟨#[]⟩]) 2 24 Try.underlying22 hi hz0 hz1 hz2 rfl (by decide) _ _ _ rfl (HO2.out.alloc _) ⟨W.heap.size, 0, none⟩ 1 1 (rowItm x) rfl rfl (rd_new W (rowItm x) 33).addr (rowItm_one x) (by unfold maxLen; omega) (by omega) (by simp; omega) ?_))
    intro v8 w8 hown8 hg8 _
    obtain ⟨g8, c8, rfl⟩ := ownsRow_succ hown8
    have hne1 : some (w.heap.size + 1 + 1) ≠ (Value.slice A' pre.length c').ownBlock := fun e => own_ne_type HO2.out HBo.out (by decide) e.symm
    have hne2 : some w.heap.size ≠ (Value.slice A' pre.length c').ownBlock := fun e => own_ne_type HO2.out HBm.out (by decide) e.symm
    have hBo8 : w8.heap[w.heap.size + 1 + 1]? = some (.cells #[.slice A' pre.length c'] 22 (0, 0)) := (hg8.block _ (by simp; omega) hne1).trans ((Below.heap_alloc W _ _ hBoW).trans HBo.out)
    have hBm8 : w8.heap[w.heap.size]? = some (.cells #[.int .i64 (m : Int)] 3 (0, 0)) := (hg8.block _ (by simp; omega) hne2).trans ((Below.heap_alloc W _ _ hBmW).trans HBm.out)
    have hco8 := cell_of_row w8 (w.heap.size + 1 + 1) 0 _ _ _ hBo8
    have hfo8 := frozen_of_row w8 (w.heap.size + 1 + 1) 0 _ _ hBo8
    have hcm8 := cell_of_row w8 w.heap.size 0 _ _ _ hBm8
    simp only [List.getElem?_toArray, List.getElem?_cons_zero] at hco8 hcm8
    have hsame : ∀ j, DBlk q (w.heap.size + 1) v j → w8.heap[j]? = W.heap[j]? := by
      intro j hj
      have hjl : j < W.heap.size := by
        obtain ⟨_, _, _, he, _⟩ := drnItm_type HR2.out j hj
        exact (Array.getElem?_eq_some_iff.1 he).1
      exact (hg8.block j (by simp; omega) (fun e => HI3.out j e.symm hj)).trans (Below.heap_alloc W _ _ hjl)
    have hn8 : ∀ j, (Value.slice (some ⟨g8, 0, none⟩) (pre.length + 1) c8).ownBlock = some j → ¬ DBlk q (w.heap.size + 1) v j := by
      intro j hj hD
      obtain ⟨cs, t, fr, he, hte⟩ := drnItm_type HR2.out j hD
      exact own_ne_type hown8 ((hsame j hD).trans he) hte hj
    have hg8o : g8 ≠ w.heap.size + 1 + 1 := by
      rintro rfl
      exact own_ne_type hown8 hBo8 (by decide) rfl
    have hkeep : KeepsOthers W w8 := (KeepsOthers.alloc W _).trans (KeepsOthers.of_grownBy hg8 (fun j o hj ho => by
      have := HO2.out.alloc (.cells #[.int .i64 x.1, .string x.2] 33)
      obtain ⟨_, h⟩ := this
      rcases h with ⟨h', _⟩ | ⟨g, cap, cur, h', _, hh, _⟩
      · rw [h'] at hj; simp [Value.ownBlock] at hj
      · rw [h'] at hj; simp [Value.ownBlock] at hj; subst hj; rw [hh] at ho; cases ho; rfl))
    have hB8 : Below w6.heap.size W w8 := ((Below.refl _ W).alloc hWs _).grown hg8 (by simp; omega) (fun j hj => (HO2.out.lt j hj).1)
    have hz8 := hB8.size
    have HS8 := Lib.hid hsame
    have HN8 := Lib.hid hn8
    have HK8 := Lib.hid hkeep
    have HB8 := Lib.hid hB8
    have HO8 := Lib.hid hown8
    have HBo8 := Lib.hid hBo8
    have HBm8 := Lib.hid hBm8
    have hfin : DrnOut w q v m w6 (pre ++ [x]) (w8.setCell ⟨w.heap.size + 1 + 1, 0, none⟩ (.slice (some ⟨g8, 0, none⟩) (pre.length + 1) c8)) ∧ DrnItm base lessI 22 q (w.heap.size + 1) v tn S (pre ++ [x]) (w8.setCell ⟨w.heap.size + 1 + 1, 0, none⟩ (.slice (some ⟨g8, 0, none⟩) (pre.length + 1) c8)) := by
      refine ⟨⟨⟨_, heap_setCell_same w8 (w.heap.size + 1 + 1) 0 _ _ _ HBo8.out, ?_, HN8.out⟩, (Below.heap_setCell w8 ⟨w.heap.size + 1 + 1, 0, none⟩ _ w.heap.size (by simp; omega)).trans HBm8.out, ?_⟩, ?_⟩
      · have e1 : (pre ++ [x]).length = pre.length + 1 := by simp
        have e2 : ((pre ++ [x]).map rowItm).flatten = (pre.map rowItm).flatten ++ rowItm x := by simp
        rw [e1, e2]
        obtain ⟨g1, g2⟩ := HO8.out
        rcases g2 with ⟨g2, _⟩ | ⟨g', cap', cur, g3, g4, g5, g6⟩
        · cases g2
        · simp only [Value.slice.injEq, Option.some.injEq, Addr.mk.injEq, and_true, true_and] at g3
          obtain ⟨rfl, rfl⟩ := g3
          exact ⟨g1, .inr ⟨g8, c8, cur, rfl, by omega, (Below.heap_setCell w8 ⟨w.heap.size + 1 + 1, 0, none⟩ _ g8 hg8o).trans g5, g6⟩⟩
      · exact (HC4.out.trans' (Chg.of_below HB8.out) (fun i hi hs => by omega)).setCell (p := ⟨w.heap.size + 1 + 1, 0, none⟩) (fun _ => .inr rfl) _
      · exact drnItm_kept _ _ _ HR2.out (fun j hj => (Below.heap_setCell w8 ⟨w.heap.size + 1 + 1, 0, none⟩ _ j (fun e => by
          have e' : j = w.heap.size + 1 + 1 := e
          rw [e'] at hj
          exact HBO.out hj)).trans (HS8.out j hj)) (by simp [World.setCell]; have := HK8.out.size; omega)
    have HF := Lib.hid hfin
    clear hfin hsame hn8 hkeep hB8 hown8 hBo8 hBm8 hg8 hi hz0 hz1 hz2 hne1 hne2 hco hfo hcv hcm b1 b2
    by_cases hmm : pre.length + 1 = m
    · have e0 : ((pre.length : Int) + 1 == (m : Int)) = true := by rw [beq_iff_eq]; omega
      have hl2 : (pre ++ [x]).length = m := by simpa using hmm
      have HL2 := Lib.hid hl2
      clear hmm hl2
      gi_wp2
      exact ⟨(HK8.out.trans (KeepsOthers.setCell w8 _ _)).from _, ⟨rfl, HL2.out, HF.out.1⟩, HF.out.2⟩
    · have e0 : ((pre.length : Int) + 1 == (m : Int)) = false := by rw [beq_eq_false_iff_ne]; omega
      have hl2 : (pre ++ [x]).length < m := by simp; omega
      have HL2 := Lib.hid hl2
      clear hmm hl2
      gi_wp2
      exact ⟨(HK8.out.trans (KeepsOthers.setCell w8 _ _)).from _, ⟨HL2.out, HF.out.1⟩, HF.out.2⟩
  case done =>
    rintro D ys W hD rfl ⟨hlm, hO⟩ hR hK
    have HLEN : Hid ((S.map (·.1)).length = min m S.length) := Lib.hid (by simp at hlm ⊢; omega)
    clear hlm
    obtain ⟨⟨v', h1, h2, h3⟩, h4, h5⟩ := hO
    have hco := cell_of_row W (w.heap.size + 1 + 1) 0 _ _ _ h1
    simp only [List.getElem?_toArray, List.getElem?_cons_zero] at hco
    have HKD := Lib.hid hK
    have HR2 := Lib.hid hR
    have HO2 := Lib.hid h2
    have HC4 := Lib.hid h5
    clear hK hR h1 h2 h3 h4 h5
    gi_wp2
    refine ⟨by simp, .inl ⟨_, _, rfl, run_takeDeferred HKD.out, ?_⟩⟩
    have hD1 : D < W.heap.size := (Array.getElem?_eq_some_iff.1 HKD.out).1
    obtain ⟨v2, r1, r2, r3, r4⟩ := drained_end (k := min m S.length) HLEN.out HR2.out HTN.out HO2.out HC4.out HB6.out HS.out (belowK_b (w := w6) (Nat.le_refl _) W D _ (.deferred none) (by omega) HKD.out rfl rfl) (ownsRow_putObj HO2.out (.deferred none) HKD.out rfl)
    exact ⟨_, results_tmp2 rfl _ _ _, v', v2, rfl, r1, r2, r3, r4⟩
  case stop =>
    rintro D c pre W hD ⟨rfl, hlm, hO⟩ hR hK
    have HLEN : Hid (pre.length = min m S.length) := Lib.hid (by
      obtain ⟨_, _, _, T, P0, _, _, _, e1, e2⟩ := hR
      have e1 := congrArg List.length e1
      have e2 := congrArg List.length e2
      simp at e1 e2
      omega)
    clear hlm
    obtain ⟨⟨v', h1, h2, h3⟩, h4, h5⟩ := hO
    have hco := cell_of_row W (w.heap.size + 1 + 1) 0 _ _ _ h1
    simp only [List.getElem?_toArray, List.getElem?_cons_zero] at hco
    have HKD := Lib.hid hK
    have HR2 := Lib.hid hR
    have HO2 := Lib.hid h2
    have HC4 := Lib.hid h5
    clear hK hR h1 h2 h3 h4 h5
    gi_wp2
    refine ⟨by simp, .inl ⟨_, _, rfl, run_takeDeferred HKD.out, ?_⟩⟩
    have hD1 : D < W.heap.size := (Array.getElem?_eq_some_iff.1 HKD.out).1
    obtain ⟨v2, r1, r2, r3, r4⟩ := drained_end (k := min m S.length) HLEN.out HR2.out HTN.out HO2.out HC4.out HB6.out HS.out (belowK_b (w := w6) (Nat.le_refl _) W D _ (.deferred none) (by omega) HKD.out rfl rfl) (ownsRow_putObj HO2.out (.deferred none) HKD.out rfl)
    exact ⟨_, results_tmp2 rfl _ _ _, v', v2, rfl, r1, r2, r3, r4⟩
end Go.Proofs.Ytmanjeolhifhiaa
