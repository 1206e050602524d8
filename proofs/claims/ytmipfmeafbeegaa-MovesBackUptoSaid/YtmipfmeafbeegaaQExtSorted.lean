/- Contracts: queue.Sorted: things in their order. -/
import Derived.Test.YtmipfmeafbeegaaQExtDrain
namespace Go.Proofs.Ytmipfmeafbeegaa
open Go.RowKit Go.Shelf
set_option linter.unusedVariables false
attribute [local go_sem] Oper.semAt_some

set_option maxHeartbeats 1000000 in
theorem qExt_drain (w : World) (q : Nat) :
    Calls Try.prog 28 #[.pointer (some ⟨q, 0, none⟩)] w fun e w' => e = .returned (.func (.func 45) #[] #[.pointer (some ⟨w.heap.size, 0, none⟩)]) ∧ w' = w.alloc (.cells #[.pointer (some ⟨q, 0, none⟩)] 52) := by
  go_enter Try.func28, Try.ntmps28
  go_wp2
  go_ret
  exact ⟨rfl, rfl⟩
theorem own_ne_type {w : World} {base e size n k t : Nat} {v : Value} {xs : List Value} {cs : Array Value} {fr : Nat × Nat} (h : w.ownsRow base e size v n xs) (hb : w.heap[k]? = some (.cells cs t fr)) (hne : t ≠ e) : v.ownBlock ≠ some k := by
  intro hv
  obtain ⟨_, h⟩ := h
  rcases h with ⟨rfl, _⟩ | ⟨g, cap, cur, rfl, _, hh, _⟩
  · simp [Value.ownBlock] at hv
  · simp [Value.ownBlock] at hv; subst hv; rw [hh] at hb; cases hb; exact hne rfl
theorem drnExt_type {base : Nat} {less : Ext → Ext → Bool} {fn q Bx : Nat} {v0 : Value} {tn : Nat} {S0 : List (Ext × Nat)} {pre : List Ext} {W : World} (h : DrnExt base less fn q Bx v0 tn S0 pre W) (j : Nat) (hj : DBlk q Bx v0 j) :
    ∃ cs t fr, W.heap[j]? = some (.cells cs t fr) ∧ t ≠ 26 := by
  obtain ⟨hb, v, l, T, P0, hq, hv, _⟩ := h
  rcases hj with (rfl | hj) | rfl
  · exact ⟨_, _, _, hq.blk, by decide⟩
  · rw [← hv] at hj
    obtain ⟨_, ho⟩ := hq.own
    rcases ho with ⟨rfl, _⟩ | ⟨g, cap, cur, rfl, _, hh, _⟩
    · simp [Value.ownBlock] at hj
    · simp [Value.ownBlock] at hj; subst hj; exact ⟨_, _, _, hh, by decide⟩
  · exact ⟨_, _, _, hb, by decide⟩
/-- What has been pushed: by rank and turn. -/
structure FullExt (base : Nat) (less : Ext → Ext → Bool) (fn : Nat) (q : Nat) (xs : List Ext) (w W : World) : Prop where
  st : ∃ v l T, QAtExt base W q v (.func (.func fn) #[] #[]) l xs.length ∧ QS zeroExt less l T ∧ T.map (·.1) = sortV less xs ∧ ∀ y ∈ T, y.2 < xs.length
  below : Below base w W
def SortedAtExt (base : Nat) (n : Nat) (ys : List Ext) (w : World) (e : Ending) (w' : World) : Prop := ∃ v, e = .returned v ∧ w'.ownsRow base 26 3 v n ((ys.map rowExt).flatten) ∧ Below base w w'
set_option maxRecDepth 100000 in
set_option maxHeartbeats 4000000 in
theorem qExt_sorted (less : Ext → Ext → Bool) (hsw : Swo less) (fn : Nat) (R : RanksExt less fn) (A : Option Addr) (n c : Nat) (xs : List Ext) (w : World) (hn : xs.length = n) (h : Rd w A ((xs.map rowExt).flatten)) (hcap : n ≤ 3000000000) :
    Calls Try.prog 40 #[.slice A n c, .func (.func fn) #[] #[]] w (SortedAtExt w.heap.size n (sortV less xs) w) := by
  have hlr : ∀ r ∈ xs.map rowExt, r.length = 3 := by intro r hr; simp only [List.mem_map] at hr; obtain ⟨y, _, rfl⟩ := hr; rfl
  have HN := Lib.hid hn
  have HR := Lib.hid h
  have HLR := Lib.hid hlr
  clear hn h hlr
  refine (callsIn_wide (n := 9)).1 ?_
  refine callsIn_of_wp_marks Try.func40 rfl trivial ?_ rfl
  simp only [Try.ntmps40, List.size_toArray, List.length_cons, List.length_nil, Nat.reduceAdd, Nat.reduceSub, Array.replicate_succ, Array.replicate_zero, List.push_toArray, List.append_toArray, List.nil_append, List.cons_append]
  gi_wp2_with fail
  refine ⟨trivial, ?_⟩
  refine (callsIn_wide.2 (qExt_new fn w)).mono ?_
  rintro e w1 ⟨rfl, hq1, hb1⟩
  have HF1 : Hid (FullExt w.heap.size less fn w.heap.size (xs.take 0) w w1) := Lib.hid ⟨⟨_, _, [], hq1, QS.nil _ _, by simp [sortV], by simp⟩, hb1⟩
  clear hq1 hb1
  gi_wp2_with fail
  gi_loopw [14] (fun s14 wr => ∃ k : Nat, k ≤ n ∧ s14 = .int .i64 k ∧ FullExt w.heap.size less fn w.heap.size (xs.take k) w wr) (fun i _ => n - (intOf i).toNat)
  case atStart => exact ⟨0, by omega, rfl, HF1.out⟩
  case round =>
    obtain ⟨k, hk, rfl, hF⟩ := hrel
    by_cases hlt : k < n
    · have hkx : k < xs.length := by have := HN.out; omega
      obtain ⟨b, o, rfl, hrow⟩ := (HR.out.kept hF.below).at_row HLR.out (by decide) (i := k) (r := rowExt xs[k]) (by simp [List.getElem?_eq_getElem hkx])
      obtain ⟨⟨v, l, T, hq, hQ, hT, ht⟩, hB⟩ := hF
      have hlen : (xs.take k).length = k := by simp; omega
      rw [hlen] at hq ht
      have hll : l.length = k := by
        rw [hQ.len]
        have := congrArg List.length hT
        simpa [sortV_len, hlen] using this
      have ci0 := hrow 0 _ rfl
      have ci1 := hrow 1 _ rfl
      have ci2 := hrow 2 _ rfl
      simp only [Nat.add_zero] at ci0
      have C1 := Lib.hid (fun (w1 : World) (hq1 : QAtExt w.heap.size w1 w.heap.size v (.func (.func fn) #[] #[]) l k) (hb : w.heap.size ≤ w1.heap.size) => qExt_push w.heap.size less fn R w1 w.heap.size v l k xs[k] hq1 (by omega) (by omega) hb)
      have HT2 : Hid ((insT less (xs[k], k) T).map (·.1) = sortV less (xs.take (k + 1))) := by
        have e : xs.take (k + 1) = xs.take k ++ [xs[k]] := by rw [List.take_add_one, List.getElem?_eq_getElem hkx]; rfl
        rw [insT_fst (xs[k], k) T ht, hT, e, sortV_snoc]
        exact Lib.hid rfl
      have HTT : Hid (∀ y ∈ insT less (xs[k], k) T, y.2 < k + 1) := Lib.hid (fun y hy => by
        rcases List.mem_cons.1 ((insT_perm (xs[k], k) T).mem_iff.1 hy) with rfl | hy
        · simp
        · have := ht y hy; omega)
      have HQ2 := Lib.hid (hQ.push hsw (xs[k], k) ht)
      have HQA := Lib.hid hq
      have HB := Lib.hid hB
      have HL2 : Hid ((xs.take (k + 1)).length = k + 1) := Lib.hid (by simp; omega)
      have b1 : (0 : Int) ≤ (k : Int) ∧ (k : Int) < (n : Int) := by omega
      have hsB := hB.size
      clear hq hQ hT ht hll hlen hrow hB
      generalize xs[k] = x at *
      gi_wp2_with fail
      refine ⟨trivial, ?_⟩
      refine (callsIn_wide.2 (C1.out _ (HQA.out.alloc _) (by simp; omega))).mono ?_
      rintro e w3 ⟨rfl, v3, hq3, hc3, hn3⟩
      have HQ3 := Lib.hid hq3
      have HB3 := Lib.hid ((HB.out.alloc hsB _).trans (qExt_blk_below (HQA.out.alloc _) hc3 (by simp; omega)))
      clear hq3 hc3 hn3
      gi_wp2
      go_roundw
      case rel => exact ⟨k + 1, by omega, by go_num, ⟨⟨v3, _, _, by rw [HL2.out]; exact HQ3.out, HQ2.out, HT2.out, by rw [HL2.out]; exact HTT.out⟩, HB3.out⟩⟩
      case measure => simp [intOf]; omega
    · obtain rfl : k = n := by omega
      gi_wp2_with fail
      refine ⟨trivial, ?_⟩
      refine (callsIn_wide.2 (qExt_drain _ _)).mono ?_
      rintro e w5 ⟨rfl, rfl⟩
      gi_wp2_with fail
      obtain ⟨⟨v, l, T, hq, hQ, hT, ht⟩, hB⟩ := hF
      have hsB := hB.size
      have hxl : (xs.take k) = xs := List.take_of_length_le (by have := HN.out; omega)
      rw [hxl] at hT hq ht
      obtain ⟨w6, hw6⟩ : ∃ w6 : World, w6 = (wr.alloc (.cells #[.slice none 0 0] 22)).alloc (.cells #[.pointer (some ⟨w.heap.size, 0, none⟩)] 52) := ⟨_, rfl⟩
      have hs6 : w6.heap.size = wr.heap.size + 2 := by rw [hw6]; simp
      have hBo6 : w6.heap[wr.heap.size]? = some (.cells #[.slice none 0 0] 22 (0, 0)) := by rw [hw6]; exact heap_alloc2_old _ _ _
      have hBx6 : w6.heap[wr.heap.size + 1]? = some (.cells #[.pointer (some ⟨w.heap.size, 0, none⟩)] 52 (0, 0)) := by rw [hw6]; exact heap_alloc2_new _ _ _
      have hb6 : Below wr.heap.size wr w6 := by rw [hw6]; exact below2 _ _ _
      have hq6 : QAtExt w.heap.size w6 w.heap.size v (.func (.func fn) #[] #[]) l xs.length := hq.kept hb6
      have hBb6 : Below w.heap.size w w6 := hB.trans (hb6.mono hsB)
      have hqlt := hq.lt
      have hvlt : ∀ j, v.ownBlock = some j → w.heap.size ≤ j ∧ j < wr.heap.size := fun j hj => hq.own.lt j hj
      have hvq := hq.ne
      rw [← hw6]
      have hTl : T.length ≤ 4000000000 := by
        have := congrArg List.length hT
        simp [sortV_len] at this
        have := HN.out
        omega
      have hS : ∀ j, DBlk w.heap.size (wr.heap.size + 1) v j → j < w6.heap.size := by
        rintro j ((rfl | hj) | rfl)
        · omega
        · have := hvlt j hj; omega
        · omega
      have hbig : ∀ j, DBlk w.heap.size (wr.heap.size + 1) v j → w.heap.size ≤ j := by
        rintro j ((rfl | hj) | rfl)
        · omega
        · exact (hvlt j hj).1
        · omega
      have hBoS : ¬ DBlk w.heap.size (wr.heap.size + 1) v wr.heap.size := by
        rintro ((e | hj) | e)
        · omega
        · have := hvlt _ hj; omega
        · omega
      have HBV := Lib.hid (fun j (hj : v.ownBlock = some j) => show j ≠ wr.heap.size + 1 by have := hvlt j hj; omega)
      have HQ0 : Hid (DrnExt w.heap.size less fn w.heap.size (wr.heap.size + 1) v xs.length T [] w6) := Lib.hid ⟨hBx6, v, l, T, [], hq6, rfl, hQ, rfl, rfl⟩
      have HT := Lib.hid hT
      have HB6 := Lib.hid hBb6
      have HS := Lib.hid hS
      have HBG := Lib.hid hbig
      have HBOS := Lib.hid hBoS
      have HBO6 := Lib.hid hBo6
      clear hq hQ hT ht hB hBo6 hBx6 hb6 hq6 hBb6 hvlt hvq hw6 hxl hS hbig hBoS
      refine range_w rfl (by omega) (gf := 45) (lb := #[.pointer (some ⟨wr.heap.size + 1, 0, none⟩)]) rfl trivial (enters_of Try.func45 (by kernel_rfl) rfl)
        (qExt_drain1 8 w.heap.size less hsw fn R w.heap.size (wr.heap.size + 1) v xs.length T hTl (by omega) (by omega) HBV.out) HS.out (fun pre A C => drnExt_kept pre A C) (fun _ => rfl)
        (fun pre W => (∃ v', W.heap[wr.heap.size]? = some (.cells #[v'] 22 (0, 0)) ∧ W.ownsRow w.heap.size 26 3 v' pre.length ((pre.map rowExt).flatten) ∧ (∀ j, v'.ownBlock = some j → ¬ DBlk w.heap.size (wr.heap.size + 1) v j)) ∧ Below w.heap.size w W)
        (fun _ _ _ => False) ?mI (fun _ _ _ _ h _ => h) ⟨⟨_, HBO6.out, World.ownsRow_nil _ _ _ _, fun j hj => by simp [Value.ownBlock] at hj⟩, HB6.out⟩ HQ0.out
        (fun x a' W => ∃ Bv, W.heap[Bv]? = some (.cells #[.int .u64 x.1, .int .i64 x.2.1, .int .i64 x.2.2] 26 (0, 0)) ∧ w6.heap.size ≤ Bv ∧ a' = { tmps := #[.slice A k c, .func (.func fn) #[] #[], undef, undef, .slice none 0 0, .pointer (some ⟨w.heap.size, 0, none⟩), undef, u7, .pointer (some ⟨wr.heap.size, 0, none⟩), .pointer (some ⟨Bv, 0, none⟩), .func (.func fn) #[] #[], .pointer (some ⟨w.heap.size, 0, none⟩), .slice A k c, .int .i64 (k : Int), .int .i64 (k : Int), .bool false, u16, u17, u18, u19, u20, u21, .pointer (some ⟨w.heap.size, 0, none⟩), .func (.func 45) #[] #[.pointer (some ⟨wr.heap.size + 1, 0, none⟩)], .agg #[.int .u64 x.1, .int .i64 x.2.1, .int .i64 x.2.2], undef, undef, undef, undef, undef], defers := [] })
        ?mA ?assign ?body ?done ?stop
      case mI =>
        rintro pre A C ⟨⟨v', h1, h2, h3⟩, h4⟩ hc
        have hbo := hc.block wr.heap.size (Array.getElem?_eq_some_iff.1 h1).1 (by
          rintro (e | ⟨_, o, ho, hoc⟩)
          · exact HBOS.out e
          · rw [h1] at ho; cases ho; cases hoc)
        refine ⟨⟨v', hbo.trans h1, ?_, h3⟩, ?_⟩
        · obtain ⟨g1, g2⟩ := h2
          refine ⟨g1, ?_⟩
          rcases g2 with g2 | ⟨g, cap, cur, rfl, g3, g4, g5⟩
          · exact .inl g2
          · exact .inr ⟨g, cap, cur, rfl, g3, (hc.block g (Array.getElem?_eq_some_iff.1 g4).1 (by
              rintro (e | ⟨_, o, ho, hoc⟩)
              · exact h3 g (by simp [Value.ownBlock]) e
              · rw [g4] at ho; cases ho; cases hoc)).trans g4, g5⟩
        · exact h4.trans (hc.below (fun i hi hs => by
            rcases hs with e | ⟨e, _⟩
            · have := HBG.out i e; omega
            · have := HB6.out.size; omega) h4.size)
      case mA =>
        rintro x a' _ A C ⟨Bv, h1, h2, h3⟩ hc
        refine ⟨Bv, (hc.block Bv (Array.getElem?_eq_some_iff.1 h1).1 ?_).trans h1, h2, h3⟩
        rintro (e | ⟨_, o, ho, hoc⟩)
        · have := HS.out Bv e; omega
        · rw [h1] at ho; cases ho; cases hoc
      case assign =>
        intro l pre x W K hsz hI hK
        gi_wp2
        refine hK _ _ (below1 W _) ?_ ⟨W.heap.size, heap_alloc_new _ _, hsz, rfl⟩
        obtain ⟨⟨v', h1, h2, h3⟩, h4⟩ := hI
        exact ⟨⟨v', (Below.heap_alloc W _ _ (Array.getElem?_eq_some_iff.1 h1).1).trans h1, h2.alloc _, h3⟩, h4.alloc h4.size _⟩
      case body =>
        rintro l pre x a' W hl ⟨r, hr⟩ ⟨⟨v', h1, h2, h3⟩, h4⟩ hR ⟨Bv, h5, h6, rfl⟩
        have hco := cell_of_row W wr.heap.size 0 _ _ _ h1
        have hfo := frozen_of_row W wr.heap.size 0 _ _ h1
        have hcv := fun i => cell_of_row W Bv i _ _ _ h5
        simp only [List.getElem?_toArray, List.getElem?_cons_zero] at hco
        have hlen4 : pre.length ≤ 4000000000 := by
          obtain ⟨_, _, _, _, P0, _, _, _, e1, e2⟩ := hR
          have e1 := congrArg List.length e1
          have e2 := congrArg List.length e2
          simp at e1 e2
          omega
        obtain ⟨i0, hi, hz0, hz1, hz2⟩ := info_parts infoTExt
        have HR2 := Lib.hid hR
        have HO2 := Lib.hid h2
        have HI3 := Lib.hid h3
        have HB4 := Lib.hid h4
        have HBo := Lib.hid h1
        have hWs := h4.size
        have hBoW := (Array.getElem?_eq_some_iff.1 h1).1
        clear hR h2 h3 h4 h1
        gi_wp2_with (gi_at_builtin; go_must (refine wpListIn_append_own _ rfl _ _ 22 rfl w.heap.size 26 i0 (.agg #[.int .u64 0, .int .i64 0, .int .i64 0]) 3 24 Try.underlying22 hi hz0 hz1 hz2 rfl (by decide) _ _ _ rfl (HO2.out.alloc _) ⟨W.heap.size, 0, none⟩ 1 1 (rowExt x) rfl rfl (rd_new W (rowExt x) 26).addr (rowExt_one x) (by unfold maxLen; omega) (by omega) (by simp; omega) ?_))
        intro v8 w8 hown8 hg8 _
        obtain ⟨g8, c8, rfl⟩ := ownsRow_succ hown8
        have hne1 : some wr.heap.size ≠ v'.ownBlock := fun e => own_ne_type HO2.out HBo.out (by decide) e.symm
        have hBo8 : w8.heap[wr.heap.size]? = some (.cells #[v'] 22 (0, 0)) := (hg8.block _ (by simp; omega) hne1).trans ((Below.heap_alloc W _ _ hBoW).trans HBo.out)
        have hco8 := cell_of_row w8 wr.heap.size 0 _ _ _ hBo8
        have hfo8 := frozen_of_row w8 wr.heap.size 0 _ _ hBo8
        simp only [List.getElem?_toArray, List.getElem?_cons_zero] at hco8
        have hsame : ∀ j, DBlk w.heap.size (wr.heap.size + 1) v j → w8.heap[j]? = W.heap[j]? := by
          intro j hj
          have hjl : j < W.heap.size := by
            obtain ⟨_, _, _, he, _⟩ := drnExt_type HR2.out j hj
            exact (Array.getElem?_eq_some_iff.1 he).1
          exact (hg8.block j (by simp; omega) (fun e => HI3.out j e.symm hj)).trans (Below.heap_alloc W _ _ hjl)
        have hn8 : ∀ j, (Value.slice (some ⟨g8, 0, none⟩) (pre.length + 1) c8).ownBlock = some j → ¬ DBlk w.heap.size (wr.heap.size + 1) v j := by
          intro j hj hD
          obtain ⟨cs, t, fr, he, hte⟩ := drnExt_type HR2.out j hD
          exact own_ne_type hown8 ((hsame j hD).trans he) hte hj
        have hg8o : g8 ≠ wr.heap.size := by
          rintro rfl
          exact own_ne_type hown8 hBo8 (by decide) rfl
        have hkeep : KeepsOthers W w8 := (KeepsOthers.alloc W _).trans (KeepsOthers.of_grownBy hg8 (fun j o hj ho => by
          have := HO2.out.alloc (.cells #[.int .u64 x.1, .int .i64 x.2.1, .int .i64 x.2.2] 26)
          obtain ⟨_, h⟩ := this
          rcases h with ⟨rfl, _⟩ | ⟨g, cap, cur, rfl, _, hh, _⟩
          · simp [Value.ownBlock] at hj
          · simp [Value.ownBlock] at hj; subst hj; rw [hh] at ho; cases ho; rfl))
        have hB8 : Below w.heap.size w w8 := (HB4.out.alloc hWs _).grown hg8 (by simp; omega) (fun j hj => (HO2.out.lt j hj).1)
        have HS8 := Lib.hid hsame
        have HN8 := Lib.hid hn8
        have HK8 := Lib.hid hkeep
        have HB8 := Lib.hid hB8
        have HO8 := Lib.hid hown8
        have HBo8 := Lib.hid hBo8
        clear hsame hn8 hkeep hB8 hown8 hBo8 hg8 hi hz0 hz1 hz2 hne1 hco hfo hcv
        gi_wp2
        refine ⟨(HK8.out.trans (KeepsOthers.setCell w8 _ _)).from _, ⟨⟨_, heap_setCell_same w8 wr.heap.size 0 _ _ _ HBo8.out, ?_, HN8.out⟩, ?_⟩, ?_⟩
        · have e1 : (pre ++ [x]).length = pre.length + 1 := by simp
          have e2 : ((pre ++ [x]).map rowExt).flatten = (pre.map rowExt).flatten ++ rowExt x := by simp
          rw [e1, e2]
          obtain ⟨g1, g2⟩ := HO8.out
          rcases g2 with ⟨g2, _⟩ | ⟨g', cap', cur, g3, g4, g5, g6⟩
          · cases g2
          · simp only [Value.slice.injEq, Option.some.injEq, Addr.mk.injEq, and_true, true_and] at g3
            obtain ⟨rfl, rfl⟩ := g3
            exact ⟨g1, .inr ⟨g8, c8, cur, rfl, g4, (Below.heap_setCell w8 ⟨wr.heap.size, 0, none⟩ _ g8 hg8o).trans g5, g6⟩⟩
        · exact HB8.out.setCell (p := ⟨wr.heap.size, 0, none⟩) (by simp; omega) _
        · exact drnExt_kept _ _ _ HR2.out (fun j hj => (Below.heap_setCell w8 ⟨wr.heap.size, 0, none⟩ _ j (fun e => by
            have e' : j = wr.heap.size := e
            rw [e'] at hj
            exact HBOS.out hj)).trans (HS8.out j hj)) (by simp [World.setCell]; have := HK8.out.size; omega)
      case done =>
        rintro D ys W hD rfl ⟨⟨v', h1, h2, h3⟩, h4⟩ _ hK
        have hco := cell_of_row W wr.heap.size 0 _ _ _ h1
        simp only [List.getElem?_toArray, List.getElem?_cons_zero] at hco
        have HO2 := Lib.hid h2
        have HB4 := Lib.hid h4
        have HKD := Lib.hid hK
        have hyl : (T.map (·.1)).length = k := by rw [HT.out, sortV_len]; exact HN.out
        have HYL := Lib.hid hyl
        clear h1 h2 h3 h4 hK hyl
        gi_wp2
        refine ⟨by simp, .inl ⟨_, _, rfl, run_takeDeferred HKD.out, ?_⟩⟩
        refine ⟨_, results_tmp rfl _ _ _, v', rfl, ?_, HB4.out.trans (belowK_b (w := w) (Nat.le_refl _) W D _ _ (by have := HB6.out.size; omega) HKD.out rfl rfl)⟩
        have := ownsRow_putObj HO2.out (.deferred none) HKD.out rfl
        rw [HYL.out, HT.out] at this
        exact this
      case stop =>
        intro D c pre W _ h _ _
        exact h.elim
end Go.Proofs.Ytmipfmeafbeegaa
