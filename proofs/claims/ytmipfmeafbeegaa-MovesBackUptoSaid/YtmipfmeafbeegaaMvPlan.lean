/- Contract: moves.Plan. -/
import Derived.Test.YtmipfmeafbeegaaMvVoc
import Derived.Test.YtmipfmeafbeegaaSpAdd2
namespace Go.Proofs.Ytmipfmeafbeegaa
open Go.RowKit Go.Shelf
set_option linter.unusedVariables false
attribute [local go_sem] Oper.semAt_some

theorem lessm_any (x y : Ext) (w : World) :
    Calls Try.prog 26 #[.agg #[.int .u64 x.1, .int .i64 x.2.1, .int .i64 x.2.2], .agg #[.int .u64 y.1, .int .i64 y.2.1, .int .i64 y.2.2]] w fun e w' => e = .returned (.bool (lessE x y)) ∧ Below w.heap.size w w' := by
  go_enter Try.func26, Try.ntmps26
  go_wp2
  go_ret
  exact ⟨rfl, below2 _ _ _⟩
theorem ranksM : RanksExt lessE 26 :=
  ⟨enters_of Try.func26 (by kernel_rfl) rfl, fun x y w1 => lessm_any x y w1⟩
theorem own_wf {xs : List Ext} (hw : ∀ x ∈ xs, (Lit.int .u64 x.1).wf = true) : ∀ x ∈ sortV lessE xs, (Lit.int .u64 x.1).wf = true := fun x hx => hw x ((sortV_perm xs).mem_iff.1 hx)
set_option maxRecDepth 100000 in
set_option maxHeartbeats 4000000 in
theorem plan_bad (C : Int) (A : Option Addr) (n c : Nat) (xs : List Ext) (w : World) (hn : xs.length = n) (h : Rd w A ((xs.map rowExt).flatten)) (hcap : n ≤ 2000000000) (hw : ∀ x ∈ xs, (Lit.int .u64 x.1).wf = true) (hc : checkE C (sortV lessE xs) = false) :
    Calls Try.prog 10 #[.int .i64 C, .slice A n c] w fun e w' => e = .returned (.tuple #[.slice none 0 0, .int .i64 11]) ∧ Below w.heap.size w w' := by
  have C1 := Lib.hid (sort_any A n c xs w hn h (by omega))
  have HW := Lib.hid (own_wf hw)
  have HN := Lib.hid hn
  have HC := Lib.hid hc
  clear h hn hw hc
  go_enter Try.func10, Try.ntmps10
  go_wp2_with fail
  refine C1.out.mono ?_
  rintro e w1 ⟨v1, rfl, ho1, hb1⟩
  obtain ⟨A1, c1, rfl, _⟩ := own_sh ho1
  have C2 := Lib.hid (check_any C A1 n c1 (sortV lessE xs) w1 (by rw [sortV_len]; exact HN.out) (own_rd' ho1) (by omega) HW.out)
  rw [HC.out, show errE false = 11 from rfl] at C2
  have HB1 := Lib.hid hb1
  clear ho1 hb1
  go_wp2_with fail
  refine C2.out.mono ?_
  rintro e w2 ⟨rfl, hb2⟩
  have HB2 := Lib.hid (HB1.out.trans (hb2.mono HB1.out.size))
  clear hb2
  go_wp2
  go_ret2
  exact ⟨rfl, HB2.out⟩
theorem drnMov_type {base : Nat} {less : Ext → Ext → Bool} {fn q Bx : Nat} {v0 : Value} {tn : Nat} {S0 : List (Ext × Nat)} {pre : List Ext} {W : World} (h : DrnExt base less fn q Bx v0 tn S0 pre W) (j : Nat) (hj : DBlk q Bx v0 j) :
    ∃ cs t fr, W.heap[j]? = some (.cells cs t fr) ∧ t ≠ 33 := by
  obtain ⟨hb, v, l, T, P0, hq, hv, _⟩ := h
  rcases hj with (rfl | hj) | rfl
  · exact ⟨_, _, _, hq.blk, by decide⟩
  · rw [← hv] at hj
    obtain ⟨_, ho⟩ := hq.own
    rcases ho with ⟨rfl, _⟩ | ⟨g, cap, cur, rfl, _, hh, _⟩
    · simp [Value.ownBlock] at hj
    · simp [Value.ownBlock] at hj; subst hj; exact ⟨_, _, _, hh, by decide⟩
  · exact ⟨_, _, _, hb, by decide⟩
theorem planF_snoc (pre : List Ext) (x : Ext) : planF 0 (pre ++ [x]) = planF 0 pre ++ (if x.2.1 = sumN pre then [] else [(x.1, x.2.1, sumN pre, x.2.2)]) := by
  rw [planF_append, Int.zero_add]; simp [planF]
theorem sumN_snoc (pre : List Ext) (x : Ext) : sumN (pre ++ [x]) = sumN pre + x.2.2 := by rw [sumN_append]; simp [sumN]
theorem pre_bounds {C : Int} {pre Q : List Ext} {x : Ext} (h : checkE C ((pre ++ [x]) ++ Q) = true) : 0 ≤ sumN pre ∧ sumN pre ≤ 65536 ∧ 0 ≤ x.2.1 ∧ x.2.1 ≤ 65536 ∧ 1 ≤ x.2.2 ∧ x.2.2 ≤ 9 ∧ pre.length ≤ 65536 := by
  have h1 := checkE_sub h (List.sublist_append_left (pre ++ [x]) Q)
  have h2 := checkE_sub h1 (List.sublist_append_left pre [x])
  have h3 := sumN_ge pre 0 (chainE h2)
  have h4 := endF_ge pre 0 (by omega) (chainE h2)
  have h5 := one_n ((checkE_iff.1 h1).2.1 x (by simp))
  have h6 := chain_small h2
  omega
/-- What the loop through the queue keeps. -/
def PlInv (base q Bx : Nat) (v0 : Value) (Bo : Nat) (w : World) (pre : List Ext) (W : World) : Prop :=
  (∃ v', W.heap[Bo]? = some (.cells #[v'] 28 (0, 0)) ∧ W.ownsRow base 33 4 v' (planF 0 pre).length (((planF 0 pre).map rowMov).flatten) ∧ (∀ j, v'.ownBlock = some j → ¬ DBlk q Bx v0 j)) ∧ W.heap[Bo + 1]? = some (.cells #[.int .i64 (sumN pre)] 3 (0, 0)) ∧ Below base w W
def PlannedAt (base : Nat) (ps : List Mov) (w : World) (e : Ending) (w' : World) : Prop := ∃ v, e = .returned (.tuple #[v, .int .i64 0]) ∧ w'.ownsRow base 33 4 v ps.length ((ps.map rowMov).flatten) ∧ Below base w w'
set_option maxRecDepth 100000 in
set_option maxHeartbeats 8000000 in
theorem plan_ok (C : Int) (A : Option Addr) (n c : Nat) (xs : List Ext) (w : World) (hn : xs.length = n) (h : Rd w A ((xs.map rowExt).flatten)) (hcap : n ≤ 2000000000) (hw : ∀ x ∈ xs, (Lit.int .u64 x.1).wf = true) (hc : checkE C (sortV lessE xs) = true) :
    Calls Try.prog 10 #[.int .i64 C, .slice A n c] w (PlannedAt w.heap.size (planF 0 (sortV lessE xs)) w) := by
  have hlr : ∀ r ∈ xs.map rowExt, r.length = 3 := by intro r hr; simp only [List.mem_map] at hr; obtain ⟨y, _, rfl⟩ := hr; rfl
  have CS := Lib.hid (sort_any A n c xs w hn h (by omega))
  have HW := Lib.hid (own_wf hw)
  have HCK := Lib.hid hc
  have HN := Lib.hid hn
  have HR := Lib.hid h
  have HLR := Lib.hid hlr
  clear hn h hlr hw hc
  refine (callsIn_wide (n := 9)).1 ?_
  refine callsIn_of_wp_marks Try.func10 rfl trivial ?_ rfl
  simp only [Try.ntmps10, List.size_toArray, List.length_cons, List.length_nil, Nat.reduceAdd, Nat.reduceSub, Array.replicate_succ, Array.replicate_zero, List.push_toArray, List.append_toArray, List.nil_append, List.cons_append]
  gi_wp2_with fail
  refine ⟨trivial, ?_⟩
  refine (callsIn_wide.2 CS.out).mono ?_
  rintro e ws ⟨v1, rfl, ho1, hb1⟩
  obtain ⟨A1, c1, rfl, _⟩ := own_sh ho1
  have C2 := Lib.hid (check_any C A1 n c1 (sortV lessE xs) ws (by rw [sortV_len]; exact HN.out) (own_rd' ho1) (by omega) HW.out)
  rw [HCK.out, show errE true = 0 from rfl] at C2
  have HB1 := Lib.hid hb1
  clear ho1 hb1
  gi_wp2_with fail
  refine ⟨trivial, ?_⟩
  refine (callsIn_wide.2 C2.out).mono ?_
  rintro e ws2 ⟨rfl, hb2⟩
  have HBS := Lib.hid (HB1.out.trans (hb2.mono HB1.out.size))
  have hsS := HBS.out.size
  clear hb2 HB1 C2 CS
  gi_wp2_with fail
  refine ⟨trivial, ?_⟩
  refine (callsIn_wide.2 (qExt_new 26 ws2)).mono ?_
  rintro e w1 ⟨rfl, hq1, hb1⟩
  have HF1 : Hid (FullExt ws2.heap.size lessE 26 ws2.heap.size (xs.take 0) ws2 w1) := Lib.hid ⟨⟨_, _, [], hq1, QS.nil _ _, by simp [sortV], by simp⟩, hb1⟩
  clear hq1 hb1
  gi_wp2_with fail
  gi_loopw [20] (fun s14 wr => ∃ k : Nat, k ≤ n ∧ s14 = .int .i64 k ∧ FullExt ws2.heap.size lessE 26 ws2.heap.size (xs.take k) ws2 wr) (fun i _ => n - (intOf i).toNat)
  case atStart => exact ⟨0, by omega, rfl, HF1.out⟩
  case round =>
    obtain ⟨k, hk, rfl, hF⟩ := hrel
    by_cases hlt : k < n
    · have hkx : k < xs.length := by have := HN.out; omega
      obtain ⟨b, o, rfl, hrow⟩ := (HR.out.kept (HBS.out.trans (hF.below.mono hsS))).at_row HLR.out (by decide) (i := k) (r := rowExt xs[k]) (by simp [List.getElem?_eq_getElem hkx])
      obtain ⟨⟨v, l, T, hq, hQ, hT, ht⟩, hB⟩ := hF
      have hlen : (xs.take k).length = k := by simp; omega
      rw [hlen] at hq ht
      have hll : l.length = k := by
        rw [hQ.len]
        have := congrArg List.length hT
        simpa [sortV_len, hlen] using this
      have ci0 := hrow 0 _ rfl
      have ci1 := hrow 1 _ rfl
      have ci2 := hrow 2 _ rfl
      simp only [Nat.add_zero] at ci0
      have C1 := Lib.hid (fun (w1 : World) (hq1 : QAtExt ws2.heap.size w1 ws2.heap.size v (.func (.func 26) #[] #[]) l k) (hb : ws2.heap.size ≤ w1.heap.size) => qExt_push ws2.heap.size lessE 26 ranksM w1 ws2.heap.size v l k xs[k] hq1 (by omega) (by omega) hb)
      have HT2 : Hid ((insT lessE (xs[k], k) T).map (·.1) = sortV lessE (xs.take (k + 1))) := by
        have e : xs.take (k + 1) = xs.take k ++ [xs[k]] := by rw [List.take_add_one, List.getElem?_eq_getElem hkx]; rfl
        rw [insT_fst (xs[k], k) T ht, hT, e, sortV_snoc]
        exact Lib.hid rfl
      have HTT : Hid (∀ y ∈ insT lessE (xs[k], k) T, y.2 < k + 1) := Lib.hid (fun y hy => by
        rcases List.mem_cons.1 ((insT_perm (xs[k], k) T).mem_iff.1 hy) with rfl | hy
        · simp
        · have := ht y hy; omega)
      have HQ2 := Lib.hid (hQ.push swoE (xs[k], k) ht)
      have HQA := Lib.hid hq
      have HB := Lib.hid hB
      have HL2 : Hid ((xs.take (k + 1)).length = k + 1) := Lib.hid (by simp; omega)
      have b1 : (0 : Int) ≤ (k : Int) ∧ (k : Int) < (n : Int) := by omega
      have hsB := hB.size
      clear hq hQ hT ht hll hlen hrow hB
      generalize xs[k] = x at *
      gi_wp2_with fail
      refine ⟨trivial, ?_⟩
      refine (callsIn_wide.2 (C1.out _ (HQA.out.alloc _) (by simp; omega))).mono ?_
      rintro e w3 ⟨rfl, v3, hq3, hc3, hn3⟩
      have HQ3 := Lib.hid hq3
      have HB3 := Lib.hid ((HB.out.alloc hsB _).trans (qExt_blk_below (HQA.out.alloc _) hc3 (by simp; omega)))
      clear hq3 hc3 hn3
      gi_wp2
      go_roundw
      case rel => exact ⟨k + 1, by omega, by go_num, ⟨⟨v3, _, _, by rw [HL2.out]; exact HQ3.out, HQ2.out, HT2.out, by rw [HL2.out]; exact HTT.out⟩, HB3.out⟩⟩
      case measure => simp [intOf]; omega
    · obtain rfl : k = n := by omega
      gi_wp2_with fail
      refine ⟨trivial, ?_⟩
      refine (callsIn_wide.2 (qExt_drain _ _)).mono ?_
      rintro e w5 ⟨rfl, rfl⟩
      gi_wp2_with fail
      obtain ⟨⟨v, l, T, hq, hQ, hT, ht⟩, hB⟩ := hF
      have hsB := hB.size
      have hxl : (xs.take k) = xs := List.take_of_length_le (by have := HN.out; omega)
      rw [hxl] at hT hq ht
      obtain ⟨w6, hw6⟩ : ∃ w6 : World, w6 = ((wr.alloc (.cells #[.slice none 0 0] 28)).alloc (.cells #[.int .i64 0] 3)).alloc (.cells #[.pointer (some ⟨ws2.heap.size, 0, none⟩)] 52) := ⟨_, rfl⟩
      have hs6 : w6.heap.size = wr.heap.size + 3 := by rw [hw6]; simp
      have hBo6 : w6.heap[wr.heap.size]? = some (.cells #[.slice none 0 0] 28 (0, 0)) := by rw [hw6]; exact (Below.heap_alloc _ _ _ (by simp; omega)).trans (heap_alloc2_old _ _ _)
      have hBe6 : w6.heap[wr.heap.size + 1]? = some (.cells #[.int .i64 0] 3 (0, 0)) := by rw [hw6]; exact (Below.heap_alloc _ _ _ (by simp)).trans (heap_alloc2_new _ _ _)
      have hBx6 : w6.heap[wr.heap.size + 1 + 1]? = some (.cells #[.pointer (some ⟨ws2.heap.size, 0, none⟩)] 52 (0, 0)) := by
        rw [hw6]
        have := heap_alloc_new ((wr.alloc (.cells #[.slice none 0 0] 28)).alloc (.cells #[.int .i64 0] 3)) (.cells #[.pointer (some ⟨ws2.heap.size, 0, none⟩)] 52)
        simpa using this
      have hb6 : Below wr.heap.size wr w6 := by rw [hw6]; exact (below2 _ _ _).alloc (by simp; omega) _
      have hq6 : QAtExt ws2.heap.size w6 ws2.heap.size v (.func (.func 26) #[] #[]) l xs.length := hq.kept hb6
      have hBb6 : Below w.heap.size w w6 := HBS.out.trans ((hB.trans (hb6.mono hsB)).mono hsS)
      have hqlt := hq.lt
      have hvlt : ∀ j, v.ownBlock = some j → ws2.heap.size ≤ j ∧ j < wr.heap.size := fun j hj => hq.own.lt j hj
      have hvq := hq.ne
      rw [← hw6]
      have hTl : T.length ≤ 4000000000 := by
        have := congrArg List.length hT
        simp [sortV_len] at this
        have := HN.out
        omega
      have hS : ∀ j, DBlk ws2.heap.size (wr.heap.size + 1 + 1) v j → j < w6.heap.size := by
        rintro j ((rfl | hj) | rfl)
        · omega
        · have := hvlt j hj; omega
        · omega
      have hbig : ∀ j, DBlk ws2.heap.size (wr.heap.size + 1 + 1) v j → w.heap.size ≤ j := by
        rintro j ((rfl | hj) | rfl)
        · omega
        · have := (hvlt j hj).1; omega
        · omega
      have hBoS : ¬ DBlk ws2.heap.size (wr.heap.size + 1 + 1) v wr.heap.size := by
        rintro ((e | hj) | e)
        · omega
        · have := hvlt _ hj; omega
        · omega
      have hBeS : ¬ DBlk ws2.heap.size (wr.heap.size + 1 + 1) v (wr.heap.size + 1) := by
        rintro ((e | hj) | e)
        · omega
        · have := hvlt _ hj; omega
        · omega
      have HBV := Lib.hid (fun j (hj : v.ownBlock = some j) => show j ≠ wr.heap.size + 1 + 1 by have := hvlt j hj; omega)
      have HQ0 : Hid (DrnExt ws2.heap.size lessE 26 ws2.heap.size (wr.heap.size + 1 + 1) v xs.length T [] w6) := Lib.hid ⟨hBx6, v, l, T, [], hq6, rfl, hQ, rfl, rfl⟩
      have HT := Lib.hid hT
      have HB6 := Lib.hid hBb6
      have HS := Lib.hid hS
      have HBG := Lib.hid hbig
      have HBOS := Lib.hid hBoS
      have HBES := Lib.hid hBeS
      have HBO6 := Lib.hid hBo6
      have HBE6 := Lib.hid hBe6
      have hsw : w.heap.size ≤ wr.heap.size := by omega
      clear hq hQ hT ht hB hBo6 hBe6 hBx6 hb6 hq6 hBb6 hvlt hvq hw6 hxl hS hbig hBoS hBeS
      refine range_w rfl (by omega) (gf := 45) (lb := #[.pointer (some ⟨wr.heap.size + 1 + 1, 0, none⟩)]) rfl trivial (enters_of Try.func45 (by kernel_rfl) rfl)
        (qExt_drain1 8 ws2.heap.size lessE swoE _ ranksM ws2.heap.size (wr.heap.size + 1 + 1) v xs.length T hTl (by omega) (by omega) HBV.out) HS.out (fun pre A C => drnExt_kept pre A C) (fun _ => rfl)
        (PlInv w.heap.size ws2.heap.size (wr.heap.size + 1 + 1) v wr.heap.size w)
        (fun _ _ _ => False) ?mI (fun _ _ _ _ h _ => h) ⟨⟨_, HBO6.out, World.ownsRow_nil _ _ _ _, fun j hj => by simp [Value.ownBlock] at hj⟩, HBE6.out, HB6.out⟩ HQ0.out
        (fun x a' W => ∃ Bv, W.heap[Bv]? = some (.cells #[.int .u64 x.1, .int .i64 x.2.1, .int .i64 x.2.2] 26 (0, 0)) ∧ w6.heap.size ≤ Bv ∧ a' = { tmps := #[.int .i64 C, .slice A k c, undef, undef, .slice none 0 0, .int .i64 0, .pointer (some ⟨ws2.heap.size, 0, none⟩), undef, u8, .pointer (some ⟨wr.heap.size, 0, none⟩), .pointer (some ⟨wr.heap.size + 1, 0, none⟩), .pointer (some ⟨Bv, 0, none⟩), .int .i64 C, .slice A k c, .slice A1 k c1, .int .i64 0, .bool false, .pointer (some ⟨ws2.heap.size, 0, none⟩), .slice A k c, .int .i64 (k : Int), .int .i64 (k : Int), .bool false, u22, u23, u24, u25, u26, u27, .pointer (some ⟨ws2.heap.size, 0, none⟩), .func (.func 45) #[] #[.pointer (some ⟨wr.heap.size + 1 + 1, 0, none⟩)], .agg #[.int .u64 x.1, .int .i64 x.2.1, .int .i64 x.2.2], undef, undef, undef, undef, undef, undef, undef, undef, undef, undef, undef, undef, undef, undef, undef, undef, undef, undef, undef, undef], defers := [] })
        ?mA ?assign ?body ?done ?stop
      case mI =>
        rintro pre A C ⟨⟨v', h1, h2, h3⟩, h4e, h4⟩ hc
        have hbo := hc.block wr.heap.size (Array.getElem?_eq_some_iff.1 h1).1 (by
          rintro (e | ⟨_, o, ho, hoc⟩)
          · exact HBOS.out e
          · rw [h1] at ho; cases ho; cases hoc)
        have hbe := hc.block (wr.heap.size + 1) (Array.getElem?_eq_some_iff.1 h4e).1 (by
          rintro (e | ⟨_, o, ho, hoc⟩)
          · exact HBES.out e
          · rw [h4e] at ho; cases ho; cases hoc)
        refine ⟨⟨v', hbo.trans h1, ?_, h3⟩, hbe.trans h4e, ?_⟩
        · obtain ⟨g1, g2⟩ := h2
          refine ⟨g1, ?_⟩
          rcases g2 with g2 | ⟨g, cap, cur, rfl, g3, g4, g5⟩
          · exact .inl g2
          · exact .inr ⟨g, cap, cur, rfl, g3, (hc.block g (Array.getElem?_eq_some_iff.1 g4).1 (by
              rintro (e | ⟨_, o, ho, hoc⟩)
              · exact h3 g (by simp [Value.ownBlock]) e
              · rw [g4] at ho; cases ho; cases hoc)).trans g4, g5⟩
        · exact h4.trans (hc.below (fun i hi hs => by
            rcases hs with e | ⟨e, _⟩
            · have := HBG.out i e; omega
            · have := HB6.out.size; omega) h4.size)
      case mA =>
        rintro x a' _ A C ⟨Bv, h1, h2, h3⟩ hc
        refine ⟨Bv, (hc.block Bv (Array.getElem?_eq_some_iff.1 h1).1 ?_).trans h1, h2, h3⟩
        rintro (e | ⟨_, o, ho, hoc⟩)
        · have := HS.out Bv e; omega
        · rw [h1] at ho; cases ho; cases hoc
      case assign =>
        intro l pre x W K hsz hI hK
        gi_wp2
        refine hK _ _ (below1 W _) ?_ ⟨W.heap.size, heap_alloc_new _ _, hsz, rfl⟩
        obtain ⟨⟨v', h1, h2, h3⟩, h4e, h4⟩ := hI
        exact ⟨⟨v', (Below.heap_alloc W _ _ (Array.getElem?_eq_some_iff.1 h1).1).trans h1, h2.alloc _, h3⟩, (Below.heap_alloc W _ _ (Array.getElem?_eq_some_iff.1 h4e).1).trans h4e, h4.alloc h4.size _⟩
      case body =>
        rintro l pre x a' W hl ⟨r, hr⟩ ⟨⟨v', h1, h2, h3⟩, h4e, h4⟩ hR ⟨Bv, h5, h6, rfl⟩
        have hco := cell_of_row W wr.heap.size 0 _ _ _ h1
        have hfo := frozen_of_row W wr.heap.size 0 _ _ h1
        have hce := cell_of_row W (wr.heap.size + 1) 0 _ _ _ h4e
        have hfe := frozen_of_row W (wr.heap.size + 1) 0 _ _ h4e
        have hcv := fun i => cell_of_row W Bv i _ _ _ h5
        simp only [List.getElem?_toArray, List.getElem?_cons_zero] at hco hce
        obtain ⟨p1, p2, p3, p4, p5, p6, p7⟩ : 0 ≤ sumN pre ∧ sumN pre ≤ 65536 ∧ 0 ≤ x.2.1 ∧ x.2.1 ≤ 65536 ∧ 1 ≤ x.2.2 ∧ x.2.2 ≤ 9 ∧ pre.length ≤ 65536 := by
          obtain ⟨_, _, _, T', P0, _, _, _, e1, e2⟩ := hR
          have e3 := HT.out
          rw [e1, List.map_append, ← e2] at e3
          have := HCK.out
          rw [← e3] at this
          exact pre_bounds this
        have HPS := Lib.hid (planF_snoc pre x)
        have HSN := Lib.hid (sumN_snoc pre x)
        have HPL := Lib.hid (planF_len pre 0)
        have HR2 := Lib.hid hR
        have HO2 := Lib.hid h2
        have HI3 := Lib.hid h3
        have HB4 := Lib.hid h4
        have HBo := Lib.hid h1
        have HBe := Lib.hid h4e
        have hWs := h4.size
        have hBoW := (Array.getElem?_eq_some_iff.1 h1).1
        have hBeW := (Array.getElem?_eq_some_iff.1 h4e).1
        have FIN := Lib.hid (fun (W8 : World) (v'' : Value) (hk8 : KeepsOthers W W8) (g1 : W8.heap[wr.heap.size]? = some (.cells #[v''] 28 (0, 0))) (g2 : W8.heap[wr.heap.size + 1]? = some (.cells #[.int .i64 (sumN pre)] 3 (0, 0)))
            (g3 : W8.ownsRow w.heap.size 33 4 v'' (planF 0 (pre ++ [x])).length (((planF 0 (pre ++ [x])).map rowMov).flatten)) (g4 : ∀ j, v''.ownBlock = some j → ¬ DBlk ws2.heap.size (wr.heap.size + 1 + 1) v j) (g5 : Below w.heap.size w W8)
            (g6 : ∀ j, DBlk ws2.heap.size (wr.heap.size + 1 + 1) v j → W8.heap[j]? = W.heap[j]?) =>
          show KeepsFrom w6.heap.size W (W8.setCell ⟨wr.heap.size + 1, 0, none⟩ (.int .i64 (sumN pre + x.2.2))) ∧ PlInv w.heap.size ws2.heap.size (wr.heap.size + 1 + 1) v wr.heap.size w (pre ++ [x]) (W8.setCell ⟨wr.heap.size + 1, 0, none⟩ (.int .i64 (sumN pre + x.2.2))) ∧ DrnExt ws2.heap.size lessE 26 ws2.heap.size (wr.heap.size + 1 + 1) v xs.length T (pre ++ [x]) (W8.setCell ⟨wr.heap.size + 1, 0, none⟩ (.int .i64 (sumN pre + x.2.2))) from by
          refine ⟨(hk8.trans (KeepsOthers.setCell W8 _ _)).from _, ⟨⟨v'', (Below.heap_setCell W8 ⟨wr.heap.size + 1, 0, none⟩ _ wr.heap.size (by simp)).trans g1, ?_, g4⟩, ?_, ?_⟩, ?_⟩
          · obtain ⟨q1, q2⟩ := g3
            refine ⟨q1, ?_⟩
            rcases q2 with q2 | ⟨g', cap', cur, rfl, q4, q5, q6⟩
            · exact .inl q2
            · have hne : g' ≠ wr.heap.size + 1 := by
                rintro rfl
                rw [g2] at q5
                simp at q5
              exact .inr ⟨g', cap', cur, rfl, q4, (Below.heap_setCell W8 ⟨wr.heap.size + 1, 0, none⟩ _ g' hne).trans q5, q6⟩
          · rw [HSN.out]; exact heap_setCell_same W8 (wr.heap.size + 1) 0 _ _ _ g2
          · exact g5.setCell (p := ⟨wr.heap.size + 1, 0, none⟩) (by simp; omega) _
          · exact drnExt_kept _ _ _ HR2.out (fun j hj => (Below.heap_setCell W8 ⟨wr.heap.size + 1, 0, none⟩ _ j (fun e => by
              have e' : j = wr.heap.size + 1 := e
              rw [e'] at hj
              exact HBES.out hj)).trans (g6 j hj)) (by simp [World.setCell]; exact hk8.size))
        clear hR h2 h3 h4 h1 h4e
        by_cases hx : x.2.1 = sumN pre
        · rw [if_pos hx, List.append_nil] at HPS
          have q1 : (x.2.1 == sumN pre) = true := by simp [hx]
          have HX := Lib.hid hx
          have FIN2 := Lib.hid (FIN.out W v' (KeepsOthers.refl _) HBo.out HBe.out (by rw [HPS.out]; exact HO2.out) HI3.out HB4.out (fun _ _ => rfl))
          clear hx
          generalize sumN pre = s at *
          gi_wp2
          exact FIN2.out
        · rw [if_neg hx] at HPS
          have q1 : (x.2.1 == sumN pre) = false := by simpa using hx
          have HX := Lib.hid hx
          clear hx
          obtain ⟨i0, hi, hz0, hz1, hz2⟩ := info_parts infoTMov
          have hpl : (planF 0 pre).length ≤ 65536 := by have := HPL.out; omega
          gi_wp2_with (gi_at_builtin; go_must (refine wpListIn_append_own _ rfl _ _ 28 rfl w.heap.size 33 i0 (.agg #[.int .u64 0, .int .i64 0, .int .i64 0, .int .i64 0]) 4 32 Try.underlying28 hi hz0 hz1 hz2 rfl (by decide) _ _ _ rfl (HO2.out.alloc _) ⟨W.heap.size, 0, none⟩ 1 1 (rowMov (x.1, x.2.1, sumN pre, x.2.2)) rfl rfl (rd_new W (rowMov (x.1, x.2.1, sumN pre, x.2.2)) 33).addr (rowMov_one _) (by unfold maxLen; omega) (by omega) (by simp; omega) ?_))
          intro v8 w8 hown8 hg8 _
          obtain ⟨g8, c8, rfl⟩ := ownsRow_succ hown8
          have hne1 : some wr.heap.size ≠ v'.ownBlock := fun e => own_ne_type HO2.out HBo.out (by decide) e.symm
          have hne2 : some (wr.heap.size + 1) ≠ v'.ownBlock := fun e => own_ne_type HO2.out HBe.out (by decide) e.symm
          have hBo8 : w8.heap[wr.heap.size]? = some (.cells #[v'] 28 (0, 0)) := (hg8.block _ (by simp; omega) hne1).trans ((Below.heap_alloc W _ _ hBoW).trans HBo.out)
          have hBe8 : w8.heap[wr.heap.size + 1]? = some (.cells #[.int .i64 (sumN pre)] 3 (0, 0)) := (hg8.block _ (by simp; omega) hne2).trans ((Below.heap_alloc W _ _ hBeW).trans HBe.out)
          have hco8 := cell_of_row w8 wr.heap.size 0 _ _ _ hBo8
          have hfo8 := frozen_of_row w8 wr.heap.size 0 _ _ hBo8
          have hsame : ∀ j, DBlk ws2.heap.size (wr.heap.size + 1 + 1) v j → w8.heap[j]? = W.heap[j]? := by
            intro j hj
            have hjl : j < W.heap.size := by
              obtain ⟨_, _, _, he, _⟩ := drnMov_type HR2.out j hj
              exact (Array.getElem?_eq_some_iff.1 he).1
            exact (hg8.block j (by simp; omega) (fun e => HI3.out j e.symm hj)).trans (Below.heap_alloc W _ _ hjl)
          have hn8 : ∀ j, (Value.slice (some ⟨g8, 0, none⟩) ((planF 0 pre).length + 1) c8).ownBlock = some j → ¬ DBlk ws2.heap.size (wr.heap.size + 1 + 1) v j := by
            intro j hj hD
            obtain ⟨cs, t, fr, he, hte⟩ := drnMov_type HR2.out j hD
            exact own_ne_type hown8 ((hsame j hD).trans he) hte hj
          have hg8o : g8 ≠ wr.heap.size := by
            rintro rfl
            exact own_ne_type hown8 hBo8 (by decide) rfl
          have hkeep : KeepsOthers W w8 := (KeepsOthers.alloc W _).trans (KeepsOthers.of_grownBy hg8 (fun j o hj ho => by
            have := HO2.out.alloc (.cells (rowMov (x.1, x.2.1, sumN pre, x.2.2)).toArray 33)
            obtain ⟨_, h⟩ := this
            rcases h with ⟨rfl, _⟩ | ⟨g, cap, cur, rfl, _, hh, _⟩
            · simp [Value.ownBlock] at hj
            · simp [Value.ownBlock] at hj; subst hj; rw [show (rowMov (x.1, x.2.1, sumN pre, x.2.2)).toArray = #[Value.int .u64 x.1, .int .i64 x.2.1, .int .i64 (sumN pre), .int .i64 x.2.2] from rfl] at hh; rw [hh] at ho; cases ho; rfl))
          have hB8 : Below w.heap.size w w8 := (HB4.out.alloc hWs _).grown hg8 (by simp; omega) (fun j hj => (HO2.out.lt j hj).1)
          obtain ⟨w9, hw9⟩ : ∃ w9 : World, w9 = w8.setCell ⟨wr.heap.size, 0, none⟩ (.slice (some ⟨g8, 0, none⟩) ((planF 0 pre).length + 1) c8) := ⟨_, rfl⟩
          have hset := fun j (hj : j ≠ wr.heap.size) => Below.heap_setCell w8 ⟨wr.heap.size, 0, none⟩ (.slice (some ⟨g8, 0, none⟩) ((planF 0 pre).length + 1) c8) j hj
          have hBo9 : w9.heap[wr.heap.size]? = some (.cells #[.slice (some ⟨g8, 0, none⟩) ((planF 0 pre).length + 1) c8] 28 (0, 0)) := by rw [hw9]; exact heap_setCell_same w8 wr.heap.size 0 _ _ _ hBo8
          have hBe9 : w9.heap[wr.heap.size + 1]? = some (.cells #[.int .i64 (sumN pre)] 3 (0, 0)) := by rw [hw9]; exact (hset _ (by omega)).trans hBe8
          have hce9 := cell_of_row w9 (wr.heap.size + 1) 0 _ _ _ hBe9
          have hfe9 := frozen_of_row w9 (wr.heap.size + 1) 0 _ _ hBe9
          simp only [List.getElem?_toArray, List.getElem?_cons_zero] at hco8 hce9
          have hce8 := cell_of_row w8 (wr.heap.size + 1) 0 _ _ _ hBe8
          have hfe8 := frozen_of_row w8 (wr.heap.size + 1) 0 _ _ hBe8
          simp only [List.getElem?_toArray, List.getElem?_cons_zero] at hce8
          have hcv8 := fun i => cell_of_row w8 Bv i _ _ _ (show w8.heap[Bv]? = some (.cells #[.int .u64 x.1, .int .i64 x.2.1, .int .i64 x.2.2] 26 (0, 0)) from by
            have hBvl := (Array.getElem?_eq_some_iff.1 h5).1
            exact (hg8.block _ (by simp; omega) (fun e => own_ne_type HO2.out h5 (by decide) e.symm)).trans ((Below.heap_alloc W _ _ hBvl).trans h5))
          have hneB : ¬ Bv = wr.heap.size := by omega
          have hneB' : ¬ wr.heap.size = Bv := by omega
          have hcv9 := fun i => cell_of_row w9 Bv i _ _ _ (show w9.heap[Bv]? = some (.cells #[.int .u64 x.1, .int .i64 x.2.1, .int .i64 x.2.2] 26 (0, 0)) from by
            have hBvl := (Array.getElem?_eq_some_iff.1 h5).1
            rw [hw9]
            refine (hset _ (by omega)).trans ((hg8.block _ (by simp; omega) (fun e => own_ne_type HO2.out h5 (by decide) e.symm)).trans ((Below.heap_alloc W _ _ hBvl).trans h5)))
          have FIN9 := Lib.hid (FIN.out w9 (.slice (some ⟨g8, 0, none⟩) ((planF 0 pre).length + 1) c8) (by rw [hw9]; exact hkeep.trans (KeepsOthers.setCell w8 _ _)) hBo9 hBe9 (by
              rw [HPS.out, List.length_append, List.map_append, List.flatten_append]
              have e2 : ([(x.1, x.2.1, sumN pre, x.2.2)].map rowMov).flatten = rowMov (x.1, x.2.1, sumN pre, x.2.2) := by simp
              rw [e2]
              obtain ⟨g1, g2⟩ := hown8
              rcases g2 with ⟨g2, _⟩ | ⟨g', cap', cur, g3, g4, g5, g6⟩
              · cases g2
              · simp only [Value.slice.injEq, Option.some.injEq, Addr.mk.injEq, and_true, true_and] at g3
                obtain ⟨rfl, rfl⟩ := g3
                exact ⟨g1, .inr ⟨g8, c8, cur, rfl, g4, by rw [hw9]; exact (hset _ hg8o).trans g5, g6⟩⟩) hn8 (by rw [hw9]; exact hB8.setCell (p := ⟨wr.heap.size, 0, none⟩) (by simp; omega) _) (fun j hj => by
              rw [hw9]
              exact (hset _ (fun e => by rw [e] at hj; exact HBOS.out hj)).trans (hsame j hj)))
          clear hsame hn8 hkeep hB8 hown8 hBo8 hBo9 hBe9 hBe8 hg8 hi hz0 hz1 hz2 hne1 hne2 hco hfo hcv hset hg8o hce hfe
          subst hw9
          gi_wp2
          exact FIN9.out
      case done =>
        rintro D ys W hD rfl ⟨⟨v', h1, h2, h3⟩, h4e, h4⟩ _ hK
        have hco := cell_of_row W wr.heap.size 0 _ _ _ h1
        simp only [List.getElem?_toArray, List.getElem?_cons_zero] at hco
        have HO2 := Lib.hid h2
        have HB4 := Lib.hid h4
        have HKD := Lib.hid hK
        clear h1 h2 h3 h4 h4e hK
        gi_wp2
        refine ⟨by simp, .inl ⟨_, _, rfl, run_takeDeferred HKD.out, ?_⟩⟩
        refine ⟨_, results_tmp2 rfl _ _ _, v', rfl, ?_, HB4.out.trans (belowK_b (w := w) (Nat.le_refl _) W D _ _ (by have := HB6.out.size; omega) HKD.out rfl rfl)⟩
        have := ownsRow_putObj HO2.out (.deferred none) HKD.out rfl
        rw [HT.out] at this
        exact this
      case stop =>
        intro D c pre W _ h _ _
        exact h.elim
end Go.Proofs.Ytmipfmeafbeegaa
