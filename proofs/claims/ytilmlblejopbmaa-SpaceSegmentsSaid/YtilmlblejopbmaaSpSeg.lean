/- Contract of space.Segments. -/
import Derived.Test.YtilmlblejopbmaaSpSegPure
import Derived.Test.YtilmlblejopbmaaSpLay
namespace Go.Proofs.Ytilmlblejopbmaa
open Go.RowKit
set_option linter.unusedVariables false

set_option maxRecDepth 100000 in
set_option maxHeartbeats 8000000 in
theorem segments_any (n s g : Int) (G : Nat) (h1 : 256 ≤ n) (h2 : n ≤ 65536) (hs : s = (n - 13) / 8) (hg : g = (n - (13 + 3 * s)) / 32) (hG : g = (G : Int)) (A : Option Addr) (m c : Nat) (xs : List Ext) (w : World) (hm : xs.length = m) (h : Rd w A ((xs.map rowExt).flatten)) (hw : ∀ x ∈ xs, (Lit.int .u64 x.1).wf = true) (hc : checkE (g * 31) xs = true) :
    Calls Try.prog 20 #[.agg #[.int .i64 n, .int .i64 3, .int .i64 13, .int .i64 s, .int .i64 (13 + s), .int .i64 (13 + 2 * s), .int .i64 s, .int .i64 (13 + 3 * s), .int .i64 g], .slice A m c] w fun e w' => ∃ v outs, e = .returned v ∧ outs.length = G ∧ (∀ o ∈ outs, 0 ≤ o ∧ o ≤ 31) ∧ sumI outs = sumN xs ∧ w'.ownsRow w.heap.size 3 1 v G (ints outs) ∧ Below w.heap.size w w' := by
  have hmm := chain_small hc
  have C1 := Lib.hid (fun w1 => plan_ok n s g w1 h1 h2 hs hg)
  have C2 := Lib.hid (fun w1 => capacity_any n 3 13 s (13 + s) (13 + 2 * s) s (13 + 3 * s) g w1 (by omega) (by omega))
  have C3 := Lib.hid (fun (w1 : World) (hb : Below w.heap.size w w1) => by have := check_any (g * 31) A m c xs w1 hm (h.kept hb) (by omega) hw; rw [hc] at this; exact this)
  have hcap := check_cap hc
  have HCH := Lib.hid (chainE hc)
  have HONE := Lib.hid (checkE_all hc)
  have HN := Lib.hid hm
  have HR := Lib.hid h
  have hG2 : G ≤ 3000 := by omega
  obtain ⟨i0, hi, hz0, hz1, hz2⟩ := info_parts info_int
  have ln := fun w => lay_neq w n 3 13 s (13 + s) (13 + 2 * s) s (13 + 3 * s) g
  have e1 : errE true = 0 := rfl
  clear hm h hw hc hs hg
  subst hG
  obtain ⟨W2, hW2⟩ : ∃ W2 : World, W2 = w.alloc (.cells #[.int .i64 n, .int .i64 3, .int .i64 13, .int .i64 s, .int .i64 (13 + s), .int .i64 (13 + 2 * s), .int .i64 s, .int .i64 (13 + 3 * s), .int .i64 (G : Int)] 38) := ⟨_, rfl⟩
  have HB2 : Hid (Below w.heap.size w W2) := by rw [hW2]; exact Lib.hid (below1 _ _)
  have HL2 : Hid (W2.heap[w.heap.size]? = some (.cells #[.int .i64 n, .int .i64 3, .int .i64 13, .int .i64 s, .int .i64 (13 + s), .int .i64 (13 + 2 * s), .int .i64 s, .int .i64 (13 + 3 * s), .int .i64 (G : Int)] 38 (0, 0))) := by rw [hW2]; exact Lib.hid (heap_alloc_new _ _)
  have HZ2 : Hid (W2.heap.size = w.heap.size + 1) := by rw [hW2]; exact Lib.hid (by simp)
  have hc0 := fun i => cell_of_row W2 w.heap.size i _ _ _ HL2.out
  go_enter Try.func20, Try.ntmps20
  go_upto_region 1 with fail
  rw [← hW2]
  clear hW2
  go_wp2_with fail
  refine (C1.out _).mono ?_
  rintro e w3 ⟨rfl, hb3⟩
  have HB3 := Lib.hid (HB2.out.trans (hb3.mono HB2.out.size))
  have HL3 := Lib.hid ((hb3.block w.heap.size (by have := HZ2.out; omega)).trans HL2.out)
  have hz3 : w.heap.size < w3.heap.size := (Array.getElem?_eq_some_iff.1 HL3.out).1
  have hc3 := fun i => cell_of_row w3 w.heap.size i _ _ _ HL3.out
  clear hb3 hc0
  go_wp2_with fail
  refine (C2.out _).mono ?_
  rintro e w4 ⟨rfl, hb4⟩
  have HB4 := Lib.hid ((HB3.out.alloc HB3.out.size _).trans (hb4.mono (Nat.le_trans HB3.out.size (by simp))))
  have HL4 := Lib.hid ((hb4.block w.heap.size (by simp; omega)).trans ((Below.heap_alloc w3 _ _ hz3).trans HL3.out))
  have hc4 := fun i => cell_of_row w4 w.heap.size i _ _ _ HL4.out
  clear hb4 hc3
  go_wp2_with fail
  refine (C3.out _ HB4.out).mono ?_
  rintro e w5 ⟨rfl, hb5⟩
  have hz4 : w.heap.size < w4.heap.size := (Array.getElem?_eq_some_iff.1 HL4.out).1
  have HB5 := Lib.hid (HB4.out.trans (hb5.mono HB4.out.size))
  have HL5 := Lib.hid ((hb5.block w.heap.size hz4).trans HL4.out)
  have hc5 := fun i => cell_of_row w5 w.heap.size i _ _ _ HL5.out
  clear hb5 hc4 ln
  go_wp2_with (at_make; go_must (refine wpList_make_full _ rfl _ _ 42 rfl w5.heap.size 3 i0 (.int .i64 0) 1 Try.underlying42 hi hz0 hz1 .i64 .i64 (G : Int) (G : Int) G rfl rfl rfl rfl (by rw [hz2]; omega) (by unfold maxLen; omega) (Nat.le_refl _) ?_))
  intro w6 hown6 hg6
  rw [toList_madeCells_one, show List.replicate G (Value.int .i64 0) = ints (List.replicate G 0) by simp [ints]] at hown6
  have HO6 := Lib.hid hown6
  have HB6 : Hid (Below w5.heap.size w5 w6) := Lib.hid ((Below.refl _ _).grown hg6 (Nat.le_refl _) (fun k e => by cases e))
  clear hown6 hg6 hc5 e1
  go_wp2_with fail
  go_loopw [36] (fun i wr => ∃ (k en : Nat) (outs : List Int), k ≤ m ∧ i = .int .i64 k ∧ outs.length = G ∧ Hid (Inv en outs) ∧ Hid (Chain (en : Int) (xs.drop k)) ∧ Hid (sumI outs = sumN (xs.take k)) ∧ Hid (wr.ownsRow w5.heap.size 3 1 (.slice (some ⟨w5.heap.size, 0, none⟩) G G) G (ints outs)) ∧ Hid (Below w5.heap.size w5 wr)) (fun i _ => m - (intOf i).toNat)
  case atStart => exact ⟨0, 0, _, by omega, rfl, by simp, Lib.hid (Inv.zero G), HCH, Lib.hid (by rw [sumI_zero]; rfl), HO6, HB6⟩
  case round =>
    obtain ⟨wo, hwo⟩ : ∃ wo : World, wo = wr := ⟨_, rfl⟩
    subst hwo
    obtain ⟨k, en, outs, hk, rfl, hol, HI, HC, HS, HO, HB⟩ := hrel
    by_cases hlt : k < m
    · have hkx : k < xs.length := by have := HN.out; omega
      have hRx := (HR.out.kept HB5.out).kept HB.out
      obtain ⟨b, o, rfl, hrow⟩ := hRx.at_row (extRow_len xs) (by decide) (i := k) (r := rowExt xs[k]) (by simp [List.getElem?_eq_getElem hkx])
      have hch := HC.out
      rw [List.drop_eq_getElem_cons hkx] at hch
      obtain ⟨q1, q2, q3, q4, q5⟩ := hch
      have hone := (oneB_iff _ _ _ _).1 (HONE.out _ (List.getElem_mem hkx))
      have HSS := Lib.hid (show sumN (xs.take (k + 1)) = sumN (xs.take k) + xs[k].2.2 by rw [List.take_add_one, List.getElem?_eq_getElem hkx, sumN_append]; simp [sumN])
      have c0 := hrow 0 _ rfl
      have c1 := hrow 1 _ rfl
      have c2 := hrow 2 _ rfl
      simp only [Nat.add_zero] at c0
      have b1 : (0 : Int) ≤ (k : Int) ∧ (k : Int) < (m : Int) := by omega
      clear hrow hRx
      generalize xs[k] = x at *
      obtain ⟨xs1, xa, xn⟩ := x
      simp only at q1 q2 q3 q4 q5 hone HSS c0 c1 c2
      obtain ⟨a, rfl⟩ : ∃ a : Nat, xa = (a : Int) := ⟨xa.toNat, by omega⟩
      obtain ⟨l, rfl⟩ : ∃ l : Nat, xn = (l : Int) := ⟨xn.toNat, by omega⟩
      have HC2 : Hid (Chain ((a + l : Nat) : Int) (xs.drop (k + 1))) := Lib.hid (by rw [show ((a + l : Nat) : Int) = (a : Int) + (l : Int) by omega]; exact q5)
      have HIa := Lib.hid (HI.out.mono (show en ≤ a by omega))
      have ha1 : a + l ≤ G * 31 := by omega
      have ha2 : a + l ≤ 65536 := by omega
      have hz := HB.out.size
      have hgl : w5.heap.size < wo.heap.size := (HO.out.lt w5.heap.size rfl).2
      have HBX : Hid ((wo.alloc (.cells #[.int .u64 xs1, .int .i64 (a : Int), .int .i64 (l : Int)] 28)).heap[wo.heap.size]? = some (.cells #[.int .u64 xs1, .int .i64 (a : Int), .int .i64 (l : Int)] 28 (0, 0))) := Lib.hid (heap_alloc_new _ _)
      have HOb := Lib.hid (HO.out.alloc (.cells #[.int .u64 xs1, .int .i64 (a : Int), .int .i64 (l : Int)] 28))
      have HBb := Lib.hid (HB.out.alloc hz (.cells #[.int .u64 xs1, .int .i64 (a : Int), .int .i64 (l : Int)] 28))
      clear q1 q2 q3 q4 q5 hone HC HI
      go_wp2_with fail
      go_loopw [10] (fun t wr => ∃ (p : Nat) (outs' : List Int), a ≤ p ∧ p ≤ a + l ∧ t = .int .i64 p ∧ outs'.length = G ∧ Hid (Inv p outs') ∧ Hid (sumI outs' = sumN (xs.take k) + ((p : Int) - (a : Int))) ∧ Hid (wr.heap[wo.heap.size]? = some (.cells #[.int .u64 xs1, .int .i64 (a : Int), .int .i64 (l : Int)] 28 (0, 0))) ∧ Hid (wr.ownsRow w5.heap.size 3 1 (.slice (some ⟨w5.heap.size, 0, none⟩) G G) G (ints outs')) ∧ Hid (Below w5.heap.size w5 wr)) (fun t _ => a + l - (intOf t).toNat)
      case atStart => exact ⟨a, outs, by omega, by omega, rfl, hol, HIa, Lib.hid (by rw [HS.out]; omega), HBX, HOb, HBb⟩
      case round =>
        obtain ⟨wi, hwi⟩ : ∃ wi : World, wi = wr := ⟨_, rfl⟩
        subst hwi
        obtain ⟨p, outs', hp1, hp2, rfl, hol', HI', HS', HX', HO', HB'⟩ := hrel
        have hcx := fun i => cell_of_row wi wo.heap.size i _ _ _ HX'.out
        by_cases hlp : p < a + l
        · have hpd : p / 31 < outs'.length := by omega
          have hus := HO'.out.cellAt (p / 31) (by omega)
          rw [ints_at outs' (p / 31) hpd] at hus
          have hfz := HO'.out.frozenAt (p / 31)
          have hbd := HI'.out (p / 31) hpd
          have HI2 := Lib.hid (HI'.out.step hpd)
          have HS2 := Lib.hid (sumI_set outs' (p / 31) (outs'[p / 31] + 1) hpd)
          have hpb : (0 : Int) ≤ ((p / 31 : Nat) : Int) ∧ ((p / 31 : Nat) : Int) < (G : Int) := by omega
          generalize outs'[p / 31] = u at *
          obtain ⟨j, hj⟩ : ∃ j, j = p / 31 := ⟨_, rfl⟩
          have HJ := Lib.hid hj
          rw [← hj] at hus hfz HI2 HS2 hpb
          have hu1 : 0 ≤ u ∧ u ≤ 31 := by omega
          have hq : ((p : Int)).tdiv 31 = (j : Int) := by rw [hj, Int.tdiv_eq_ediv_of_nonneg (by omega)]; omega
          have hlti : (p : Int) < (a : Int) + (l : Int) := by omega
          clear hpd hbd hj
          go_wp2
          go_roundw
          case rel => exact ⟨p + 1, outs'.set j (u + 1), by omega, by omega, by go_num, by simpa using hol', HI2, Lib.hid (by rw [HS2.out, HS'.out]; omega), Lib.hid ((Below.heap_setCell wi ⟨w5.heap.size, j, none⟩ _ wo.heap.size (by show wo.heap.size ≠ w5.heap.size; omega)).trans HX'.out), Lib.hid (by rw [← ints_set]; exact (HO'.out.stored j (.int .i64 (u + 1))).1), Lib.hid (HB'.out.setCell (p := ⟨w5.heap.size, j, none⟩) (Nat.le_refl _) _)⟩
          case measure => simp [intOf]; omega
        · obtain rfl : p = a + l := by omega
          have hnl : ¬ ((a + l : Nat) : Int) < (a : Int) + (l : Int) := by omega
          go_wp2
          go_roundw
          case rel => exact ⟨k + 1, a + l, outs', by omega, by go_num, hol', HI', HC2, Lib.hid (by rw [HS'.out, HSS.out]; omega), HO', HB'⟩
          case measure => simp [intOf]; omega
    · obtain rfl : k = m := by omega
      have HT : Hid (sumI outs = sumN xs) := Lib.hid (by rw [HS.out, List.take_of_length_le (by have := HN.out; omega)])
      go_wp2
      go_ret
      refine ⟨_, outs, rfl, hol, ?_, HT.out, own_mono HO.out HB5.out.size, HB5.out.trans (HB.out.mono HB5.out.size)⟩
      intro o ho
      obtain ⟨j, hj, rfl⟩ := List.mem_iff_getElem.1 ho
      have := HI.out j hj
      exact ⟨this.1, this.2.1⟩
end Go.Proofs.Ytilmlblejopbmaa
