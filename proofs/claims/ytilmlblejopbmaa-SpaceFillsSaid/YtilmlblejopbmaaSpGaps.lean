/- Contracts of space.Gaps, space.Dense. -/
import Derived.Test.YtilmlblejopbmaaSpGapsPure
import Derived.Test.YtilmlblejopbmaaSpAdd2
namespace Go.Proofs.Ytilmlblejopbmaa
open Go.RowKit
set_option linter.unusedVariables false

set_option maxRecDepth 100000 in
set_option maxHeartbeats 1000000 in
theorem dense_any (A : Option Addr) (n c : Nat) (xs : List Ext) (w : World) (hn : xs.length = n) (h : Rd w A ((xs.map rowExt).flatten)) (hcap : n ≤ 5864062014700) :
    Calls Try.prog 17 #[.slice A n c] w fun e w' => e = .returned (.bool (decide (tailE xs = liveE xs))) ∧ Below w.heap.size w w' := by
  have C1 := Lib.hid (tail_any A n c xs w hn h (by omega))
  have C2 := Lib.hid (fun (w1 : World) (hb : Below w.heap.size w w1) => live_any A n c xs w1 hn (h.kept hb) (by omega))
  clear hn h
  generalize tailE xs = T at *
  generalize liveE xs = L at *
  go_enter Try.func17, Try.ntmps17
  go_wp2_with fail
  refine C1.out.mono ?_
  rintro e w1 ⟨rfl, hb1⟩
  have HB1 := Lib.hid hb1
  clear hb1
  go_wp2_with fail
  refine (C2.out _ HB1.out).mono ?_
  rintro e w2 ⟨rfl, hb2⟩
  have HB2 := Lib.hid (HB1.out.trans (hb2.mono HB1.out.size))
  clear hb2
  go_wp2
  go_ret
  exact ⟨bool_ (by simp), HB2.out⟩
set_option maxRecDepth 100000 in
set_option maxHeartbeats 2000000 in
theorem gaps_any (A : Option Addr) (n c : Nat) (xs : List Ext) (w : World) (hn : xs.length = n) (h : Rd w A ((xs.map rowExt).flatten)) (hcap : n ≤ 5864062014700) (hw : ∀ x ∈ xs, (Lit.int .u64 x.1).wf = true) (hc : checkE 65536 xs = true) :
    Calls Try.prog 16 #[.slice A n c] w fun e w' => ∃ v, e = .returned v ∧ w'.ownsRow w.heap.size 28 3 v (gapsF 0 xs).length (((gapsF 0 xs).map rowExt).flatten) ∧ Below w.heap.size w w' := by
  have C1 := Lib.hid (by have := check_any 65536 A n c xs w hn h (by omega) hw; rw [hc] at this; exact this)
  have HC := Lib.hid (chainE hc)
  have HR := Lib.hid h
  have HN := Lib.hid hn
  clear hn h hw hc
  go_enter Try.func16, Try.ntmps16
  go_wp2_with fail
  refine C1.out.mono ?_
  rintro e w1 ⟨rfl, hb1⟩
  have e1 : errE true = 0 := rfl
  have HB1 := Lib.hid hb1
  clear hb1
  go_wp2_with fail
  clear e1
  go_loopw [3, 4, 12] (fun v s i wr => ∃ (k : Nat) (en : Int) (gs : List Ext), k ≤ n ∧ i = .int .i64 k ∧ s = .int .i64 en ∧ 0 ≤ en ∧ en ≤ 65536 ∧ gs.length ≤ k ∧ Hid (gapsF 0 xs = gs ++ gapsF en (xs.drop k)) ∧ Hid (Chain en (xs.drop k)) ∧ Hid (wr.ownsRow w.heap.size 28 3 v gs.length ((gs.map rowExt).flatten)) ∧ Hid (Below w.heap.size w wr)) (fun _ _ i _ => n - (intOf i).toNat)
  case atStart => exact ⟨0, 0, [], by omega, rfl, rfl, by omega, by omega, by simp, Lib.hid rfl, HC, Lib.hid (World.ownsRow_nil _ _ _ _), HB1⟩
  case round =>
    obtain ⟨wo, hwo⟩ : ∃ wo : World, wo = wr := ⟨_, rfl⟩
    subst hwo
    obtain ⟨k, en, gs, hk, rfl, rfl, he1, he2, hgk, HG, HCh, HO, HB⟩ := hrel
    obtain ⟨A', c', rfl, _⟩ := own_sh HO.out
    by_cases hlt : k < n
    · have hkx : k < xs.length := by have := HN.out; omega
      obtain ⟨b, o, rfl, hrow⟩ := (HR.out.kept HB.out).at_row (extRow_len xs) (by decide) (i := k) (r := rowExt xs[k]) (by simp [List.getElem?_eq_getElem hkx])
      have hd : xs.drop k = xs[k] :: xs.drop (k + 1) := List.drop_eq_getElem_cons hkx
      have hch := HCh.out
      have hgg := HG.out
      rw [hd] at hch hgg
      have c0 := hrow 0 _ rfl
      have c1 := hrow 1 _ rfl
      have c2 := hrow 2 _ rfl
      simp only [Nat.add_zero] at c0
      have b1 : (0 : Int) ≤ (k : Int) ∧ (k : Int) < (n : Int) := by omega
      clear hrow hd HG HCh
      generalize xs[k] = x at *
      obtain ⟨h1, h2, h3, h4, h5⟩ := hch
      have HC2 := Lib.hid h5
      have hz := HB.out.size
      clear h5
      simp only [gapsF] at hgg
      by_cases hg : en < x.2.1
      · rw [if_pos hg] at hgg
        have HG2 : Hid (gapsF 0 xs = (gs ++ [(0, en, x.2.1 - en)]) ++ gapsF (x.2.1 + x.2.2) (xs.drop (k + 1))) := Lib.hid (by rw [hgg]; simp)
        have HM : Hid ((gs.map rowExt).flatten ++ rowExt (0, en, x.2.1 - en) = ((gs ++ [(0, en, x.2.1 - en)]).map rowExt).flatten) := Lib.hid (by simp)
        have HL : Hid ((gs ++ [((0 : Int), en, x.2.1 - en)]).length = gs.length + 1) := Lib.hid (by simp)
        clear hgg
        obtain ⟨wb, hwb⟩ : ∃ wb : World, wb = wo.alloc (.cells #[.int .u64 x.1, .int .i64 x.2.1, .int .i64 x.2.2] 28) := ⟨_, rfl⟩
        have HOb : Hid (wb.ownsRow w.heap.size 28 3 (.slice A' gs.length c') gs.length ((gs.map rowExt).flatten)) := by rw [hwb]; exact Lib.hid (HO.out.alloc _)
        have HBb : Hid (Below w.heap.size w wb) := by rw [hwb]; exact Lib.hid (HB.out.alloc hz _)
        have hblk : wb.heap[wo.heap.size]? = some (.cells #[.int .u64 x.1, .int .i64 x.2.1, .int .i64 x.2.2] 28 (0, 0)) := by rw [hwb]; exact heap_alloc_new _ _
        have hcb := fun i => cell_of_row wb wo.heap.size i _ _ _ hblk
        have hzb : wb.heap.size = wo.heap.size + 1 := by rw [hwb]; simp
        have HZB := Lib.hid hzb
        have hzb2 : w.heap.size ≤ wb.heap.size := by omega
        have HX := Lib.hid (fun (w8 : World) (hg8 : (wb.alloc (.cells #[.int .u64 0, .int .i64 en, .int .i64 (x.2.1 - en)] 28)).grownBy w8 (Value.slice A' gs.length c').ownBlock) => show w8.heap[wo.heap.size]? = some (.cells #[.int .u64 x.1, .int .i64 x.2.1, .int .i64 x.2.2] 28 (0, 0)) from
          (hg8.block wo.heap.size (by simp; omega) (fun e => by have := HO.out.lt wo.heap.size e.symm; omega)).trans ((Below.heap_alloc wb _ _ (by omega)).trans hblk))
        clear hblk hzb
        go_upto_region 8 with fail
        rw [← hwb]
        clear hwb c0 c1 c2
        go_wp2_with (at_builtin; go_must (refine wpList_append_rd rfl _ _ 22 rfl w.heap.size 28 (.agg #[.int .u64 0, .int .i64 0, .int .i64 0]) 3 24 Try.underlying22 infoE rfl (by decide) _ gs.length _ rfl (HOb.out.alloc _) (some ⟨wb.heap.size, 0, none⟩) 1 1 (rowExt (0, en, x.2.1 - en)) rfl (by simp) (by rfl) (rd_new _ _ _) (rowExt_one _) (by unfold maxLen; omega) (by omega) (by simp; omega) ?_))
        intro v8 w8 hown8 hg8
        rw [HM.out] at hown8
        have hx8 := HX.out w8 hg8
        have hc8 := fun i => cell_of_row w8 wo.heap.size i _ _ _ hx8
        have HB8 := Lib.hid (below_app (HBb.out.alloc hzb2 _) (by simp; omega) (HOb.out.alloc _) hg8)
        obtain ⟨A8, c8, rfl, _⟩ := own_sh hown8
        have HO8 := Lib.hid hown8
        clear hown8 hg8 hx8 hcb
        go_wp2
        go_roundw
        case rel => exact ⟨k + 1, x.2.1 + x.2.2, gs ++ [(0, en, x.2.1 - en)], by omega, by go_num, by go_num, by omega, by omega, by rw [HL.out]; omega, HG2, HC2, by rw [HL.out]; exact HO8, HB8⟩
        case measure => simp [intOf]; omega
      · rw [if_neg hg] at hgg
        have HG2 : Hid (gapsF 0 xs = gs ++ gapsF (x.2.1 + x.2.2) (xs.drop (k + 1))) := Lib.hid (by rw [hgg]; simp)
        clear hgg
        go_wp2
        go_roundw
        case rel => exact ⟨k + 1, x.2.1 + x.2.2, gs, by omega, by go_num, by go_num, by omega, by omega, by omega, HG2, HC2, Lib.hid (HO.out.alloc _), Lib.hid (HB.out.alloc hz _)⟩
        case measure => simp [intOf]; omega
    · obtain rfl : k = n := by omega
      have HE : Hid (gapsF 0 xs = gs) := Lib.hid (by
        have := HG.out
        rw [List.drop_of_length_le (by have := HN.out; omega)] at this
        simpa [gapsF] using this)
      go_wp2
      go_ret
      exact ⟨_, rfl, by rw [HE.out]; exact HO.out, HB.out⟩
end Go.Proofs.Ytilmlblejopbmaa
