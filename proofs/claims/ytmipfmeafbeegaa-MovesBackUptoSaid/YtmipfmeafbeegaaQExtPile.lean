/- Contracts: the methods of a queue's pile: Len, Less. -/
import Derived.Test.YtmipfmeafbeegaaQExtVoc
import Derived.RegionTactic
import Derived.ChangeAlike
import Derived.Deep.RegionHeld3
import Derived.Deep.DeepCutAuto
import Derived.Outline
import Derived.StillTailTactics
namespace Go.Proofs.Ytmipfmeafbeegaa
open Go.RowKit
set_option linter.unusedVariables false

theorem below2 (w : World) (o p : Obj) : Below w.heap.size w ((w.alloc o).alloc p) := ((Below.refl _ _).alloc (Nat.le_refl _) _).alloc (by simp) _
theorem neq_func_nil {P : Program} {t : TypeId} {ps r : Array TypeId} {va : Bool} (h : P.underlying t = some (.func ps r va)) (f : Fn) (x y : Array Value) (w : World) : (binOp .neq t (.func f x y) .nilFunc).run P w = .ok (.bool true) w := by
  have hd : ∀ d : Nat, (Op.equalIn (d + 1) t (.func f x y) .nilFunc).run P w = .ok false w := fun d => by simp [Op.equalIn, run_underlying h]
  simp only [binOp]
  simp [Op.equal, Op.maxDepth, hd 9999]
theorem qExt_len (base : Nat) (w : World) (q : Nat) (v lf : Value) (l : List (Ext × Nat)) (tn : Nat) (h : QAtExt base w q v lf l tn) :
    Calls Try.prog 53 #[.pointer (some ⟨q, 0, none⟩)] w fun e w' => e = .returned (.int .i64 (l.length : Int)) ∧ w = w' := by
  have hc : w.cell? ⟨q, 0, none⟩ = some v := by rw [cell_of_row w q 0 _ _ _ h.blk]; rfl
  obtain ⟨A, c, rfl, _, _, _, _⟩ := own_rd h.own
  clear h
  go_enter Try.func53, Try.ntmps53
  go_wp2
  go_ret
  exact ⟨rfl, rfl⟩

set_option maxRecDepth 100000 in
set_option maxHeartbeats 4000000 in
theorem qExt_less (base : Nat) (less : Ext → Ext → Bool) (fn : Nat) (w : World) (q : Nat) (v : Value) (l : List (Ext × Nat)) (tn : Nat) (i j : Nat) (h : QAtExt base w q v (.func (.func fn) #[] #[]) l tn) (hi : i < l.length) (hj : j < l.length)
    (hE : ∀ args (w1 : World), (callFunc fn args).run Try.prog w1 = .ok (.enter fn args) w1)
    (hL : ∀ (x y : Ext) (w1 : World), Calls Try.prog fn #[.agg #[.int .u64 x.1, .int .i64 x.2.1, .int .i64 x.2.2], .agg #[.int .u64 y.1, .int .i64 y.2.1, .int .i64 y.2.2]] w1 fun e w' => e = .returned (.bool (less x y)) ∧ Below w1.heap.size w1 w') :
    Calls Try.prog 73 #[.pointer (some ⟨q, 0, none⟩), .int .i64 (i : Int), .int .i64 (j : Int)] w fun e w' => e = .returned (.bool (ltT less (l.getD i zeroExt) (l.getD j zeroExt))) ∧ Below w.heap.size w w' := by
  obtain ⟨g, cap, cur, rfl, hg, hcur, hnc, hcm, hsz, hflat⟩ := ownExt_at h.own (by intro e; rw [e] at hi; simp at hi)
  obtain ⟨A, c, hA, _, _, hrd, _⟩ := own_rd h.own
  obtain ⟨rfl, rfl⟩ : A = some ⟨g, 0, none⟩ ∧ c = cap := by simpa using hA.symm
  have hri := thExt_at hrd i hi
  have hrj := thExt_at hrd j hj
  have hq0 : w.cell? ⟨q, 0, none⟩ = some (.slice (some ⟨g, 0, none⟩) l.length c) := by rw [cell_of_row w q 0 _ _ _ h.blk]; rfl
  have hq1 : w.cell? ⟨q, 1, none⟩ = some (.func (.func fn) #[] #[]) := by rw [cell_of_row w q 1 _ _ _ h.blk]; rfl
  have hlt : q < w.heap.size := h.lt
  have hltg : g < w.heap.size := (Array.getElem?_eq_some_iff.1 hcur).1
  have b1 : (0 : Int) ≤ (i : Int) ∧ (i : Int) < (l.length : Int) := by omega
  have b2 : (0 : Int) ≤ (j : Int) ∧ (j : Int) < (l.length : Int) := by omega
  clear hA hcur hflat hrd hsz h hg hnc hcm hi hj
  generalize l.getD i zeroExt = x at *
  generalize l.getD j zeroExt = y at *
  generalize l.length = n at *
  have ci0 := hri 0 _ rfl
  have cj0 := hrj 0 _ rfl
  have ci1 := hri 1 _ rfl
  have cj1 := hrj 1 _ rfl
  have ci2 := hri 2 _ rfl
  have cj2 := hrj 2 _ rfl
  have ci3 := hri 3 _ rfl
  have cj3 := hrj 3 _ rfl
  simp only [Nat.add_zero] at ci0 cj0
  clear hri hrj
  have HL := Lib.hid hL
  clear hL
  have qn := fun f x y w => neq_func_nil Try.underlying54 f x y w
  go_enter Try.func73, Try.ntmps73
  go_upto_region 1 with fail
  go_cut [7, 8] (fun s7 s8 wx => ∃ (W : World) (a b : Nat), W = wx ∧ s7 = .pointer (some ⟨a, 0, none⟩) ∧ s8 = .pointer (some ⟨b, 0, none⟩) ∧ wx.heap[a]? = some (.cells #[.int .u64 x.1.1, .int .i64 x.1.2.1, .int .i64 x.1.2.2, .int .i64 (x.2 : Int)] 76 (0, 0)) ∧ wx.heap[b]? = some (.cells #[.int .u64 y.1.1, .int .i64 y.1.2.1, .int .i64 y.1.2.2, .int .i64 (y.2 : Int)] 76 (0, 0)) ∧ Below w.heap.size w wx)
  case first =>
    go_region
    all_goals
      go_wp2
      go_meet
      refine ⟨_, _, _, rfl, rfl, rfl, ?_, ?_, (below2 w _ _).drew⟩
      · first | exact heap_alloc2_old w _ _ | exact heap_alloc2_new w _ _
      · first | exact heap_alloc2_old w _ _ | exact heap_alloc2_new w _ _
  case rest =>
    obtain ⟨wx, a, b, hwx, rfl, rfl, ha, hb, hB⟩ := hcut
    subst hwx
    have HB := Lib.hid hB
    have HA := Lib.hid ha
    have HBb := Lib.hid hb
    have hq1' := (hB.cell (p := ⟨q, 1, none⟩) hlt).trans hq1
    have hca := fun i => cell_of_row wx a i _ _ _ ha
    have hcb := fun i => cell_of_row wx b i _ _ _ hb
    clear hB ha hb hq0 hq1 ci0 cj0 ci1 cj1 ci2 cj2 ci3 cj3
    cases hxy : less x.1 y.1 with
    | true =>
      have C := Lib.hid (fun w1 => by have := HL.out x.1 y.1 w1; rw [hxy] at this; exact this)
      have HX := Lib.hid hxy
      clear hxy
      go_wp2_with fail
      go_still_tail 8, (by kernel_rfl)
      change wpList _ _ _ _ _ wx.drew
      go_wp2_with fail
      refine (C.out _).mono ?_
      rintro e w2 ⟨rfl, hb2⟩
      have HB2 := Lib.hid (HB.out.drew.trans (hb2.mono HB.out.drew.size))
      clear hb2
      go_wp2
      go_ret
      exact ⟨by unfold ltT; rw [HX.out]; rfl, HB2.out⟩
    | false =>
      have C := Lib.hid (fun w1 => by have := HL.out x.1 y.1 w1; rw [hxy] at this; exact this)
      have HX := Lib.hid hxy
      clear hxy
      go_wp2_with fail
      go_still_tail 8, (by kernel_rfl)
      change wpList _ _ _ _ _ wx.drew
      go_wp2_with fail
      refine (C.out _).mono ?_
      rintro e w2 ⟨rfl, hb2⟩
      have HB2 := Lib.hid (HB.out.drew.trans (hb2.mono HB.out.drew.size))
      have hlt2 := HB.out.size
      have hq1'' := (hb2.cell (p := ⟨q, 1, none⟩) (by simp; omega)).trans hq1'
      have hla := (Array.getElem?_eq_some_iff.1 HA.out).1
      have hlb := (Array.getElem?_eq_some_iff.1 HBb.out).1
      have hca2 := fun i => (hb2.cell (p := ⟨a, i, none⟩) hla).trans (hca i)
      have hcb2 := fun i => (hb2.cell (p := ⟨b, i, none⟩) hlb).trans (hcb i)
      have hs2 : wx.heap.size ≤ w2.heap.size := hb2.size
      clear hb2 hca hcb hq1'
      cases hyx : less y.1 x.1 with
      | true =>
        have C2 := Lib.hid (fun w1 => by have := HL.out y.1 x.1 w1; rw [hyx] at this; exact this)
        have HY := Lib.hid hyx
        clear hyx
        go_wp2_with fail
        go_still_tail 8, (by kernel_rfl)
        change wpList _ _ _ _ _ w2.drew
        go_wp2_with fail
        refine (C2.out _).mono ?_
        rintro e w3 ⟨rfl, hb3⟩
        have HB3 := Lib.hid (HB2.out.drew.trans (hb3.mono HB2.out.drew.size))
        clear hb3
        go_wp2
        go_ret
        exact ⟨by unfold ltT; rw [HX.out, HY.out]; rfl, HB3.out⟩
      | false =>
        have C2 := Lib.hid (fun w1 => by have := HL.out y.1 x.1 w1; rw [hyx] at this; exact this)
        have HY := Lib.hid hyx
        clear hyx
        go_wp2_with fail
        go_still_tail 8, (by kernel_rfl)
        change wpList _ _ _ _ _ w2.drew
        go_wp2_with fail
        refine (C2.out _).mono ?_
        rintro e w3 ⟨rfl, hb3⟩
        have HB3 := Lib.hid (HB2.out.drew.trans (hb3.mono HB2.out.drew.size))
        have hs3 : w2.heap.size ≤ w3.heap.size := hb3.size
        have hca3 := fun i => (hb3.cell (p := ⟨a, i, none⟩) (by show a < w2.heap.size; omega)).trans (hca2 i)
        have hcb3 := fun i => (hb3.cell (p := ⟨b, i, none⟩) (by show b < w2.heap.size; omega)).trans (hcb2 i)
        clear hb3 hca2 hcb2
        go_wp2
        go_ret
        exact ⟨by unfold ltT; rw [HX.out, HY.out]; simp, HB3.out⟩
end Go.Proofs.Ytmipfmeafbeegaa
