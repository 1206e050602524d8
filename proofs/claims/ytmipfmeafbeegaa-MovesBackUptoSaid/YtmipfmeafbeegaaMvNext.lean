/- Contracts: moves.Next, the law's awake. -/
import Derived.Test.YtmipfmeafbeegaaMvPlan
import Derived.Test.YtmipfmeafbeegaaOMov
namespace Go.Proofs.Ytmipfmeafbeegaa
open Go.RowKit
set_option linter.unusedVariables false

/-- A plan, or the refusal. -/
def PlanAt (C : Int) (S : List Ext) (w : World) (e : Ending) (w' : World) : Prop :=
  (checkE C S = true → ∃ v, e = .returned (.tuple #[v, .int .i64 0]) ∧ w'.ownsRow w.heap.size 33 4 v (planF 0 S).length (((planF 0 S).map rowMov).flatten)) ∧
  (checkE C S = false → e = .returned (.tuple #[.slice none 0 0, .int .i64 11])) ∧ Below w.heap.size w w'
theorem plan_any (C : Int) (A : Option Addr) (n c : Nat) (xs : List Ext) (w : World) (hn : xs.length = n) (h : Rd w A ((xs.map rowExt).flatten)) (hcap : n ≤ 2000000000) (hw : ∀ x ∈ xs, (Lit.int .u64 x.1).wf = true) :
    Calls Try.prog 10 #[.int .i64 C, .slice A n c] w (PlanAt C (sortV lessE xs) w) := by
  cases hc : checkE C (sortV lessE xs) with
  | false =>
    refine (plan_bad C A n c xs w hn h hcap hw hc).mono ?_
    rintro e w' ⟨rfl, hb⟩
    exact ⟨fun q => (by rw [hc] at q; cases q), fun _ => rfl, hb⟩
  | true =>
    refine (plan_ok C A n c xs w hn h hcap hw hc).mono ?_
    rintro e w' ⟨v, rfl, ho, hb⟩
    exact ⟨fun _ => ⟨v, rfl, ho⟩, fun q => (by rw [hc] at q; cases q), hb⟩
def movE : Ext := (5, 4, 2)
set_option maxRecDepth 100000 in
set_option maxHeartbeats 2000000 in
theorem awake24 (w : World) : Calls Try.prog 13 #[] w fun e w' => e = .returned (.bool true) ∧ Below w.heap.size w w' := by
  have C1 := Lib.hid (fun (w1 : World) (A : Option Addr) (c : Nat) (h : Rd w1 A (([movE].map rowExt).flatten)) => plan_ok 10 A 1 c [movE] w1 rfl h (by omega) (by simp; decide) (by decide +kernel))
  have e1 : planF 0 (sortV lessE [movE]) = [(5, 4, 0, 2)] := by decide +kernel
  rw [e1] at C1
  clear e1
  obtain ⟨w0, hw0⟩ : ∃ w0 : World, w0 = w.alloc (.cells #[.int .u64 5, .int .i64 4, .int .i64 2] 26) := ⟨_, rfl⟩
  have hb0 : Below w.heap.size w w0 := by rw [hw0]; exact below1 _ _
  have hr0 : Rd w0 (some ⟨w.heap.size, 0, none⟩) (([movE].map rowExt).flatten) := by
    rw [hw0]; exact rd_new w [.int .u64 5, .int .i64 4, .int .i64 2] 26
  have HB0 := Lib.hid hb0
  have HR0 := Lib.hid hr0
  clear hb0 hr0
  go_enter Try.func13, Try.ntmps13
  go_wp2_with fail
  rw [← hw0]
  clear hw0
  refine (C1.out w0 _ 1 HR0.out).mono ?_
  rintro e w1 ⟨v, rfl, ho, hb⟩
  obtain ⟨A1, c1, rfl, hnc, hcm, hrd, _⟩ := own_rd ho
  obtain ⟨b, o, rfl, hrow⟩ := hrd.at_row (k := 4) (rows := [(5, 4, 0, 2)].map rowMov) (movRow_len _) (by decide) (i := 0) (r := rowMov (5, 4, 0, 2)) rfl
  have c0 := hrow 0 _ rfl
  have c1' := hrow 1 _ rfl
  have c2 := hrow 2 _ rfl
  have c3 := hrow 3 _ rfl
  simp only [Nat.zero_mul, Nat.add_zero] at c0 c1' c2 c3
  have HB1 := Lib.hid (HB0.out.trans (hb.mono HB0.out.size))
  clear ho hb hrd hrow
  go_wp2
  go_ret
  exact ⟨rfl, HB1.out⟩
theorem zeroMov (w : World) : (zeroValue 33).run Try.prog w = .ok (.agg #[.int .u64 0, .int .i64 0, .int .i64 0, .int .i64 0]) w := by kernel_rfl
def mov0 : Mov := (0, 0, 0, 0)
theorem set4 {B g t : Nat} {w W : World} {a0 a1 a2 a3 : Value} (b0 b1 b2 b3 : Value) (h : W.heap[g]? = some (.cells #[a0, a1, a2, a3] t (0, 0))) (hB : Below B w W) (hg : B ≤ g) :
    (((((W.setCell ⟨g, 0, none⟩ b0).setCell ⟨g, 1, none⟩ b1).setCell ⟨g, 2, none⟩ b2).setCell ⟨g, 3, none⟩ b3).heap[g]? = some (.cells #[b0, b1, b2, b3] t (0, 0))) ∧ Below B w ((((W.setCell ⟨g, 0, none⟩ b0).setCell ⟨g, 1, none⟩ b1).setCell ⟨g, 2, none⟩ b2).setCell ⟨g, 3, none⟩ b3) := by
  have h0 : _ = some (Obj.cells #[b0, a1, a2, a3] t (0, 0)) := heap_setCell_same _ g 0 _ _ b0 h
  have h1 : _ = some (Obj.cells #[b0, b1, a2, a3] t (0, 0)) := heap_setCell_same _ g 1 _ _ b1 h0
  have h2 : _ = some (Obj.cells #[b0, b1, b2, a3] t (0, 0)) := heap_setCell_same _ g 2 _ _ b2 h1
  have h3 : _ = some (Obj.cells #[b0, b1, b2, b3] t (0, 0)) := heap_setCell_same _ g 3 _ _ b3 h2
  exact ⟨h3, (((hB.setCell (p := ⟨g, 0, none⟩) hg _).setCell (p := ⟨g, 1, none⟩) hg _).setCell (p := ⟨g, 2, none⟩) hg _).setCell (p := ⟨g, 3, none⟩) hg _⟩
/-- The first of a plan's moves. -/
def NextAt (C : Int) (S : List Ext) (w : World) (e : Ending) (w' : World) : Prop :=
  e = .returned (.tuple #[.agg (rowMov (if checkE C S = true then (planF 0 S).headD mov0 else mov0)).toArray, .bool (checkE C S && !(planF 0 S).isEmpty), .int .i64 (errE (checkE C S))]) ∧ Below w.heap.size w w'
set_option maxRecDepth 100000 in
set_option maxHeartbeats 2000000 in
theorem next_any (C : Int) (A : Option Addr) (n c : Nat) (xs : List Ext) (w : World) (hn : xs.length = n) (h : Rd w A ((xs.map rowExt).flatten)) (hcap : n ≤ 2000000000) (hw : ∀ x ∈ xs, (Lit.int .u64 x.1).wf = true) :
    Calls Try.prog 12 #[.int .i64 C, .slice A n c] w (NextAt C (sortV lessE xs) w) := by
  obtain ⟨w0, hw0⟩ : ∃ w0 : World, w0 = w.alloc (.cells #[.int .u64 0, .int .i64 0, .int .i64 0, .int .i64 0] 33) := ⟨_, rfl⟩
  have hb0 : Below w.heap.size w w0 := by rw [hw0]; exact below1 _ _
  have hx0 : w0.heap[w.heap.size]? = some (.cells #[.int .u64 0, .int .i64 0, .int .i64 0, .int .i64 0] 33 (0, 0)) := by rw [hw0]; exact heap_alloc_new _ _
  have hz0 : w0.heap.size = w.heap.size + 1 := by rw [hw0]; simp
  have C1 := Lib.hid (plan_any C A n c xs w0 hn (h.kept hb0) hcap hw)
  have HB0 := Lib.hid hb0
  have HX0 := Lib.hid hx0
  have hpl : (planF 0 (sortV lessE xs)).length ≤ n := Nat.le_trans (planF_len _ _) (by rw [sortV_len, hn]; exact Nat.le_refl _)
  clear hn h hw hb0 hx0
  generalize sortV lessE xs = S at *
  cases hc : checkE C S with
  | false =>
    go_enter Try.func12, Try.ntmps12
    go_wp2_with fail
    rw [← hw0]
    clear hw0
    refine C1.out.mono ?_
    rintro e w1 ⟨_, he, hb⟩
    obtain rfl := he hc
    have hx1 := (hb.block w.heap.size (by omega)).trans HX0.out
    have hcx := fun i => cell_of_row w1 w.heap.size i _ _ _ hx1
    have hfx := fun i => frozen_of_row w1 w.heap.size i _ _ hx1
    have HX1 := Lib.hid hx1
    have HB1 := Lib.hid (HB0.out.trans (hb.mono (by omega)))
    have HCF := Lib.hid hc
    clear hb hx1 he hc
    go_wp2
    refine bodyPost_world (fun X => X.heap[w.heap.size]? = some (.cells #[.int .u64 0, .int .i64 0, .int .i64 0, .int .i64 0] 33 (0, 0)) ∧ Below w.heap.size w X) (set4 _ _ _ _ HX1.out HB1.out (Nat.le_refl _)) (fun X hX0 => ?_)
    have hXc := fun i => cell_of_row X w.heap.size i _ _ _ hX0.1
    have HL := Lib.hid hX0.2
    clear hX0 hcx hfx
    exact bodyPost_ret (v := .tuple #[.agg #[.int .u64 0, .int .i64 0, .int .i64 0, .int .i64 0], .bool false, .int .i64 11]) (by simp [results, Try.results12, go_sem, hXc]) rfl ⟨by simp [HCF.out, errE, rowMov, mov0], HL.out⟩
  | true =>
    cases hp : planF 0 S with
    | nil =>
      go_enter Try.func12, Try.ntmps12
      go_wp2_with fail
      rw [← hw0]
      clear hw0
      refine C1.out.mono ?_
      rintro e w1 ⟨he, _, hb⟩
      obtain ⟨v, rfl, ho⟩ := he hc
      rw [hp] at ho
      have HP := Lib.hid hp
      clear hp
      obtain ⟨A1, c1, rfl, _⟩ := own_sh ho
      have hx1 := (hb.block w.heap.size (by omega)).trans HX0.out
      have hcx := fun i => cell_of_row w1 w.heap.size i _ _ _ hx1
      have hfx := fun i => frozen_of_row w1 w.heap.size i _ _ hx1
      have HX1 := Lib.hid hx1
      have HB1 := Lib.hid (HB0.out.trans (hb.mono (by omega)))
      have HCF := Lib.hid hc
      clear hb hx1 he hc ho
      simp only [List.length_nil]
      go_wp2
      refine bodyPost_world (fun X => X.heap[w.heap.size]? = some (.cells #[.int .u64 0, .int .i64 0, .int .i64 0, .int .i64 0] 33 (0, 0)) ∧ Below w.heap.size w X) (set4 _ _ _ _ HX1.out HB1.out (Nat.le_refl _)) (fun X hX0 => ?_)
      have hXc := fun i => cell_of_row X w.heap.size i _ _ _ hX0.1
      have HL := Lib.hid hX0.2
      clear hX0 hcx hfx
      exact bodyPost_ret (v := .tuple #[.agg #[.int .u64 0, .int .i64 0, .int .i64 0, .int .i64 0], .bool false, .int .i64 0]) (by simp [results, Try.results12, go_sem, hXc]) rfl ⟨by simp [HCF.out, HP.out, errE, rowMov, mov0], HL.out⟩
    | cons m ms =>
      go_enter Try.func12, Try.ntmps12
      go_wp2_with fail
      rw [← hw0]
      clear hw0
      refine C1.out.mono ?_
      rintro e w1 ⟨he, _, hb⟩
      obtain ⟨v, rfl, ho⟩ := he hc
      rw [hp] at ho
      have HP := Lib.hid hp
      clear hp
      obtain ⟨A1, c1, rfl, hnc1, hcm1, hrd1, _⟩ := own_rd ho
      obtain ⟨b, o, rfl, hrow⟩ := hrd1.at_row (k := 4) (rows := (m :: ms).map rowMov) (movRow_len _) (by decide) (i := 0) (r := rowMov m) rfl
      have c0 := hrow 0 _ rfl
      have c1' := hrow 1 _ rfl
      have c2 := hrow 2 _ rfl
      have c3 := hrow 3 _ rfl
      simp only [Nat.zero_mul, Nat.add_zero] at c0 c1' c2 c3
      have hx1 := (hb.block w.heap.size (by omega)).trans HX0.out
      have hcx := fun i => cell_of_row w1 w.heap.size i _ _ _ hx1
      have hfx := fun i => frozen_of_row w1 w.heap.size i _ _ hx1
      have HX1 := Lib.hid hx1
      have HB1 := Lib.hid (HB0.out.trans (hb.mono (by omega)))
      have HCF := Lib.hid hc
      have e1 : (m :: ms).length = ms.length + 1 := rfl
      rw [e1]
      have q : (((ms.length + 1 : Nat) : Int) == 0) = false := by rw [beq_eq_false_iff_ne]; omega
      have b1 : (0 : Int) < ((ms.length + 1 : Nat) : Int) := by omega
      clear hb hx1 he hc ho hrd1 hrow e1
      go_wp2
      refine bodyPost_world (fun X => X.heap[w.heap.size]? = some (.cells #[.int .u64 m.1, .int .i64 m.2.1, .int .i64 m.2.2.1, .int .i64 m.2.2.2] 33 (0, 0)) ∧ Below w.heap.size w X) (set4 _ _ _ _ HX1.out HB1.out (Nat.le_refl _)) (fun X hX0 => ?_)
      have hXc := fun i => cell_of_row X w.heap.size i _ _ _ hX0.1
      have HL := Lib.hid hX0.2
      clear hX0 hcx hfx
      exact bodyPost_ret (v := .tuple #[.agg #[.int .u64 m.1, .int .i64 m.2.1, .int .i64 m.2.2.1, .int .i64 m.2.2.2], .bool true, .int .i64 0]) (by simp [results, Try.results12, go_sem, hXc]) rfl ⟨by simp [HCF.out, HP.out, errE, rowMov, mov0], HL.out⟩
end Go.Proofs.Ytmipfmeafbeegaa
