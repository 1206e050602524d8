/- Contract: moves.Do. -/
import Derived.Test.YtmipfmeafbeegaaMvOps
import Derived.Test.YtmipfmeafbeegaaMvVoc
import Derived.Test.YtmipfmeafbeegaaStage
namespace Go.Proofs.Ytmipfmeafbeegaa
open Go.RowKit
set_option linter.unusedVariables false

theorem own_wf2 {xs : List Ext} (hw : ∀ x ∈ xs, (Lit.int .u64 x.1).wf = true) : ∀ x ∈ sortV lessE xs, (Lit.int .u64 x.1).wf = true := fun x hx => hw x ((sortV_perm xs).mem_iff.1 hx)
theorem find_erase {C : Int} {S : List Ext} {m : Mov} {i : Nat} (hc : checkE C S = true) (hf : S.findIdx? (fun y => decide (y = fromE m)) = some i) : i < S.length ∧ S.eraseIdx i = doD S m := by
  obtain ⟨hi, hp, hlt⟩ := List.findIdx?_eq_some_iff_getElem.1 hf
  have he : S[i] = fromE m := by simpa using hp
  have hs : S = S.take i ++ fromE m :: S.drop (i + 1) := by
    conv => lhs; rw [← List.take_append_drop i S, List.drop_eq_getElem_cons hi, he]
  refine ⟨hi, ?_⟩
  have hp := (checkE_iff.1 hc).2.2
  rw [List.eraseIdx_eq_take_drop_succ]
  rw [hs] at hp
  have := doD_mid hp
  rw [← hs] at this
  exact this.symm
theorem find_none {S : List Ext} {m : Mov} (hf : S.findIdx? (fun y => decide (y = fromE m)) = none) : fromE m ∉ S := by
  intro h
  have := (List.findIdx?_eq_none_iff.1 hf) _ h
  simp at this
theorem find_some {S : List Ext} {m : Mov} (h : fromE m ∈ S) : ∃ i, S.findIdx? (fun y => decide (y = fromE m)) = some i := by
  cases hf : S.findIdx? (fun y => decide (y = fromE m)) with
  | some i => exact ⟨i, rfl⟩
  | none => exact absurd h (find_none hf)
/-- What a move's box holds. -/
def boxM (m : Mov) : Obj := .cells #[.int .u64 m.1, .int .i64 m.2.1, .int .i64 m.2.2.1, .int .i64 m.2.2.2] 33
set_option maxRecDepth 100000 in
set_option maxHeartbeats 4000000 in
theorem do_bad (C : Int) (A : Option Addr) (n c : Nat) (xs : List Ext) (m : Mov) (w : World) (hn : xs.length = n) (h : Rd w A ((xs.map rowExt).flatten)) (hcap : n ≤ 2000000000) (hw : ∀ x ∈ xs, (Lit.int .u64 x.1).wf = true) (hc : checkE C (sortV lessE xs) = false) :
    Calls Try.prog 16 #[.int .i64 C, .slice A n c, .agg #[.int .u64 m.1, .int .i64 m.2.1, .int .i64 m.2.2.1, .int .i64 m.2.2.2]] w fun e w' => e = .returned (.tuple #[.slice none 0 0, .int .i64 11]) ∧ Below w.heap.size w w' := by
  obtain ⟨w0, hw0⟩ : ∃ w0 : World, w0 = w.alloc (.cells #[.int .u64 m.1, .int .i64 m.2.1, .int .i64 m.2.2.1, .int .i64 m.2.2.2] 33) := ⟨_, rfl⟩
  have hb0 : Below w.heap.size w w0 := by rw [hw0]; exact below1 _ _
  have hx0 : w0.heap[w.heap.size]? = some (.cells #[.int .u64 m.1, .int .i64 m.2.1, .int .i64 m.2.2.1, .int .i64 m.2.2.2] 33 (0, 0)) := by rw [hw0]; exact heap_alloc_new _ _
  have hz0 : w0.heap.size = w.heap.size + 1 := by rw [hw0]; simp
  have CS := Lib.hid (sort_any A n c xs w0 hn (h.kept hb0) (by omega))
  have HW := Lib.hid (own_wf2 hw)
  have HSL : Hid ((sortV lessE xs).length = n) := Lib.hid (by rw [sortV_len]; exact hn)
  have HCK := Lib.hid hc
  have HB0 := Lib.hid hb0
  have HX0 := Lib.hid hx0
  clear hn h hb0 hx0 hw hc
  generalize sortV lessE xs = S at *
  go_enter Try.func16, Try.ntmps16
  go_wp2_with fail
  rw [← hw0]
  clear hw0
  refine CS.out.mono ?_
  rintro e w1 ⟨v1, rfl, ho1, hb1⟩
  obtain ⟨A1, c1, rfl, hnc1, hcm1, _, _⟩ := own_rd ho1
  have C2 := Lib.hid (check_any C A1 n c1 S w1 HSL.out (own_rd' ho1) (by omega) HW.out)
  rw [HCK.out, show errE false = 11 from rfl] at C2
  have HX1 := Lib.hid ((hb1.block w.heap.size (by omega)).trans HX0.out)
  have HB1 := Lib.hid (HB0.out.trans (hb1.mono (by omega)))
  have HO1 := Lib.hid ho1
  have hz1 := hb1.size
  clear ho1 hb1 CS HX0 HB0
  go_wp2_with fail
  refine C2.out.mono ?_
  rintro e w2 ⟨rfl, hb2⟩
  have HX2 := Lib.hid ((hb2.block w.heap.size (by omega)).trans HX1.out)
  have HB2 := Lib.hid (HB1.out.trans (hb2.mono (by omega)))
  have HO2 := Lib.hid (own_kept HO1.out hb2)
  have hz2 := hb2.size
  clear hb2 HX1 HB1 HO1 C2
  go_wp2
  go_ret2
  exact ⟨rfl, HB2.out⟩
set_option maxRecDepth 100000 in
set_option maxHeartbeats 4000000 in
theorem do_arg (C : Int) (A : Option Addr) (n c : Nat) (xs : List Ext) (m : Mov) (w : World) (hn : xs.length = n) (h : Rd w A ((xs.map rowExt).flatten)) (hcap : n ≤ 2000000000) (hw : ∀ x ∈ xs, (Lit.int .u64 x.1).wf = true) (hc : checkE C (sortV lessE xs) = true) (hm : mayB C m = false) :
    Calls Try.prog 16 #[.int .i64 C, .slice A n c, .agg #[.int .u64 m.1, .int .i64 m.2.1, .int .i64 m.2.2.1, .int .i64 m.2.2.2]] w fun e w' => e = .returned (.tuple #[.slice none 0 0, .int .i64 1]) ∧ Below w.heap.size w w' := by
  have HMAY := Lib.hid hm
  clear hm
  obtain ⟨w0, hw0⟩ : ∃ w0 : World, w0 = w.alloc (.cells #[.int .u64 m.1, .int .i64 m.2.1, .int .i64 m.2.2.1, .int .i64 m.2.2.2] 33) := ⟨_, rfl⟩
  have hb0 : Below w.heap.size w w0 := by rw [hw0]; exact below1 _ _
  have hx0 : w0.heap[w.heap.size]? = some (.cells #[.int .u64 m.1, .int .i64 m.2.1, .int .i64 m.2.2.1, .int .i64 m.2.2.2] 33 (0, 0)) := by rw [hw0]; exact heap_alloc_new _ _
  have hz0 : w0.heap.size = w.heap.size + 1 := by rw [hw0]; simp
  have CS := Lib.hid (sort_any A n c xs w0 hn (h.kept hb0) (by omega))
  have HW := Lib.hid (own_wf2 hw)
  have HSL : Hid ((sortV lessE xs).length = n) := Lib.hid (by rw [sortV_len]; exact hn)
  have HCK := Lib.hid hc
  have HB0 := Lib.hid hb0
  have HX0 := Lib.hid hx0
  clear hn h hb0 hx0 hw hc
  generalize sortV lessE xs = S at *
  go_enter Try.func16, Try.ntmps16
  go_wp2_with fail
  rw [← hw0]
  clear hw0
  refine CS.out.mono ?_
  rintro e w1 ⟨v1, rfl, ho1, hb1⟩
  obtain ⟨A1, c1, rfl, hnc1, hcm1, _, _⟩ := own_rd ho1
  have C2 := Lib.hid (check_any C A1 n c1 S w1 HSL.out (own_rd' ho1) (by omega) HW.out)
  rw [HCK.out, show errE true = 0 from rfl] at C2
  have HX1 := Lib.hid ((hb1.block w.heap.size (by omega)).trans HX0.out)
  have HB1 := Lib.hid (HB0.out.trans (hb1.mono (by omega)))
  have HO1 := Lib.hid ho1
  have hz1 := hb1.size
  clear ho1 hb1 CS HX0 HB0
  go_wp2_with fail
  refine C2.out.mono ?_
  rintro e w2 ⟨rfl, hb2⟩
  have HX2 := Lib.hid ((hb2.block w.heap.size (by omega)).trans HX1.out)
  have HB2 := Lib.hid (HB1.out.trans (hb2.mono (by omega)))
  have HO2 := Lib.hid (own_kept HO1.out hb2)
  have hz2 := hb2.size
  clear hb2 HX1 HB1 HO1 C2
  have hbx := fun i => cell_of_row w2 w.heap.size i _ _ _ HX2.out
  have hx0 := hbx 0
  have hx1 := hbx 1
  have hx2 := hbx 2
  have hx3 := hbx 3
  simp only [List.getElem?_toArray, List.getElem?_cons_zero, List.getElem?_cons_succ] at hx0 hx1 hx2 hx3
  have C3 := Lib.hid (may_any C m w2)
  rw [HMAY.out] at C3
  clear hbx
  go_wp2_with fail
  refine C3.out.mono ?_
  rintro e w3 ⟨rfl, hb3⟩
  have HX3 := Lib.hid ((hb3.block w.heap.size (by omega)).trans HX2.out)
  have HB3 := Lib.hid (HB2.out.trans (hb3.mono (by omega)))
  have HO3 := Lib.hid (own_kept HO2.out hb3)
  have hz3 := hb3.size
  clear hb3 HX2 HB2 HO2 C3 hx0 hx1 hx2 hx3
  go_wp2
  go_ret2
  exact ⟨rfl, HB3.out⟩
set_option maxRecDepth 100000 in
set_option maxHeartbeats 4000000 in
theorem do_none (C : Int) (A : Option Addr) (n c : Nat) (xs : List Ext) (m : Mov) (w : World) (hn : xs.length = n) (h : Rd w A ((xs.map rowExt).flatten)) (hcap : n ≤ 2000000000) (hw : ∀ x ∈ xs, (Lit.int .u64 x.1).wf = true) (hc : checkE C (sortV lessE xs) = true) (hm : mayB C m = true) (hi : idxE (fun y => decide (y = fromE m)) (sortV lessE xs) = -1) :
    Calls Try.prog 16 #[.int .i64 C, .slice A n c, .agg #[.int .u64 m.1, .int .i64 m.2.1, .int .i64 m.2.2.1, .int .i64 m.2.2.2]] w fun e w' => e = .returned (.tuple #[.slice none 0 0, .int .i64 6]) ∧ Below w.heap.size w w' := by
  have HMAY := Lib.hid hm
  have HIX := Lib.hid hi
  clear hm hi
  obtain ⟨w0, hw0⟩ : ∃ w0 : World, w0 = w.alloc (.cells #[.int .u64 m.1, .int .i64 m.2.1, .int .i64 m.2.2.1, .int .i64 m.2.2.2] 33) := ⟨_, rfl⟩
  have hb0 : Below w.heap.size w w0 := by rw [hw0]; exact below1 _ _
  have hx0 : w0.heap[w.heap.size]? = some (.cells #[.int .u64 m.1, .int .i64 m.2.1, .int .i64 m.2.2.1, .int .i64 m.2.2.2] 33 (0, 0)) := by rw [hw0]; exact heap_alloc_new _ _
  have hz0 : w0.heap.size = w.heap.size + 1 := by rw [hw0]; simp
  have CS := Lib.hid (sort_any A n c xs w0 hn (h.kept hb0) (by omega))
  have HW := Lib.hid (own_wf2 hw)
  have HSL : Hid ((sortV lessE xs).length = n) := Lib.hid (by rw [sortV_len]; exact hn)
  have HCK := Lib.hid hc
  have HB0 := Lib.hid hb0
  have HX0 := Lib.hid hx0
  clear hn h hb0 hx0 hw hc
  generalize sortV lessE xs = S at *
  go_enter Try.func16, Try.ntmps16
  go_wp2_with fail
  rw [← hw0]
  clear hw0
  refine CS.out.mono ?_
  rintro e w1 ⟨v1, rfl, ho1, hb1⟩
  obtain ⟨A1, c1, rfl, hnc1, hcm1, _, _⟩ := own_rd ho1
  have C2 := Lib.hid (check_any C A1 n c1 S w1 HSL.out (own_rd' ho1) (by omega) HW.out)
  rw [HCK.out, show errE true = 0 from rfl] at C2
  have HX1 := Lib.hid ((hb1.block w.heap.size (by omega)).trans HX0.out)
  have HB1 := Lib.hid (HB0.out.trans (hb1.mono (by omega)))
  have HO1 := Lib.hid ho1
  have hz1 := hb1.size
  clear ho1 hb1 CS HX0 HB0
  go_wp2_with fail
  refine C2.out.mono ?_
  rintro e w2 ⟨rfl, hb2⟩
  have HX2 := Lib.hid ((hb2.block w.heap.size (by omega)).trans HX1.out)
  have HB2 := Lib.hid (HB1.out.trans (hb2.mono (by omega)))
  have HO2 := Lib.hid (own_kept HO1.out hb2)
  have hz2 := hb2.size
  clear hb2 HX1 HB1 HO1 C2
  have hbx := fun i => cell_of_row w2 w.heap.size i _ _ _ HX2.out
  have hx0 := hbx 0
  have hx1 := hbx 1
  have hx2 := hbx 2
  have hx3 := hbx 3
  simp only [List.getElem?_toArray, List.getElem?_cons_zero, List.getElem?_cons_succ] at hx0 hx1 hx2 hx3
  have C3 := Lib.hid (may_any C m w2)
  rw [HMAY.out] at C3
  clear hbx
  go_wp2_with fail
  refine C3.out.mono ?_
  rintro e w3 ⟨rfl, hb3⟩
  have HX3 := Lib.hid ((hb3.block w.heap.size (by omega)).trans HX2.out)
  have HB3 := Lib.hid (HB2.out.trans (hb3.mono (by omega)))
  have HO3 := Lib.hid (own_kept HO2.out hb3)
  have hz3 := hb3.size
  clear hb3 HX2 HB2 HO2 C3 hx0 hx1 hx2 hx3
  have hbx := fun i => cell_of_row w3 w.heap.size i _ _ _ HX3.out
  have hx0 := hbx 0
  have hx1 := hbx 1
  have hx2 := hbx 2
  have hx3 := hbx 3
  simp only [List.getElem?_toArray, List.getElem?_cons_zero, List.getElem?_cons_succ] at hx0 hx1 hx2 hx3
  have C4 := Lib.hid (index_any A1 n c1 S (fromE m) w3 HSL.out (own_rd' HO3.out) (by omega))
  rw [HIX.out] at C4
  clear hbx
  go_wp2_with fail
  refine C4.out.mono ?_
  rintro e w4 ⟨rfl, hb4⟩
  have HX4 := Lib.hid ((hb4.block w.heap.size (by omega)).trans HX3.out)
  have HB4 := Lib.hid (HB3.out.trans (hb4.mono (by omega)))
  have HO4 := Lib.hid (own_kept HO3.out hb4)
  have hz4 := hb4.size
  clear hb4 HX3 HB3 HO3 C4 hx0 hx1 hx2 hx3
  go_wp2
  go_ret2
  exact ⟨rfl, HB4.out⟩
set_option maxRecDepth 100000 in
set_option maxHeartbeats 4000000 in
theorem do_twice (C : Int) (A : Option Addr) (n c : Nat) (xs : List Ext) (m : Mov) (w : World) (hn : xs.length = n) (h : Rd w A ((xs.map rowExt).flatten)) (hcap : n ≤ 2000000000) (hw : ∀ x ∈ xs, (Lit.int .u64 x.1).wf = true) (hc : checkE C (sortV lessE xs) = true) (hm : mayB C m = true) (i : Nat) (hi : idxE (fun y => decide (y = fromE m)) (sortV lessE xs) = (i : Int)) (hil : i < (sortV lessE xs).length) (hd : (sortV lessE xs).eraseIdx i = doD (sortV lessE xs) m) (hcl : (doD (sortV lessE xs) m).any (clash (toE m)) = true) :
    Calls Try.prog 16 #[.int .i64 C, .slice A n c, .agg #[.int .u64 m.1, .int .i64 m.2.1, .int .i64 m.2.2.1, .int .i64 m.2.2.2]] w fun e w' => e = .returned (.tuple #[.slice none 0 0, .int .i64 7]) ∧ Below w.heap.size w w' := by
  have HMAY := Lib.hid hm
  have HIX := Lib.hid hi
  have HIL := Lib.hid hil
  have HD := Lib.hid hd
  have HCL := Lib.hid hcl
  clear hm hi hil hd hcl
  obtain ⟨w0, hw0⟩ : ∃ w0 : World, w0 = w.alloc (.cells #[.int .u64 m.1, .int .i64 m.2.1, .int .i64 m.2.2.1, .int .i64 m.2.2.2] 33) := ⟨_, rfl⟩
  have hb0 : Below w.heap.size w w0 := by rw [hw0]; exact below1 _ _
  have hx0 : w0.heap[w.heap.size]? = some (.cells #[.int .u64 m.1, .int .i64 m.2.1, .int .i64 m.2.2.1, .int .i64 m.2.2.2] 33 (0, 0)) := by rw [hw0]; exact heap_alloc_new _ _
  have hz0 : w0.heap.size = w.heap.size + 1 := by rw [hw0]; simp
  have CS := Lib.hid (sort_any A n c xs w0 hn (h.kept hb0) (by omega))
  have HW := Lib.hid (own_wf2 hw)
  have HSL : Hid ((sortV lessE xs).length = n) := Lib.hid (by rw [sortV_len]; exact hn)
  have HCK := Lib.hid hc
  have HB0 := Lib.hid hb0
  have HX0 := Lib.hid hx0
  clear hn h hb0 hx0 hw hc
  generalize sortV lessE xs = S at *
  go_enter Try.func16, Try.ntmps16
  go_wp2_with fail
  rw [← hw0]
  clear hw0
  refine CS.out.mono ?_
  rintro e w1 ⟨v1, rfl, ho1, hb1⟩
  obtain ⟨A1, c1, rfl, hnc1, hcm1, _, _⟩ := own_rd ho1
  have C2 := Lib.hid (check_any C A1 n c1 S w1 HSL.out (own_rd' ho1) (by omega) HW.out)
  rw [HCK.out, show errE true = 0 from rfl] at C2
  have HX1 := Lib.hid ((hb1.block w.heap.size (by omega)).trans HX0.out)
  have HB1 := Lib.hid (HB0.out.trans (hb1.mono (by omega)))
  have HO1 := Lib.hid ho1
  have hz1 := hb1.size
  clear ho1 hb1 CS HX0 HB0
  go_wp2_with fail
  refine C2.out.mono ?_
  rintro e w2 ⟨rfl, hb2⟩
  have HX2 := Lib.hid ((hb2.block w.heap.size (by omega)).trans HX1.out)
  have HB2 := Lib.hid (HB1.out.trans (hb2.mono (by omega)))
  have HO2 := Lib.hid (own_kept HO1.out hb2)
  have hz2 := hb2.size
  clear hb2 HX1 HB1 HO1 C2
  have hbx := fun i => cell_of_row w2 w.heap.size i _ _ _ HX2.out
  have hx0 := hbx 0
  have hx1 := hbx 1
  have hx2 := hbx 2
  have hx3 := hbx 3
  simp only [List.getElem?_toArray, List.getElem?_cons_zero, List.getElem?_cons_succ] at hx0 hx1 hx2 hx3
  have C3 := Lib.hid (may_any C m w2)
  rw [HMAY.out] at C3
  clear hbx
  go_wp2_with fail
  refine C3.out.mono ?_
  rintro e w3 ⟨rfl, hb3⟩
  have HX3 := Lib.hid ((hb3.block w.heap.size (by omega)).trans HX2.out)
  have HB3 := Lib.hid (HB2.out.trans (hb3.mono (by omega)))
  have HO3 := Lib.hid (own_kept HO2.out hb3)
  have hz3 := hb3.size
  clear hb3 HX2 HB2 HO2 C3 hx0 hx1 hx2 hx3
  have hbx := fun i => cell_of_row w3 w.heap.size i _ _ _ HX3.out
  have hx0 := hbx 0
  have hx1 := hbx 1
  have hx2 := hbx 2
  have hx3 := hbx 3
  simp only [List.getElem?_toArray, List.getElem?_cons_zero, List.getElem?_cons_succ] at hx0 hx1 hx2 hx3
  have C4 := Lib.hid (index_any A1 n c1 S (fromE m) w3 HSL.out (own_rd' HO3.out) (by omega))
  rw [HIX.out] at C4
  clear hbx
  go_wp2_with fail
  refine C4.out.mono ?_
  rintro e w4 ⟨rfl, hb4⟩
  have HX4 := Lib.hid ((hb4.block w.heap.size (by omega)).trans HX3.out)
  have HB4 := Lib.hid (HB3.out.trans (hb4.mono (by omega)))
  have HO4 := Lib.hid (own_kept HO3.out hb4)
  have hz4 := hb4.size
  clear hb4 HX3 HB3 HO3 C4 hx0 hx1 hx2 hx3
  have hin : i < n := by have := HIL.out; have := HSL.out; omega
  obtain ⟨gb, rfl, hgb⟩ : ∃ gb, A1 = some ⟨gb, 0, none⟩ ∧ w0.heap.size ≤ gb := by
    rcases HO4.out.2 with ⟨h1, _⟩ | ⟨gb, cap, cur, h1, h2, _⟩
    · simp at h1; omega
    · simp at h1; exact ⟨gb, h1.1, h2⟩
  obtain ⟨CL, hCL⟩ : ∃ CL : Bool → World → Prop, CL = fun b w' => w'.heap[w.heap.size]? = some (.cells #[.int .u64 m.1, .int .i64 m.2.1, .int .i64 m.2.2.1, .int .i64 m.2.2.2] 33 (0, 0)) ∧ Below w.heap.size w w' ∧ w0.heap.size ≤ w'.heap.size ∧
    (if b = true then w'.ownsRow w0.heap.size 26 3 (.slice (some ⟨gb, 0, none⟩) (n - 1) c1) (n - 1) (((S.eraseIdx i).map rowExt).flatten) else w'.ownsRow w0.heap.size 26 3 (.slice (some ⟨gb, 0, none⟩) n c1) n ((S.map rowExt).flatten)) := ⟨_, rfl⟩
  have HC0 : CL false w4.drew := by rw [hCL]; exact ⟨HX4.out, HB4.out.drew, by show w0.heap.size ≤ w4.heap.size; omega, HO4.out.drew⟩
  have hNE : Nonempty (Stg CL) := ⟨⟨false, _, HC0⟩⟩
  have h9 : ∀ b (w' : World), CL b w' → w'.heap[w.heap.size]? = some (.cells #[.int .u64 m.1, .int .i64 m.2.1, .int .i64 m.2.2.1, .int .i64 m.2.2.2] 33 (0, 0)) := fun b w' h => by rw [hCL] at h; exact h.1
  have hbx := fun (L : Stg CL) (k : Nat) => cell_of_row L.W w.heap.size k _ _ _ (h9 _ _ L.h)
  have hx0 := fun L : Stg CL => hbx L 0
  have hx2 := fun L : Stg CL => hbx L 2
  have hx3 := fun L : Stg CL => hbx L 3
  simp only [List.getElem?_toArray, List.getElem?_cons_zero, List.getElem?_cons_succ] at hx0 hx2 hx3
  have CDEL := Lib.hid (fun (w5 : World) (h5 : CL false w5) => show Calls Try.prog 35 #[.slice (some ⟨gb, 0, none⟩) n c1, .int .i64 (i : Int), .int .i64 ((i : Int) + 1)] w5 fun e w' => e = .returned (.slice (some ⟨gb, 0, none⟩) (n - 1) c1) ∧ CL true w' from by
    rw [hCL] at h5
    obtain ⟨g1, g2, g3, g4⟩ := h5
    refine (delete_any w0.heap.size gb n c1 S i w5 HSL.out g4 g3 (by have := HIL.out; have := HSL.out; omega) (by omega)).mono ?_
    rintro e w6 ⟨rfl, ho6, hb6⟩
    refine ⟨rfl, ?_⟩
    rw [hCL]
    exact ⟨(hb6.block w.heap.size (by omega)).trans g1, g2.trans (hb6.mono (by omega)), by have := hb6.size; omega, ho6⟩)
  have hiN : (i : Int) < (n : Int) := by omega
  have CADD := Lib.hid (fun (w5 : World) (h5 : CL true w5) => show Calls Try.prog 34 #[.int .i64 C, .slice (some ⟨gb, 0, none⟩) (n - 1) c1, .agg #[.int .u64 m.1, .int .i64 m.2.2.1, .int .i64 m.2.2.2]] w5 fun e' w' => e' = .returned (.tuple #[.slice none 0 0, .int .i64 7]) ∧ Below w.heap.size w w' from by
    rw [hCL] at h5
    obtain ⟨g1, g2, g3, g4⟩ := h5
    have g4' : w5.ownsRow w0.heap.size 26 3 (.slice (some ⟨gb, 0, none⟩) (n - 1) c1) (n - 1) (((doD S m).map rowExt).flatten) := by rw [← HD.out]; exact g4
    have hDl : (doD S m).length = n - 1 := by rw [← HD.out, List.length_eraseIdx_of_lt HIL.out, HSL.out]
    have hmm := (mayB_iff _ _).1 HMAY.out
    have ho : oneB C (toE m).1 (toE m).2.1 (toE m).2.2 = true := (oneB_iff _ _ _ _).2 (by show _ ∧ _ ∧ 1 ≤ m.1 ∧ 1 ≤ m.2.2.2 ∧ m.2.2.2 ≤ 9 ∧ 0 ≤ m.2.2.1 ∧ m.2.2.1 ≤ C - m.2.2.2; omega)
    have hDw : ∀ x ∈ doD S m, (Lit.int .u64 x.1).wf = true := fun x hx => HW.out x ((List.mem_filter.1 hx).1)
    refine (add_no2 C _ (n - 1) c1 (doD S m) (toE m) w5 hDl (own_rd' g4') (by omega) hDw (doD_check HCK.out) ho HCL.out).mono ?_
    rintro e6 w6 ⟨rfl, hb6⟩
    exact ⟨rfl, g2.trans (hb6.mono (by omega))⟩)
  clear hbx h9
  clear HX4 HB4 HO4 hCL
  go_wp2_with fail
  refine wp_region_stg (C := CL) 13 5 (by kernel_rfl) (by kernel_rfl) HC0 ?_
  simp only [List.take_succ_cons, List.take_zero, List.drop_succ_cons, List.drop_zero, Nat.reduceSub, Nat.reduceAdd]
  repeat (go_big_quiet_step (fail))
  refine wpQuiet_nil ?_
  refine ⟨_, .slice (some ⟨gb, 0, none⟩) (n - 1) c1, rfl, rfl, fun w5 h5 => ?_, ?_⟩
  · have h7 := CDEL.out w5 h5
    clear CDEL CADD hx0 hx2 hx3 HC0
    simp [go_sem, sUpon]
    exact h7
  simp only [Act.put, List.setIfInBounds_toArray, List.set_cons_succ, List.set_cons_zero]
  repeat (go_big_quiet_step (fail))
  refine wpQuiet_nil ?_
  refine ⟨_, rfl, rfl, fun w6 h6 => ⟨34, #[.int .i64 C, .slice (some ⟨gb, 0, none⟩) (n - 1) c1, .agg #[.int .u64 m.1, .int .i64 m.2.2.1, .int .i64 m.2.2.2]], by simp [go_sem], ?_⟩⟩
  refine (CADD.out w6 h6).mono ?_
  clear CADD CDEL hx0 hx2 hx3 HC0
  rintro e w7 ⟨rfl, hb7⟩
  refine ⟨_, rfl, ?_⟩
  simp only [List.setIfInBounds_toArray, List.set_cons_succ, List.set_cons_zero]
  repeat (go_big_quiet_step (fail))
  refine wpQuiet_nil ?_
  have HB7 := Lib.hid hb7
  clear hb7
  go_wp2
  go_ret2
  exact ⟨rfl, HB7.out⟩
set_option maxRecDepth 100000 in
set_option maxHeartbeats 4000000 in
theorem do_ok (C : Int) (A : Option Addr) (n c : Nat) (xs : List Ext) (m : Mov) (w : World) (hn : xs.length = n) (h : Rd w A ((xs.map rowExt).flatten)) (hcap : n ≤ 2000000000) (hw : ∀ x ∈ xs, (Lit.int .u64 x.1).wf = true) (hc : checkE C (sortV lessE xs) = true) (hm : mayB C m = true) (i : Nat) (hi : idxE (fun y => decide (y = fromE m)) (sortV lessE xs) = (i : Int)) (hil : i < (sortV lessE xs).length) (hd : (sortV lessE xs).eraseIdx i = doD (sortV lessE xs) m) (hcl : (doD (sortV lessE xs) m).any (clash (toE m)) = false) :
    Calls Try.prog 16 #[.int .i64 C, .slice A n c, .agg #[.int .u64 m.1, .int .i64 m.2.1, .int .i64 m.2.2.1, .int .i64 m.2.2.2]] w fun e w' => ∃ v, e = .returned (.tuple #[v, .int .i64 0]) ∧ w'.ownsRow w.heap.size 26 3 v n (((doS (sortV lessE xs) m).map rowExt).flatten) ∧ Below w.heap.size w w' := by
  have HMAY := Lib.hid hm
  have HIX := Lib.hid hi
  have HIL := Lib.hid hil
  have HD := Lib.hid hd
  have HCL := Lib.hid hcl
  clear hm hi hil hd hcl
  obtain ⟨w0, hw0⟩ : ∃ w0 : World, w0 = w.alloc (.cells #[.int .u64 m.1, .int .i64 m.2.1, .int .i64 m.2.2.1, .int .i64 m.2.2.2] 33) := ⟨_, rfl⟩
  have hb0 : Below w.heap.size w w0 := by rw [hw0]; exact below1 _ _
  have hx0 : w0.heap[w.heap.size]? = some (.cells #[.int .u64 m.1, .int .i64 m.2.1, .int .i64 m.2.2.1, .int .i64 m.2.2.2] 33 (0, 0)) := by rw [hw0]; exact heap_alloc_new _ _
  have hz0 : w0.heap.size = w.heap.size + 1 := by rw [hw0]; simp
  have CS := Lib.hid (sort_any A n c xs w0 hn (h.kept hb0) (by omega))
  have HW := Lib.hid (own_wf2 hw)
  have HSL : Hid ((sortV lessE xs).length = n) := Lib.hid (by rw [sortV_len]; exact hn)
  have HCK := Lib.hid hc
  have HB0 := Lib.hid hb0
  have HX0 := Lib.hid hx0
  clear hn h hb0 hx0 hw hc
  generalize sortV lessE xs = S at *
  go_enter Try.func16, Try.ntmps16
  go_wp2_with fail
  rw [← hw0]
  clear hw0
  refine CS.out.mono ?_
  rintro e w1 ⟨v1, rfl, ho1, hb1⟩
  obtain ⟨A1, c1, rfl, hnc1, hcm1, _, _⟩ := own_rd ho1
  have C2 := Lib.hid (check_any C A1 n c1 S w1 HSL.out (own_rd' ho1) (by omega) HW.out)
  rw [HCK.out, show errE true = 0 from rfl] at C2
  have HX1 := Lib.hid ((hb1.block w.heap.size (by omega)).trans HX0.out)
  have HB1 := Lib.hid (HB0.out.trans (hb1.mono (by omega)))
  have HO1 := Lib.hid ho1
  have hz1 := hb1.size
  clear ho1 hb1 CS HX0 HB0
  go_wp2_with fail
  refine C2.out.mono ?_
  rintro e w2 ⟨rfl, hb2⟩
  have HX2 := Lib.hid ((hb2.block w.heap.size (by omega)).trans HX1.out)
  have HB2 := Lib.hid (HB1.out.trans (hb2.mono (by omega)))
  have HO2 := Lib.hid (own_kept HO1.out hb2)
  have hz2 := hb2.size
  clear hb2 HX1 HB1 HO1 C2
  have hbx := fun i => cell_of_row w2 w.heap.size i _ _ _ HX2.out
  have hx0 := hbx 0
  have hx1 := hbx 1
  have hx2 := hbx 2
  have hx3 := hbx 3
  simp only [List.getElem?_toArray, List.getElem?_cons_zero, List.getElem?_cons_succ] at hx0 hx1 hx2 hx3
  have C3 := Lib.hid (may_any C m w2)
  rw [HMAY.out] at C3
  clear hbx
  go_wp2_with fail
  refine C3.out.mono ?_
  rintro e w3 ⟨rfl, hb3⟩
  have HX3 := Lib.hid ((hb3.block w.heap.size (by omega)).trans HX2.out)
  have HB3 := Lib.hid (HB2.out.trans (hb3.mono (by omega)))
  have HO3 := Lib.hid (own_kept HO2.out hb3)
  have hz3 := hb3.size
  clear hb3 HX2 HB2 HO2 C3 hx0 hx1 hx2 hx3
  have hbx := fun i => cell_of_row w3 w.heap.size i _ _ _ HX3.out
  have hx0 := hbx 0
  have hx1 := hbx 1
  have hx2 := hbx 2
  have hx3 := hbx 3
  simp only [List.getElem?_toArray, List.getElem?_cons_zero, List.getElem?_cons_succ] at hx0 hx1 hx2 hx3
  have C4 := Lib.hid (index_any A1 n c1 S (fromE m) w3 HSL.out (own_rd' HO3.out) (by omega))
  rw [HIX.out] at C4
  clear hbx
  go_wp2_with fail
  refine C4.out.mono ?_
  rintro e w4 ⟨rfl, hb4⟩
  have HX4 := Lib.hid ((hb4.block w.heap.size (by omega)).trans HX3.out)
  have HB4 := Lib.hid (HB3.out.trans (hb4.mono (by omega)))
  have HO4 := Lib.hid (own_kept HO3.out hb4)
  have hz4 := hb4.size
  clear hb4 HX3 HB3 HO3 C4 hx0 hx1 hx2 hx3
  have hin : i < n := by have := HIL.out; have := HSL.out; omega
  obtain ⟨gb, rfl, hgb⟩ : ∃ gb, A1 = some ⟨gb, 0, none⟩ ∧ w0.heap.size ≤ gb := by
    rcases HO4.out.2 with ⟨h1, _⟩ | ⟨gb, cap, cur, h1, h2, _⟩
    · simp at h1; omega
    · simp at h1; exact ⟨gb, h1.1, h2⟩
  obtain ⟨CL, hCL⟩ : ∃ CL : Bool → World → Prop, CL = fun b w' => w'.heap[w.heap.size]? = some (.cells #[.int .u64 m.1, .int .i64 m.2.1, .int .i64 m.2.2.1, .int .i64 m.2.2.2] 33 (0, 0)) ∧ Below w.heap.size w w' ∧ w0.heap.size ≤ w'.heap.size ∧
    (if b = true then w'.ownsRow w0.heap.size 26 3 (.slice (some ⟨gb, 0, none⟩) (n - 1) c1) (n - 1) (((S.eraseIdx i).map rowExt).flatten) else w'.ownsRow w0.heap.size 26 3 (.slice (some ⟨gb, 0, none⟩) n c1) n ((S.map rowExt).flatten)) := ⟨_, rfl⟩
  have HC0 : CL false w4.drew := by rw [hCL]; exact ⟨HX4.out, HB4.out.drew, by show w0.heap.size ≤ w4.heap.size; omega, HO4.out.drew⟩
  have hNE : Nonempty (Stg CL) := ⟨⟨false, _, HC0⟩⟩
  have h9 : ∀ b (w' : World), CL b w' → w'.heap[w.heap.size]? = some (.cells #[.int .u64 m.1, .int .i64 m.2.1, .int .i64 m.2.2.1, .int .i64 m.2.2.2] 33 (0, 0)) := fun b w' h => by rw [hCL] at h; exact h.1
  have hbx := fun (L : Stg CL) (k : Nat) => cell_of_row L.W w.heap.size k _ _ _ (h9 _ _ L.h)
  have hx0 := fun L : Stg CL => hbx L 0
  have hx2 := fun L : Stg CL => hbx L 2
  have hx3 := fun L : Stg CL => hbx L 3
  simp only [List.getElem?_toArray, List.getElem?_cons_zero, List.getElem?_cons_succ] at hx0 hx2 hx3
  have CDEL := Lib.hid (fun (w5 : World) (h5 : CL false w5) => show Calls Try.prog 35 #[.slice (some ⟨gb, 0, none⟩) n c1, .int .i64 (i : Int), .int .i64 ((i : Int) + 1)] w5 fun e w' => e = .returned (.slice (some ⟨gb, 0, none⟩) (n - 1) c1) ∧ CL true w' from by
    rw [hCL] at h5
    obtain ⟨g1, g2, g3, g4⟩ := h5
    refine (delete_any w0.heap.size gb n c1 S i w5 HSL.out g4 g3 (by have := HIL.out; have := HSL.out; omega) (by omega)).mono ?_
    rintro e w6 ⟨rfl, ho6, hb6⟩
    refine ⟨rfl, ?_⟩
    rw [hCL]
    exact ⟨(hb6.block w.heap.size (by omega)).trans g1, g2.trans (hb6.mono (by omega)), by have := hb6.size; omega, ho6⟩)
  have hiN : (i : Int) < (n : Int) := by omega
  have CADD := Lib.hid (fun (w5 : World) (h5 : CL true w5) => show Calls Try.prog 34 #[.int .i64 C, .slice (some ⟨gb, 0, none⟩) (n - 1) c1, .agg #[.int .u64 m.1, .int .i64 m.2.2.1, .int .i64 m.2.2.2]] w5 fun e' w' => ∃ v, e' = .returned (.tuple #[v, .int .i64 0]) ∧ w'.ownsRow w.heap.size 26 3 v n (((doS S m).map rowExt).flatten) ∧ Below w.heap.size w w' from by
    rw [hCL] at h5
    obtain ⟨g1, g2, g3, g4⟩ := h5
    have g4' : w5.ownsRow w0.heap.size 26 3 (.slice (some ⟨gb, 0, none⟩) (n - 1) c1) (n - 1) (((doD S m).map rowExt).flatten) := by rw [← HD.out]; exact g4
    have hDl : (doD S m).length = n - 1 := by rw [← HD.out, List.length_eraseIdx_of_lt HIL.out, HSL.out]
    have hmm := (mayB_iff _ _).1 HMAY.out
    have ho : oneB C (toE m).1 (toE m).2.1 (toE m).2.2 = true := (oneB_iff _ _ _ _).2 (by show _ ∧ _ ∧ 1 ≤ m.1 ∧ 1 ≤ m.2.2.2 ∧ m.2.2.2 ≤ 9 ∧ 0 ≤ m.2.2.1 ∧ m.2.2.1 ≤ C - m.2.2.2; omega)
    have hDw : ∀ x ∈ doD S m, (Lit.int .u64 x.1).wf = true := fun x hx => HW.out x ((List.mem_filter.1 hx).1)
    refine (add_ok C _ (n - 1) c1 (doD S m) (toE m) w5 hDl (fun e => by cases e) (own_rd' g4') (by omega) hDw (doD_check HCK.out) ho HCL.out).mono ?_
    rintro e6 w6 ⟨v, rfl, ho6, hb6⟩
    refine ⟨v, rfl, ?_, g2.trans (hb6.mono (by omega))⟩
    rw [sort_snocE (doD_check HCK.out), show n - 1 + 1 = n by omega] at ho6
    exact own_mono ho6 (by omega))
  clear hbx h9
  clear HX4 HB4 HO4 hCL
  go_wp2_with fail
  refine wp_region_stg (C := CL) 13 5 (by kernel_rfl) (by kernel_rfl) HC0 ?_
  simp only [List.take_succ_cons, List.take_zero, List.drop_succ_cons, List.drop_zero, Nat.reduceSub, Nat.reduceAdd]
  repeat (go_big_quiet_step (fail))
  refine wpQuiet_nil ?_
  refine ⟨_, .slice (some ⟨gb, 0, none⟩) (n - 1) c1, rfl, rfl, fun w5 h5 => ?_, ?_⟩
  · have h7 := CDEL.out w5 h5
    clear CDEL CADD hx0 hx2 hx3 HC0
    simp [go_sem, sUpon]
    exact h7
  simp only [Act.put, List.setIfInBounds_toArray, List.set_cons_succ, List.set_cons_zero]
  repeat (go_big_quiet_step (fail))
  refine wpQuiet_nil ?_
  refine ⟨_, rfl, rfl, fun w6 h6 => ⟨34, #[.int .i64 C, .slice (some ⟨gb, 0, none⟩) (n - 1) c1, .agg #[.int .u64 m.1, .int .i64 m.2.2.1, .int .i64 m.2.2.2]], by simp [go_sem], ?_⟩⟩
  refine (CADD.out w6 h6).mono ?_
  clear CADD CDEL hx0 hx2 hx3 HC0
  rintro e w7 ⟨v, rfl, ho7, hb7⟩
  refine ⟨_, rfl, ?_⟩
  simp only [List.setIfInBounds_toArray, List.set_cons_succ, List.set_cons_zero]
  repeat (go_big_quiet_step (fail))
  refine wpQuiet_nil ?_
  have HO7 := Lib.hid ho7
  have HB7 := Lib.hid hb7
  clear ho7 hb7
  go_wp2
  go_ret2
  exact ⟨v, rfl, HO7.out, HB7.out⟩
/-- What a move makes of any extents, sorted. -/
def DoneAt (C : Int) (S : List Ext) (m : Mov) (w : World) (e : Ending) (w' : World) : Prop :=
  (doErr C S m = 0 → ∃ v, e = .returned (.tuple #[v, .int .i64 0]) ∧ w'.ownsRow w.heap.size 26 3 v S.length (((doS S m).map rowExt).flatten)) ∧
  (doErr C S m ≠ 0 → e = .returned (.tuple #[.slice none 0 0, .int .i64 (doErr C S m)])) ∧ Below w.heap.size w w'
theorem do_any (C : Int) (A : Option Addr) (n c : Nat) (xs : List Ext) (m : Mov) (w : World) (hn : xs.length = n) (h : Rd w A ((xs.map rowExt).flatten)) (hcap : n ≤ 2000000000) (hw : ∀ x ∈ xs, (Lit.int .u64 x.1).wf = true) :
    Calls Try.prog 16 #[.int .i64 C, .slice A n c, .agg #[.int .u64 m.1, .int .i64 m.2.1, .int .i64 m.2.2.1, .int .i64 m.2.2.2]] w (DoneAt C (sortV lessE xs) m w) := by
  have hsl : (sortV lessE xs).length = n := by rw [sortV_len]; exact hn
  cases hc : checkE C (sortV lessE xs) with
  | false =>
    have he : doErr C (sortV lessE xs) m = 11 := by unfold doErr; simp [hc]
    refine (do_bad C A n c xs m w hn h hcap hw hc).mono ?_
    rintro e w' ⟨rfl, hb⟩
    exact ⟨fun q => by omega, fun _ => by rw [he], hb⟩
  | true =>
    cases hm : mayB C m with
    | false =>
      have he : doErr C (sortV lessE xs) m = 1 := by unfold doErr; simp [hc, hm]
      refine (do_arg C A n c xs m w hn h hcap hw hc hm).mono ?_
      rintro e w' ⟨rfl, hb⟩
      exact ⟨fun q => by omega, fun _ => by rw [he], hb⟩
    | true =>
      cases hf : (sortV lessE xs).findIdx? (fun y => decide (y = fromE m)) with
      | none =>
        have he : doErr C (sortV lessE xs) m = 6 := by unfold doErr; simp [hc, hm, find_none hf]
        refine (do_none C A n c xs m w hn h hcap hw hc hm (by unfold idxE; rw [hf])).mono ?_
        rintro e w' ⟨rfl, hb⟩
        exact ⟨fun q => by omega, fun _ => by rw [he], hb⟩
      | some i =>
        obtain ⟨hi, hd⟩ := find_erase hc hf
        have hmem : fromE m ∈ sortV lessE xs := by
          obtain ⟨hi', hp, _⟩ := List.findIdx?_eq_some_iff_getElem.1 hf
          have : (sortV lessE xs)[i] = fromE m := by simpa using hp
          rw [← this]; exact List.getElem_mem _
        cases hcl : (doD (sortV lessE xs) m).any (clash (toE m)) with
        | true =>
          have he : doErr C (sortV lessE xs) m = 7 := by unfold doErr; rw [if_pos hc, if_pos hm, if_pos hmem, if_pos hcl]
          refine (do_twice C A n c xs m w hn h hcap hw hc hm i (by unfold idxE; rw [hf]) hi hd hcl).mono ?_
          rintro e w' ⟨rfl, hb⟩
          exact ⟨fun q => by omega, fun _ => by rw [he], hb⟩
        | false =>
          have he : doErr C (sortV lessE xs) m = 0 := doErr_of hc hm hmem hcl
          refine (do_ok C A n c xs m w hn h hcap hw hc hm i (by unfold idxE; rw [hf]) hi hd hcl).mono ?_
          rintro e w' ⟨v, rfl, ho, hb⟩
          exact ⟨fun _ => ⟨v, rfl, by rw [hsl]; exact ho⟩, fun q => absurd he q, hb⟩
end Go.Proofs.Ytmipfmeafbeegaa
