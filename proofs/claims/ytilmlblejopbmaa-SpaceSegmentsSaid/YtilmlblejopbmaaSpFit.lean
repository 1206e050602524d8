/- Contracts: space.Remove, space.Fit. -/
import Derived.Test.YtilmlblejopbmaaSpDel
import Derived.Test.YtilmlblejopbmaaSpGapsPure
namespace Go.Proofs.Ytilmlblejopbmaa
open Go.RowKit
set_option linter.unusedVariables false

theorem is_any (s : Int) (x : Ext) (bs : Nat) (w : World) (hbs : w.heap[bs]? = some (.cells #[.int .u64 s] 26 (0, 0))) :
    Calls Try.prog 54 #[.agg #[.int .u64 x.1, .int .i64 x.2.1, .int .i64 x.2.2], .pointer (some ⟨bs, 0, none⟩)] w fun e' w' => e' = .returned (.bool (decide (x.1 = s))) ∧ Below w.heap.size w w' := by
  have hlt := (Array.getElem?_eq_some_iff.1 hbs).1
  have hc := (Below.cell (below1 w (.cells #[.int .u64 x.1, .int .i64 x.2.1, .int .i64 x.2.2] 28)) (p := ⟨bs, 0, none⟩) hlt).trans (cell_of_row w bs 0 _ _ _ hbs)
  simp only [List.getElem?_toArray, List.getElem?_cons_zero] at hc
  clear hbs
  go_enter Try.func54, Try.ntmps54
  go_wp2
  go_ret
  exact ⟨bool_ (by simp), below1 _ _⟩
def delE (s : Int) (xs : List Ext) : List Ext := xs.filter (fun x => !decide (x.1 = s))
theorem delE_len (s : Int) (xs : List Ext) : (delE s xs).length ≤ xs.length := List.length_filter_le _ _
theorem delE_none (s : Int) (xs : List Ext) (h : xs.any (fun x => decide (x.1 = s)) = false) : delE s xs = xs := by
  unfold delE
  rw [List.filter_eq_self]
  intro x hx
  have := List.any_eq_false.1 h x hx
  simpa using this
theorem delE_some (s : Int) (xs : List Ext) (h : xs.any (fun x => decide (x.1 = s)) = true) : (delE s xs).length < xs.length := by
  obtain ⟨x, hx, hs⟩ := List.any_eq_true.1 h
  refine List.length_filter_lt_length_iff_exists.2 ⟨x, hx, by simpa using hs⟩
set_option maxRecDepth 100000 in
set_option maxHeartbeats 2000000 in
theorem remove_any (A : Option Addr) (n c : Nat) (xs : List Ext) (s : Int) (w : World) (hn : xs.length = n) (hA : A = none → n = 0 ∧ c = 0) (h : Rd w A ((xs.map rowExt).flatten)) (hcap : n ≤ 5864062014700) :
    Calls Try.prog 23 #[.slice A n c, .int .u64 s] w fun e w' => if xs.any (fun x => decide (x.1 = s)) = true then ∃ v, e = .returned (.tuple #[v, .int .i64 0]) ∧ w'.ownsRow w.heap.size 28 3 v (delE s xs).length (((delE s xs).map rowExt).flatten) ∧ Below w.heap.size w w' else e = .returned (.tuple #[.slice none 0 0, .int .i64 6]) ∧ Below w.heap.size w w' := by
  obtain ⟨w0, hw0⟩ : ∃ w0 : World, w0 = w.alloc (.cells #[.int .u64 s] 26) := ⟨_, rfl⟩
  have hb0 : Below w.heap.size w w0 := by rw [hw0]; exact below1 _ _
  have hz0 : w0.heap.size = w.heap.size + 1 := by rw [hw0]; simp
  have hbs : w0.heap[w.heap.size]? = some (.cells #[.int .u64 s] 26 (0, 0)) := by rw [hw0]; exact heap_alloc_new _ _
  have C1 := Lib.hid (cloneE_any A n c xs w0 hn hA (h.kept hb0) hcap)
  have C2 := Lib.hid (fun (v1 : Value) (w1 : World) (ho : w1.ownsRow w0.heap.size 28 3 v1 n ((xs.map rowExt).flatten)) (hb : Below w0.heap.size w0 w1) => deletef_any 54 w.heap.size _ (fun x => decide (x.1 = s)) (enters_of Try.func54 (by kernel_rfl) rfl) w0.heap.size v1 n xs w1 hn ho ((hb.block w.heap.size (by omega)).trans hbs) (by omega) hb.size hcap (fun x w2 hb2 => is_any s x w.heap.size w2 hb2))
  have HB0 := Lib.hid hb0
  have HZ0 := Lib.hid hz0
  have HN := Lib.hid hn
  clear hb0 hz0 hbs hn h hA
  cases hany : xs.any (fun x => decide (x.1 = s)) with
  | false =>
    have HD : Hid (xs.filter (fun x => !decide (x.1 = s)) = xs) := Lib.hid (delE_none s xs hany)
    clear hany
    simp only [Bool.false_eq_true, if_false]
    go_enter Try.func23, Try.ntmps23
    go_upto_region 1 with fail
    rw [← hw0]
    clear hw0
    go_wp2_with fail
    refine C1.out.mono ?_
    rintro e w1 ⟨v1, rfl, ho1, hb1⟩
    obtain ⟨A1, c1, rfl, _⟩ := own_sh ho1
    have HO1 := Lib.hid ho1
    have HB1 := Lib.hid hb1
    clear ho1 hb1
    go_wp2_with fail
    refine (C2.out _ _ HO1.out HB1.out).mono ?_
    rintro e w2 ⟨v2, rfl, ho2, hb2⟩
    rw [HD.out, HN.out] at ho2
    obtain ⟨A2, c2, rfl, _⟩ := own_sh ho2
    have HB2 := Lib.hid (HB0.out.trans ((HB1.out.trans (hb2.mono (Nat.le_refl _))).mono (by have := HZ0.out; omega)))
    clear ho2 hb2
    go_wp2
    go_ret2
    exact ⟨rfl, HB2.out⟩
  | true =>
    have hlt := delE_some s xs hany
    rw [HN.out] at hlt
    have HE : Hid (xs.filter (fun x => !decide (x.1 = s)) = delE s xs) := Lib.hid rfl
    clear hany
    simp only [if_true]
    generalize delE s xs = ys at *
    obtain ⟨m, hm⟩ : ∃ m, ys.length = m := ⟨_, rfl⟩
    rw [hm] at hlt
    have HM := Lib.hid hm
    have q : ((m : Int) == (n : Int)) = false := by rw [beq_eq_false_iff_ne]; omega
    clear hm
    go_enter Try.func23, Try.ntmps23
    go_upto_region 1 with fail
    rw [← hw0]
    clear hw0
    go_wp2_with fail
    refine C1.out.mono ?_
    rintro e w1 ⟨v1, rfl, ho1, hb1⟩
    obtain ⟨A1, c1, rfl, _⟩ := own_sh ho1
    have HO1 := Lib.hid ho1
    have HB1 := Lib.hid hb1
    clear ho1 hb1
    go_wp2_with fail
    refine (C2.out _ _ HO1.out HB1.out).mono ?_
    rintro e w2 ⟨v2, rfl, ho2, hb2⟩
    rw [HE.out, HM.out] at ho2
    obtain ⟨A2, c2, rfl, _⟩ := own_sh ho2
    have HO2 := Lib.hid (own_mono ho2 (show w.heap.size ≤ w0.heap.size by have := HZ0.out; omega))
    have HB2 := Lib.hid (HB0.out.trans ((HB1.out.trans (hb2.mono (Nat.le_refl _))).mono (by have := HZ0.out; omega)))
    clear ho2 hb2
    go_wp2
    go_ret2
    exact ⟨_, rfl, by rw [HM.out]; exact HO2.out, HB2.out⟩
set_option maxRecDepth 100000 in
set_option maxHeartbeats 2000000 in
theorem fit_bad (C : Int) (A : Option Addr) (n c : Nat) (xs : List Ext) (m : Int) (w : World) (hn : xs.length = n) (h : Rd w A ((xs.map rowExt).flatten)) (hcap : n ≤ 5864062014700) (hw : ∀ x ∈ xs, (Lit.int .u64 x.1).wf = true) (hc : checkE C xs = false) :
    Calls Try.prog 21 #[.int .i64 C, .slice A n c, .int .i64 m] w fun e w' => e = .returned (.tuple #[.int .i64 0, .int .i64 11]) ∧ Below w.heap.size w w' := by
  have C1 := Lib.hid (by have := check_any C A n c xs w hn h hcap hw; rw [hc] at this; exact this)
  have e1 : errE false = 11 := rfl
  clear hn h hw hc
  go_enter Try.func21, Try.ntmps21
  go_wp2_with fail
  refine C1.out.mono ?_
  rintro e w1 ⟨rfl, hb1⟩
  have HB1 := Lib.hid hb1
  clear hb1
  go_wp2
  go_ret2
  exact ⟨rfl, HB1.out⟩
set_option maxRecDepth 100000 in
set_option maxHeartbeats 2000000 in
theorem fit_arg (C : Int) (A : Option Addr) (n c : Nat) (xs : List Ext) (m : Int) (w : World) (hn : xs.length = n) (h : Rd w A ((xs.map rowExt).flatten)) (hcap : n ≤ 5864062014700) (hw : ∀ x ∈ xs, (Lit.int .u64 x.1).wf = true) (hc : checkE C xs = true) (hm : m < 1 ∨ 9 < m) :
    Calls Try.prog 21 #[.int .i64 C, .slice A n c, .int .i64 m] w fun e w' => e = .returned (.tuple #[.int .i64 0, .int .i64 1]) ∧ Below w.heap.size w w' := by
  have C1 := Lib.hid (by have := check_any C A n c xs w hn h hcap hw; rw [hc] at this; exact this)
  have e1 : errE true = 0 := rfl
  clear hn h hw hc
  rcases hm with hm | hm
  · go_enter Try.func21, Try.ntmps21
    go_wp2_with fail
    refine C1.out.mono ?_
    rintro e w1 ⟨rfl, hb1⟩
    have HB1 := Lib.hid hb1
    clear hb1
    go_wp2
    go_ret2
    exact ⟨rfl, HB1.out⟩
  · have hm' : ¬ m < 1 := by omega
    go_enter Try.func21, Try.ntmps21
    go_wp2_with fail
    refine C1.out.mono ?_
    rintro e w1 ⟨rfl, hb1⟩
    have HB1 := Lib.hid hb1
    clear hb1
    go_wp2
    go_ret2
    exact ⟨rfl, HB1.out⟩
theorem check_cap {C : Int} {xs : List Ext} (h : checkE C xs = true) : 0 ≤ C ∧ C ≤ 65536 := by
  simp only [checkE, Bool.and_eq_true, decide_eq_true_eq] at h; exact h.1
set_option maxRecDepth 100000 in
set_option maxHeartbeats 2000000 in
theorem fit_full (C : Int) (A : Option Addr) (n c : Nat) (xs : List Ext) (m : Int) (w : World) (hn : xs.length = n) (h : Rd w A ((xs.map rowExt).flatten)) (hcap : n ≤ 5864062014700) (hw : ∀ x ∈ xs, (Lit.int .u64 x.1).wf = true) (hc : checkE C xs = true) (hm1 : 1 ≤ m) (hm2 : m ≤ 9) (hf : C - m < endF 0 xs) :
    Calls Try.prog 21 #[.int .i64 C, .slice A n c, .int .i64 m] w fun e w' => e = .returned (.tuple #[.int .i64 0, .int .i64 3]) ∧ Below w.heap.size w w' := by
  obtain ⟨q1, q2⟩ := check_cap hc
  have hch := chainE hc
  have C1 := Lib.hid (by have := check_any C A n c xs w hn h hcap hw; rw [hc] at this; exact this)
  have C2 := Lib.hid (fun (w1 : World) (hb : Below w.heap.size w w1) => by have := tail_any A n c xs w1 hn (h.kept hb) hcap; rw [tailE_chain hch] at this; exact this)
  have e1 : errE true = 0 := rfl
  generalize endF 0 xs = T at *
  clear hn h hw hc hch
  go_enter Try.func21, Try.ntmps21
  go_wp2_with fail
  refine C1.out.mono ?_
  rintro e w1 ⟨rfl, hb1⟩
  have HB1 := Lib.hid hb1
  clear hb1
  go_wp2_with fail
  refine (C2.out _ HB1.out).mono ?_
  rintro e w2 ⟨rfl, hb2⟩
  have HB2 := Lib.hid (HB1.out.trans (hb2.mono HB1.out.size))
  clear hb2
  go_wp2
  go_ret2
  exact ⟨rfl, HB2.out⟩
set_option maxRecDepth 100000 in
set_option maxHeartbeats 2000000 in
theorem fit_ok (C : Int) (A : Option Addr) (n c : Nat) (xs : List Ext) (m : Int) (w : World) (hn : xs.length = n) (h : Rd w A ((xs.map rowExt).flatten)) (hcap : n ≤ 5864062014700) (hw : ∀ x ∈ xs, (Lit.int .u64 x.1).wf = true) (hc : checkE C xs = true) (hm1 : 1 ≤ m) (hm2 : m ≤ 9) (hf : endF 0 xs ≤ C - m) :
    Calls Try.prog 21 #[.int .i64 C, .slice A n c, .int .i64 m] w fun e w' => e = .returned (.tuple #[.int .i64 (endF 0 xs), .int .i64 0]) ∧ Below w.heap.size w w' := by
  obtain ⟨q1, q2⟩ := check_cap hc
  have hch := chainE hc
  have C1 := Lib.hid (by have := check_any C A n c xs w hn h hcap hw; rw [hc] at this; exact this)
  have C2 := Lib.hid (fun (w1 : World) (hb : Below w.heap.size w w1) => by have := tail_any A n c xs w1 hn (h.kept hb) hcap; rw [tailE_chain hch] at this; exact this)
  have e1 : errE true = 0 := rfl
  generalize endF 0 xs = T at *
  clear hn h hw hc hch
  go_enter Try.func21, Try.ntmps21
  go_wp2_with fail
  refine C1.out.mono ?_
  rintro e w1 ⟨rfl, hb1⟩
  have HB1 := Lib.hid hb1
  clear hb1
  go_wp2_with fail
  refine (C2.out _ HB1.out).mono ?_
  rintro e w2 ⟨rfl, hb2⟩
  have HB2 := Lib.hid (HB1.out.trans (hb2.mono HB1.out.size))
  clear hb2
  go_wp2_with fail
  refine (C2.out _ HB2.out).mono ?_
  rintro e w3 ⟨rfl, hb3⟩
  have HB3 := Lib.hid (HB2.out.trans (hb3.mono HB2.out.size))
  clear hb3
  go_wp2
  go_ret2
  exact ⟨rfl, HB3.out⟩
end Go.Proofs.Ytilmlblejopbmaa
