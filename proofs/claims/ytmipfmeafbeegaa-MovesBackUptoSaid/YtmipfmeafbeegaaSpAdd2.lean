/- Contract of space.Add. -/
import Derived.Test.YtmipfmeafbeegaaSpAdd
namespace Go.Proofs.Ytmipfmeafbeegaa
open Go.RowKit
set_option linter.unusedVariables false

theorem own_rd' {w : World} {base e size n c : Nat} {A : Option Addr} {xs : List Value} (h : w.ownsRow base e size (.slice A n c) n xs) : Rd w A xs := by
  obtain ⟨A', c', e, _, _, hr, _⟩ := own_rd h
  injection e with e1 e2 e3
  subst e1
  exact hr
def badE (C : Int) (xs : List Ext) (e : Ext) : Bool := !(checkE C xs && oneB C e.1 e.2.1 e.2.2)
set_option maxRecDepth 100000 in
set_option maxHeartbeats 2000000 in
theorem add_no1 (C : Int) (A : Option Addr) (n c : Nat) (xs : List Ext) (e : Ext) (w : World) (hn : xs.length = n) (h : Rd w A ((xs.map rowExt).flatten)) (hcap : n ≤ 2000000000) (hw : ∀ x ∈ xs, (Lit.int .u64 x.1).wf = true) (hbad : checkE C xs = false ∨ oneB C e.1 e.2.1 e.2.2 = false) :
    Calls Try.prog 34 #[.int .i64 C, .slice A n c, .agg #[.int .u64 e.1, .int .i64 e.2.1, .int .i64 e.2.2]] w fun e' w' => e' = .returned (.tuple #[.slice none 0 0, .int .i64 11]) ∧ Below w.heap.size w w' := by
  have hb0 := below1 w (.cells #[.int .u64 e.1, .int .i64 e.2.1, .int .i64 e.2.2] 26)
  have C1 := check_any C A n c xs (w.alloc (.cells #[.int .u64 e.1, .int .i64 e.2.1, .int .i64 e.2.2] 26)) hn (h.kept hb0) (by omega) hw
  cases hc : checkE C xs with
  | false =>
    rw [hc] at C1
    have HC1 := Lib.hid C1
    have HB0 := Lib.hid hb0
    clear C1 hb0 hc hbad hw hn h
    go_enter Try.func34, Try.ntmps34
    go_wp2_with fail
    refine HC1.out.mono ?_
    rintro e' w1 ⟨rfl, hb1⟩
    have HB1 := Lib.hid (HB0.out.trans (hb1.mono (by simp)))
    have e1 : errE false = 11 := rfl
    clear hb1
    go_wp2
    go_ret2
    exact ⟨rfl, HB1.out⟩
  | true =>
    rw [hc] at C1 hbad
    have ho : oneB C e.1 e.2.1 e.2.2 = false := by simpa using hbad
    have hC : 0 ≤ C ∧ C ≤ 65536 := by simp only [checkE, Bool.and_eq_true, decide_eq_true_eq] at hc; exact hc.1
    have C2 := Lib.hid (fun w1 => by have := alone_any C e.1 e.2.1 e.2.2 w1 hC.1 hC.2; rw [ho] at this; exact this)
    have HC1 := Lib.hid C1
    have HB0 := Lib.hid hb0
    clear C1 hb0 hc hbad hw hn h ho hC
    go_enter Try.func34, Try.ntmps34
    go_wp2_with fail
    refine HC1.out.mono ?_
    rintro e' w1 ⟨rfl, hb1⟩
    have HB1 := Lib.hid (HB0.out.trans (hb1.mono (by simp)))
    have e1 : errE true = 0 := rfl
    have hcb := fun i => cell_of_row w1 w.heap.size i _ _ _ ((hb1.block w.heap.size (by simp)).trans (heap_alloc_new w (.cells #[.int .u64 e.1, .int .i64 e.2.1, .int .i64 e.2.2] 26)))
    clear hb1
    go_wp2_with fail
    refine (C2.out _).mono ?_
    rintro e' w2 ⟨rfl, hb2⟩
    have HB2 := Lib.hid (HB1.out.trans (hb2.mono HB1.out.size))
    clear hb2
    go_wp2
    go_ret2
    exact ⟨rfl, HB2.out⟩
/-- What stands once the list has been found right, and the new one right by itself. -/
theorem add_pred (C : Int) (xs : List Ext) (e : Ext) (hc : checkE C xs = true) (ho : oneB C e.1 e.2.1 e.2.2 = true) (A : Option Addr) (n c : Nat) (be : Nat) (w1 : World) (hn : xs.length = n) (h : Rd w1 A ((xs.map rowExt).flatten)) (hcap : n ≤ 2000000000)
    (hbe : w1.heap[be]? = some (.cells #[.int .u64 e.1, .int .i64 e.2.1, .int .i64 e.2.2] 26 (0, 0))) :
    Calls Try.prog 48 #[.slice A n c, .func (.func 49) #[] #[.pointer (some ⟨be, 0, none⟩)]] w1 fun e' w' => e' = .returned (.bool (xs.any (clash e))) ∧ Below w1.heap.size w1 w' :=
  containsf_any _ _ (clash e) (enters_of Try.func49 (by kernel_rfl) rfl) A n c xs w1 hn h (by omega) (fun x hx w2 hb => clash_any e x be w2 ((hb.block be (Array.getElem?_eq_some_iff.1 hbe).1).trans hbe) (small_of_one (checkE_all hc x hx)) (small_of_one ho))
set_option maxRecDepth 100000 in
set_option maxHeartbeats 2000000 in
theorem add_no2 (C : Int) (A : Option Addr) (n c : Nat) (xs : List Ext) (e : Ext) (w : World) (hn : xs.length = n) (h : Rd w A ((xs.map rowExt).flatten)) (hcap : n ≤ 2000000000) (hw : ∀ x ∈ xs, (Lit.int .u64 x.1).wf = true) (hc : checkE C xs = true) (ho : oneB C e.1 e.2.1 e.2.2 = true) (hcl : xs.any (clash e) = true) :
    Calls Try.prog 34 #[.int .i64 C, .slice A n c, .agg #[.int .u64 e.1, .int .i64 e.2.1, .int .i64 e.2.2]] w fun e' w' => e' = .returned (.tuple #[.slice none 0 0, .int .i64 7]) ∧ Below w.heap.size w w' := by
  have hb0 := below1 w (.cells #[.int .u64 e.1, .int .i64 e.2.1, .int .i64 e.2.2] 26)
  have C1 := check_any C A n c xs (w.alloc (.cells #[.int .u64 e.1, .int .i64 e.2.1, .int .i64 e.2.2] 26)) hn (h.kept hb0) (by omega) hw
  rw [hc] at C1
  have hC : 0 ≤ C ∧ C ≤ 65536 := by have := hc; simp only [checkE, Bool.and_eq_true, decide_eq_true_eq] at this; exact this.1
  have C2 := Lib.hid (fun w1 => by have := alone_any C e.1 e.2.1 e.2.2 w1 hC.1 hC.2; rw [ho] at this; exact this)
  have C3 := Lib.hid (fun (w1 : World) (hb : Below w.heap.size w w1) (hbe : w1.heap[w.heap.size]? = some (.cells #[.int .u64 e.1, .int .i64 e.2.1, .int .i64 e.2.2] 26 (0, 0))) => by have := add_pred C xs e hc ho A n c w.heap.size w1 hn (h.kept hb) hcap hbe; rw [hcl] at this; exact this)
  have HC1 := Lib.hid C1
  have HB0 := Lib.hid hb0
  clear C1 hb0 hc hw hn h ho hC hcl
  go_enter Try.func34, Try.ntmps34
  go_wp2_with fail
  refine HC1.out.mono ?_
  rintro e' w1 ⟨rfl, hb1⟩
  have HB1 := Lib.hid (HB0.out.trans (hb1.mono (by simp)))
  have e1 : errE true = 0 := rfl
  have HK1 := Lib.hid ((hb1.block w.heap.size (by simp)).trans (heap_alloc_new w (.cells #[.int .u64 e.1, .int .i64 e.2.1, .int .i64 e.2.2] 26)))
  have hcb := fun i => cell_of_row w1 w.heap.size i _ _ _ HK1.out
  have hz1 : w.heap.size < w1.heap.size := (Array.getElem?_eq_some_iff.1 HK1.out).1
  clear hb1
  go_wp2_with fail
  refine (C2.out _).mono ?_
  rintro e' w2 ⟨rfl, hb2⟩
  have HB2 := Lib.hid (HB1.out.trans (hb2.mono HB1.out.size))
  have HK2 := Lib.hid ((hb2.block w.heap.size hz1).trans HK1.out)
  clear hb2 hcb
  go_wp2_with fail
  refine (C3.out _ HB2.out HK2.out).mono ?_
  rintro e' w3 ⟨rfl, hb3⟩
  have HB3 := Lib.hid (HB2.out.trans (hb3.mono HB2.out.size))
  clear hb3
  go_wp2
  go_ret2
  exact ⟨rfl, HB3.out⟩
set_option maxRecDepth 100000 in
set_option maxHeartbeats 4000000 in
theorem add_ok (C : Int) (A : Option Addr) (n c : Nat) (xs : List Ext) (e : Ext) (w : World) (hn : xs.length = n) (hA : A = none → n = 0 ∧ c = 0) (h : Rd w A ((xs.map rowExt).flatten)) (hcap : n ≤ 2000000000) (hw : ∀ x ∈ xs, (Lit.int .u64 x.1).wf = true) (hc : checkE C xs = true) (ho : oneB C e.1 e.2.1 e.2.2 = true) (hcl : xs.any (clash e) = false) :
    Calls Try.prog 34 #[.int .i64 C, .slice A n c, .agg #[.int .u64 e.1, .int .i64 e.2.1, .int .i64 e.2.2]] w fun e' w' => ∃ v, e' = .returned (.tuple #[v, .int .i64 0]) ∧ w'.ownsRow w.heap.size 26 3 v (n + 1) (((sortV lessE (xs ++ [e])).map rowExt).flatten) ∧ Below w.heap.size w w' := by
  have hb0 := below1 w (.cells #[.int .u64 e.1, .int .i64 e.2.1, .int .i64 e.2.2] 26)
  have C1 := check_any C A n c xs (w.alloc (.cells #[.int .u64 e.1, .int .i64 e.2.1, .int .i64 e.2.2] 26)) hn (h.kept hb0) (by omega) hw
  rw [hc] at C1
  have hC : 0 ≤ C ∧ C ≤ 65536 := by have := hc; simp only [checkE, Bool.and_eq_true, decide_eq_true_eq] at this; exact this.1
  have C2 := Lib.hid (fun w1 => by have := alone_any C e.1 e.2.1 e.2.2 w1 hC.1 hC.2; rw [ho] at this; exact this)
  have C3 := Lib.hid (fun (w1 : World) (hb : Below w.heap.size w w1) (hbe : w1.heap[w.heap.size]? = some (.cells #[.int .u64 e.1, .int .i64 e.2.1, .int .i64 e.2.2] 26 (0, 0))) => by have := add_pred C xs e hc ho A n c w.heap.size w1 hn (h.kept hb) hcap hbe; rw [hcl] at this; exact this)
  have C4 := Lib.hid (fun (w1 : World) (hb : Below w.heap.size w w1) => cloneE_any A n c xs w1 hn hA (h.kept hb) (by omega))
  have C5 := Lib.hid (fun (w1 : World) (A' : Option Addr) (c' : Nat) (h1 : Rd w1 A' (((xs ++ [e]).map rowExt).flatten)) => sort_any A' (n + 1) c' (xs ++ [e]) w1 (by simp [hn]) h1 (by omega))
  have HC1 := Lib.hid C1
  have HB0 := Lib.hid hb0
  have H1 := Lib.hid (rowExt_one e)
  have HM : Hid ((xs.map rowExt).flatten ++ rowExt e = ((xs ++ [e]).map rowExt).flatten) := Lib.hid (by simp)
  clear C1 hb0 hc hw hn h ho hC hcl hA
  go_enter Try.func34, Try.ntmps34
  go_wp2_with fail
  refine HC1.out.mono ?_
  rintro e' w1 ⟨rfl, hb1⟩
  have HB1 := Lib.hid (HB0.out.trans (hb1.mono (by simp)))
  have e1 : errE true = 0 := rfl
  have HK1 := Lib.hid ((hb1.block w.heap.size (by simp)).trans (heap_alloc_new w (.cells #[.int .u64 e.1, .int .i64 e.2.1, .int .i64 e.2.2] 26)))
  have hcb := fun i => cell_of_row w1 w.heap.size i _ _ _ HK1.out
  have hz1 : w.heap.size < w1.heap.size := (Array.getElem?_eq_some_iff.1 HK1.out).1
  clear hb1
  go_wp2_with fail
  refine (C2.out _).mono ?_
  rintro e' w2 ⟨rfl, hb2⟩
  have HB2 := Lib.hid (HB1.out.trans (hb2.mono HB1.out.size))
  have HK2 := Lib.hid ((hb2.block w.heap.size hz1).trans HK1.out)
  clear hb2 hcb
  go_wp2_with fail
  refine (C3.out _ HB2.out HK2.out).mono ?_
  rintro e' w3 ⟨rfl, hb3⟩
  have hz2 : w.heap.size < w2.heap.size := (Array.getElem?_eq_some_iff.1 HK2.out).1
  have HB3 := Lib.hid (HB2.out.trans (hb3.mono HB2.out.size))
  have HK3 := Lib.hid ((hb3.block w.heap.size hz2).trans HK2.out)
  have hz3 : w.heap.size < w3.heap.size := (Array.getElem?_eq_some_iff.1 HK3.out).1
  clear hb3
  have HK := Lib.hid (fun (W : World) (hb : Below (w.heap.size + 1) w3 W) => show W.cell? ⟨w.heap.size, 0, none⟩ = some (.int .u64 e.1) ∧ W.cell? ⟨w.heap.size, 1, none⟩ = some (.int .i64 e.2.1) ∧ W.cell? ⟨w.heap.size, 2, none⟩ = some (.int .i64 e.2.2) from by
    have hk := (hb.block w.heap.size (by omega)).trans HK3.out
    exact ⟨by rw [cell_of_row W w.heap.size 0 _ _ _ hk]; rfl, by rw [cell_of_row W w.heap.size 1 _ _ _ hk]; rfl, by rw [cell_of_row W w.heap.size 2 _ _ _ hk]; rfl⟩)
  obtain ⟨k0, k1, k2⟩ := HK.out w3 (Below.refl _ _)
  go_upto_region 5 with fail
  go_cut [6, 7] (fun v s7 wx => ∃ (W : World), W = wx ∧ s7 = .int .i64 0 ∧ Hid (wx.ownsRow w.heap.size 26 3 v (n + 1) (((sortV lessE (xs ++ [e])).map rowExt).flatten)) ∧ Hid (Below w.heap.size w wx))
  case first =>
    go_region_held3 (fun w' => w'.cell? ⟨w.heap.size, 0, none⟩ = some (.int .u64 e.1) ∧ w'.cell? ⟨w.heap.size, 1, none⟩ = some (.int .i64 e.2.1) ∧ w'.cell? ⟨w.heap.size, 2, none⟩ = some (.int .i64 e.2.2))
      (first
        | exact ⟨k0, k1, k2⟩
        | exact HK4.out
        | exact HK.out _ (HB4.out.alloc HZ4.out _)
        | exact HK.out _ ((Below.refl _ _).alloc hz3 _)
        | exact HK6.out
        | exact HK7.out
        | exact HK.out _ ((Below.refl (w.heap.size + 1) w3).alloc hz3 _).drew)
      (first
        | (go_at_call 51; refine (C4.out _ (by first | exact HB3.out.drew | exact (HB3.out.alloc HB3.out.size _).drew)).mono ?_; rintro e' w4 ⟨v4, rfl, hown4, hb4⟩; obtain ⟨A4, c4, rfl, _⟩ := own_sh hown4; have HB4 : Hid (Below (w.heap.size + 1) w3 w4) := Lib.hid (by first | exact (Below.refl _ _).drew.trans (hb4.mono hz3) | exact ((Below.refl (w.heap.size + 1) w3).alloc hz3 _).drew.trans (hb4.mono (Nat.le_trans hz3 (by simp)))); have HO4 : Hid (w4.ownsRow (w.heap.size + 1) 26 3 (.slice A4 n c4) n ((xs.map rowExt).flatten)) := Lib.hid (own_mono hown4 (by first | exact hz3 | exact Nat.le_trans hz3 (by simp))); have HK4 := Lib.hid (HK.out w4 HB4.out); have HBK := Lib.hid hb4; have HZ4 : Hid (w.heap.size + 1 ≤ w4.heap.size) := Lib.hid (Nat.le_trans hz3 HB4.out.size); clear hown4 hb4)
        | (refine step_append_sh (by rfl) _ _ _ (by rfl) (w.heap.size + 1) 26 (.agg #[.int .u64 0, .int .i64 0, .int .i64 0]) 3 24 Try.underlying22 infoE rfl (by decide) _ n _ (by rfl) (HO4.out.alloc _) (some ⟨w4.heap.size, 0, none⟩) 1 1 (rowExt e) (by rfl) (by simp) (by rfl) (rd_new _ _ _) H1.out (by unfold maxLen; omega) (by omega) (Nat.le_trans HZ4.out (by simp)) ?_; intro A6 c6 w6 hown6 hg6; have HB6 := Lib.hid (below_app (HB4.out.alloc HZ4.out _) (Nat.le_trans HZ4.out (by simp)) (HO4.out.alloc _) hg6); rw [HM.out] at hown6; have HO6 := Lib.hid hown6; have HK6 := Lib.hid (HK.out w6 HB6.out); clear hown6 hg6)
        | (refine step_append_sh (by rfl) _ _ _ (by rfl) (w.heap.size + 1) 26 (.agg #[.int .u64 0, .int .i64 0, .int .i64 0]) 3 24 Try.underlying22 infoE rfl (by decide) _ n _ (by rfl) HO4.out (some ⟨w3.heap.size, 0, none⟩) 1 1 (rowExt e) (by rfl) (by simp) (by rfl) (Rd.kept (w := (w3.alloc (.cells #[.int .u64 e.1, .int .i64 e.2.1, .int .i64 e.2.2] 26)).drew) (show Rd (w3.alloc (.cells #[.int .u64 e.1, .int .i64 e.2.1, .int .i64 e.2.2] 26)).drew _ _ from rd_new w3 (rowExt e) 26) HBK.out) H1.out (by unfold maxLen; omega) (by omega) HZ4.out ?_; intro A6 c6 w6 hown6 hg6; have HB6 := Lib.hid (below_app HB4.out HZ4.out HO4.out hg6); rw [HM.out] at hown6; have HO6 := Lib.hid hown6; have HK6 := Lib.hid (HK.out w6 HB6.out); clear hown6 hg6)
        | (go_at_call 21; refine (C5.out _ _ _ (own_rd' HO6.out)).mono ?_; rintro e' w7 ⟨v7, rfl, hown7, hb7⟩; obtain ⟨A7, c7, rfl, _⟩ := own_sh hown7; have HB7 := Lib.hid (HB6.out.trans (hb7.mono (Nat.le_trans hz3 HB6.out.size))); have HO7 := Lib.hid (own_mono hown7 (show w.heap.size ≤ w6.heap.size by have := HB6.out.size; omega)); have HK7 := Lib.hid (HK.out w7 HB7.out); clear hown7 hb7))
    all_goals (go_wp2_with fail; go_meet; exact ⟨_, rfl, rfl, HO7, Lib.hid (HB3.out.trans (HB7.out.mono (by omega)))⟩)
  case rest =>
  obtain ⟨W, hW, rfl, HO, HB⟩ := hcut
  subst hW
  obtain ⟨A9, c9, rfl, _⟩ := own_sh HO.out
  go_wp2
  go_ret2
  exact ⟨_, rfl, HO.out, HB.out⟩
end Go.Proofs.Ytmipfmeafbeegaa
