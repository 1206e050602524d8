/- The walk of SpaceBack. -/
import Derived.Test.YtilmlblejopbmaaSpBackPure
import Derived.Test.YtilmlblejopbmaaSpAwake
import Derived.Test.YtilmlblejopbmaaSpExts
import Derived.Test.YtilmlblejopbmaaOExt
namespace Go.Proofs.Ytilmlblejopbmaa
open Go.RowKit
set_option linter.unusedVariables false

theorem wf_u64b {k : Int} (h : (Lit.int .u64 k).wf = true) : 0 ≤ k ∧ k < 18446744073709551616 := by
  simp only [Lit.wf, Bool.and_eq_true, decide_eq_true_eq] at h
  have hmin : IntKind.u64.min = 0 := rfl
  have hmax : IntKind.u64.max = 18446744073709551615 := rfl
  omega
set_option maxRecDepth 100000 in
set_option maxHeartbeats 4000000 in
theorem back_bad (C : Int) (A : Option Addr) (n c : Nat) (xs : List Ext) (s m : Int) (w : World) (hn : xs.length = n) (hA : A = none → n = 0 ∧ c = 0) (h : Rd w A ((xs.map rowExt).flatten)) (hcap : n ≤ 5864062014700) (hw : ∀ x ∈ xs, (Lit.int .u64 x.1).wf = true) (hs : (Lit.int .u64 s).wf = true) (hc : checkE C xs = false) :
    Calls Try.prog 6 #[.int .i64 C, .slice A n c, .int .u64 s, .int .i64 m] w fun e w' => e = .returned (.bool true) ∧ Below w.heap.size w w' := by
  have C0 := Lib.hid (fun w1 => awake22 w1)
  have C1 := Lib.hid (fun (w1 : World) (hb : Below w.heap.size w w1) => by have := check_any C A n c xs w1 hn (h.kept hb) hcap hw; rw [hc] at this; exact this)
  have e1 : errE false = 11 := rfl
  clear hn h hw hc hA hs
  go_enter Try.func6, Try.ntmps6
  go_wp2_with fail
  refine (C0.out _).mono ?_
  rintro e w1 ⟨rfl, hb1⟩
  have HB1 := Lib.hid hb1
  clear hb1
  go_wp2_with fail
  refine (C1.out _ HB1.out).mono ?_
  rintro e w2 ⟨rfl, hb2⟩
  have HB2 := Lib.hid (HB1.out.trans (hb2.mono HB1.out.size))
  clear hb2
  go_wp2_with fail
  refine (C0.out _).mono ?_
  rintro e w3 ⟨rfl, hb3⟩
  have HB3 := Lib.hid (HB2.out.trans (hb3.mono HB2.out.size))
  clear hb3
  go_wp2
  go_ret
  exact ⟨rfl, HB3.out⟩
set_option maxRecDepth 100000 in
set_option maxHeartbeats 4000000 in
theorem back_arg (C : Int) (A : Option Addr) (n c : Nat) (xs : List Ext) (s m : Int) (w : World) (hn : xs.length = n) (hA : A = none → n = 0 ∧ c = 0) (h : Rd w A ((xs.map rowExt).flatten)) (hcap : n ≤ 5864062014700) (hw : ∀ x ∈ xs, (Lit.int .u64 x.1).wf = true) (hs : (Lit.int .u64 s).wf = true) (hc : checkE C xs = true) (hm : m < 1 ∨ 9 < m) :
    Calls Try.prog 6 #[.int .i64 C, .slice A n c, .int .u64 s, .int .i64 m] w fun e w' => e = .returned (.bool true) ∧ Below w.heap.size w w' := by
  have C0 := Lib.hid (fun w1 => awake22 w1)
  have C1 := Lib.hid (fun (w1 : World) (hb : Below w.heap.size w w1) => by have := check_any C A n c xs w1 hn (h.kept hb) hcap hw; rw [hc] at this; exact this)
  have C2 := Lib.hid (fun (w1 : World) (hb : Below w.heap.size w w1) => fit_arg C A n c xs m w1 hn (h.kept hb) hcap hw hc hm)
  have e1 : errE true = 0 := rfl
  clear hn h hw hc hA hs
  go_enter Try.func6, Try.ntmps6
  go_wp2_with fail
  refine (C0.out _).mono ?_
  rintro e w1 ⟨rfl, hb1⟩
  have HB1 := Lib.hid hb1
  clear hb1
  go_wp2_with fail
  refine (C1.out _ HB1.out).mono ?_
  rintro e w2 ⟨rfl, hb2⟩
  have HB2 := Lib.hid (HB1.out.trans (hb2.mono HB1.out.size))
  clear hb2
  go_wp2_with fail
  refine (C2.out _ HB2.out).mono ?_
  rintro e w3 ⟨rfl, hb3⟩
  have HB3 := Lib.hid (HB2.out.trans (hb3.mono HB2.out.size))
  clear hb3
  rcases hm with hm | hm
  · go_wp2
    go_ret
    exact ⟨rfl, HB3.out⟩
  · have hm' : ¬ m < 1 := by omega
    go_wp2
    go_ret
    exact ⟨rfl, HB3.out⟩
set_option maxRecDepth 100000 in
set_option maxHeartbeats 4000000 in
theorem back_full (C : Int) (A : Option Addr) (n c : Nat) (xs : List Ext) (s m : Int) (w : World) (hn : xs.length = n) (hA : A = none → n = 0 ∧ c = 0) (h : Rd w A ((xs.map rowExt).flatten)) (hcap : n ≤ 5864062014700) (hw : ∀ x ∈ xs, (Lit.int .u64 x.1).wf = true) (hs : (Lit.int .u64 s).wf = true) (hc : checkE C xs = true) (hm1 : 1 ≤ m) (hm2 : m ≤ 9) (hf : C - m < endF 0 xs) :
    Calls Try.prog 6 #[.int .i64 C, .slice A n c, .int .u64 s, .int .i64 m] w fun e w' => e = .returned (.bool true) ∧ Below w.heap.size w w' := by
  have C0 := Lib.hid (fun w1 => awake22 w1)
  have C1 := Lib.hid (fun (w1 : World) (hb : Below w.heap.size w w1) => by have := check_any C A n c xs w1 hn (h.kept hb) hcap hw; rw [hc] at this; exact this)
  have hch := chainE hc
  obtain ⟨q1, q2⟩ := check_cap hc
  obtain ⟨t1, t2⟩ := endF_ge xs 0 (by omega) hch
  have C2 := Lib.hid (fun (w1 : World) (hb : Below w.heap.size w w1) => fit_full C A n c xs m w1 hn (h.kept hb) hcap hw hc hm1 hm2 hf)
  have C3 := Lib.hid (fun (w1 : World) (hb : Below w.heap.size w w1) => by have := tail_any A n c xs w1 hn (h.kept hb) hcap; rw [tailE_chain hch] at this; exact this)
  have e1 : errE true = 0 := rfl
  generalize endF 0 xs = T at *
  clear hn h hw hc hA hs hch
  go_enter Try.func6, Try.ntmps6
  go_wp2_with fail
  refine (C0.out _).mono ?_
  rintro e w1 ⟨rfl, hb1⟩
  have HB1 := Lib.hid hb1
  clear hb1
  go_wp2_with fail
  refine (C1.out _ HB1.out).mono ?_
  rintro e w2 ⟨rfl, hb2⟩
  have HB2 := Lib.hid (HB1.out.trans (hb2.mono HB1.out.size))
  clear hb2
  go_wp2_with fail
  refine (C2.out _ HB2.out).mono ?_
  rintro e w3 ⟨rfl, hb3⟩
  have HB3 := Lib.hid (HB2.out.trans (hb3.mono HB2.out.size))
  clear hb3
  go_wp2_with fail
  refine (C3.out _ HB3.out).mono ?_
  rintro e w4 ⟨rfl, hb4⟩
  have HB4 := Lib.hid (HB3.out.trans (hb4.mono HB3.out.size))
  have hlt : C - T < m := by omega
  clear hb4
  go_wp2
  go_ret
  exact ⟨rfl, HB4.out⟩
set_option maxRecDepth 100000 in
set_option maxHeartbeats 4000000 in
theorem back_zero (C : Int) (A : Option Addr) (n c : Nat) (xs : List Ext) (s m : Int) (w : World) (hn : xs.length = n) (hA : A = none → n = 0 ∧ c = 0) (h : Rd w A ((xs.map rowExt).flatten)) (hcap : n ≤ 5864062014700) (hw : ∀ x ∈ xs, (Lit.int .u64 x.1).wf = true) (hs : (Lit.int .u64 s).wf = true) (hc : checkE C xs = true) (hm1 : 1 ≤ m) (hm2 : m ≤ 9) (hf : endF 0 xs ≤ C - m) (hz : s = 0) :
    Calls Try.prog 6 #[.int .i64 C, .slice A n c, .int .u64 s, .int .i64 m] w fun e w' => e = .returned (.bool true) ∧ Below w.heap.size w w' := by
  have C0 := Lib.hid (fun w1 => awake22 w1)
  have C1 := Lib.hid (fun (w1 : World) (hb : Below w.heap.size w w1) => by have := check_any C A n c xs w1 hn (h.kept hb) hcap hw; rw [hc] at this; exact this)
  have hch := chainE hc
  obtain ⟨q1, q2⟩ := check_cap hc
  obtain ⟨t1, t2⟩ := endF_ge xs 0 (by omega) hch
  have hn2 := chain_small hc
  have C2 := Lib.hid (fun (w1 : World) (hb : Below w.heap.size w w1) => fit_ok C A n c xs m w1 hn (h.kept hb) hcap hw hc hm1 hm2 hf)
  have C3 := Lib.hid (fun (w1 : World) (hb : Below w.heap.size w w1) => add_no1 C A n c xs (s, endF 0 xs, m) w1 hn (h.kept hb) (by omega) hw (.inr (by unfold oneB; simp; omega)))
  have e1 : errE true = 0 := rfl
  obtain ⟨tw, htw⟩ : ∃ tw, tw = (s == 0) := ⟨_, rfl⟩
  have HTW := Lib.hid htw
  have HTWICE : Hid ((tw || xs.any (fun y => decide (y.1 = s))) = true) := Lib.hid (by rw [htw, hz]; rfl)
  have HN := Lib.hid hn
  have HR := Lib.hid h
  generalize endF 0 xs = T at *
  clear hn h hw hc hA hs hch hz htw
  go_enter Try.func6, Try.ntmps6
  go_wp2_with fail
  refine (C0.out _).mono ?_
  rintro e w1 ⟨rfl, hb1⟩
  have HB1 := Lib.hid hb1
  clear hb1
  go_wp2_with fail
  refine (C1.out _ HB1.out).mono ?_
  rintro e w2 ⟨rfl, hb2⟩
  have HB2 := Lib.hid (HB1.out.trans (hb2.mono HB1.out.size))
  clear hb2
  go_wp2_with fail
  refine (C2.out _ HB2.out).mono ?_
  rintro e w3 ⟨rfl, hb3⟩
  have HB3 := Lib.hid (HB2.out.trans (hb3.mono HB2.out.size))
  clear hb3
  go_wp2_with fail
  refine (C3.out _ (HB3.out.alloc HB3.out.size _)).mono ?_
  rintro e w4 ⟨rfl, hb4⟩
  have HB4 := Lib.hid ((HB3.out.alloc HB3.out.size _).trans (hb4.mono (HB3.out.alloc HB3.out.size _).size))
  clear hb4
  go_wp2_with fail
  go_loopw [15, 14] (fun i t wr => ∃ (k : Nat), k ≤ n ∧ i = .int .i64 k ∧ t = .bool (tw || (xs.take k).any (fun y => decide (y.1 = s))) ∧ Hid (Below w.heap.size w wr)) (fun i _ _ => n - (intOf i).toNat)
  case atStart => exact ⟨0, by omega, rfl, by simp [HTW.out], HB4⟩
  case round =>
    obtain ⟨wo, hwo⟩ : ∃ wo : World, wo = wr := ⟨_, rfl⟩
    subst hwo
    obtain ⟨k, hk, rfl, rfl, HB⟩ := hrel
    by_cases hlt : k < n
    · have hkx : k < xs.length := by have := HN.out; omega
      obtain ⟨b, o, rfl, hrow⟩ := (HR.out.kept HB.out).at_row (extRow_len xs) (by decide) (i := k) (r := rowExt xs[k]) (by simp [List.getElem?_eq_getElem hkx])
      have HS : Hid ((xs.take (k + 1)).any (fun y => decide (y.1 = s)) = ((xs.take k).any (fun y => decide (y.1 = s)) || decide (xs[k].1 = s))) := Lib.hid (by
        rw [List.take_add_one, List.getElem?_eq_getElem hkx, List.any_append]; simp)
      have k0 := hrow 0 _ rfl
      simp only [Nat.add_zero] at k0
      have b1 : (0 : Int) ≤ (k : Int) ∧ (k : Int) < (n : Int) := by omega
      clear hrow
      generalize xs[k] = x at *
      generalize hT : (xs.take k).any (fun y => decide (y.1 = s)) = t0 at *
      clear hT
      generalize hU : (tw || t0) = u0 at *
      have HU := Lib.hid hU
      clear hU
      cases u0 with
      | true =>
        have HV : Hid ((tw || (xs.take (k + 1)).any (fun y => decide (y.1 = s))) = true) := Lib.hid (by rw [HS.out, ← Bool.or_assoc, HU.out]; rfl)
        go_wp2
        go_roundw
        case rel => exact ⟨k + 1, by omega, by go_num, by rw [HV.out], HB⟩
        case measure => simp [intOf]; omega
      | false =>
        by_cases q : x.1 = s
        · have q' : (x.1 == s) = true := by simpa using q
          have HV : Hid ((tw || (xs.take (k + 1)).any (fun y => decide (y.1 = s))) = true) := Lib.hid (by rw [HS.out, ← Bool.or_assoc, HU.out]; simpa using q)
          clear q
          go_wp2
          go_roundw
          case rel => exact ⟨k + 1, by omega, by go_num, by rw [HV.out], HB⟩
          case measure => simp [intOf]; omega
        · have q' : (x.1 == s) = false := by simpa using q
          have HV : Hid ((tw || (xs.take (k + 1)).any (fun y => decide (y.1 = s))) = false) := Lib.hid (by rw [HS.out, ← Bool.or_assoc, HU.out]; simpa using q)
          clear q
          go_wp2
          go_roundw
          case rel => exact ⟨k + 1, by omega, by go_num, by rw [HV.out], HB⟩
          case measure => simp [intOf]; omega
    · obtain rfl : k = n := by omega
      have HT : Hid ((tw || (xs.take k).any (fun y => decide (y.1 = s))) = true) := Lib.hid (by rw [List.take_of_length_le (by have := HN.out; omega)]; exact HTWICE.out)
      rw [HT.out]
      go_wp2
      go_ret
      exact ⟨rfl, HB.out⟩
set_option maxRecDepth 100000 in
set_option maxHeartbeats 4000000 in
theorem back_twice (C : Int) (A : Option Addr) (n c : Nat) (xs : List Ext) (s m : Int) (w : World) (hn : xs.length = n) (hA : A = none → n = 0 ∧ c = 0) (h : Rd w A ((xs.map rowExt).flatten)) (hcap : n ≤ 5864062014700) (hw : ∀ x ∈ xs, (Lit.int .u64 x.1).wf = true) (hs : (Lit.int .u64 s).wf = true) (hc : checkE C xs = true) (hm1 : 1 ≤ m) (hm2 : m ≤ 9) (hf : endF 0 xs ≤ C - m) (hz : 1 ≤ s) (hany : xs.any (fun y => decide (y.1 = s)) = true) :
    Calls Try.prog 6 #[.int .i64 C, .slice A n c, .int .u64 s, .int .i64 m] w fun e w' => e = .returned (.bool true) ∧ Below w.heap.size w w' := by
  have C0 := Lib.hid (fun w1 => awake22 w1)
  have C1 := Lib.hid (fun (w1 : World) (hb : Below w.heap.size w w1) => by have := check_any C A n c xs w1 hn (h.kept hb) hcap hw; rw [hc] at this; exact this)
  have hch := chainE hc
  obtain ⟨q1, q2⟩ := check_cap hc
  obtain ⟨t1, t2⟩ := endF_ge xs 0 (by omega) hch
  have hn2 := chain_small hc
  have C2 := Lib.hid (fun (w1 : World) (hb : Below w.heap.size w w1) => fit_ok C A n c xs m w1 hn (h.kept hb) hcap hw hc hm1 hm2 hf)
  have hone : oneB C s (endF 0 xs) m = true := (oneB_iff _ _ _ _).2 (by omega)
  have C3 := Lib.hid (fun (w1 : World) (hb : Below w.heap.size w w1) => add_no2 C A n c xs (s, endF 0 xs, m) w1 hn (h.kept hb) (by omega) hw hc hone (by rw [clash_tail (x := (s, endF 0 xs, m)) hc (Int.le_refl _)]; exact hany))
  have e1 : errE true = 0 := rfl
  obtain ⟨tw, htw⟩ : ∃ tw, tw = (s == 0) := ⟨_, rfl⟩
  have HTW := Lib.hid htw
  have HTWICE : Hid ((tw || xs.any (fun y => decide (y.1 = s))) = true) := Lib.hid (by rw [hany]; simp)
  have HN := Lib.hid hn
  have HR := Lib.hid h
  generalize endF 0 xs = T at *
  clear hn h hw hc hA hs hch hz htw hany hone
  go_enter Try.func6, Try.ntmps6
  go_wp2_with fail
  refine (C0.out _).mono ?_
  rintro e w1 ⟨rfl, hb1⟩
  have HB1 := Lib.hid hb1
  clear hb1
  go_wp2_with fail
  refine (C1.out _ HB1.out).mono ?_
  rintro e w2 ⟨rfl, hb2⟩
  have HB2 := Lib.hid (HB1.out.trans (hb2.mono HB1.out.size))
  clear hb2
  go_wp2_with fail
  refine (C2.out _ HB2.out).mono ?_
  rintro e w3 ⟨rfl, hb3⟩
  have HB3 := Lib.hid (HB2.out.trans (hb3.mono HB2.out.size))
  clear hb3
  go_wp2_with fail
  refine (C3.out _ (HB3.out.alloc HB3.out.size _)).mono ?_
  rintro e w4 ⟨rfl, hb4⟩
  have HB4 := Lib.hid ((HB3.out.alloc HB3.out.size _).trans (hb4.mono (HB3.out.alloc HB3.out.size _).size))
  clear hb4
  go_wp2_with fail
  go_loopw [15, 14] (fun i t wr => ∃ (k : Nat), k ≤ n ∧ i = .int .i64 k ∧ t = .bool (tw || (xs.take k).any (fun y => decide (y.1 = s))) ∧ Hid (Below w.heap.size w wr)) (fun i _ _ => n - (intOf i).toNat)
  case atStart => exact ⟨0, by omega, rfl, by simp [HTW.out], HB4⟩
  case round =>
    obtain ⟨wo, hwo⟩ : ∃ wo : World, wo = wr := ⟨_, rfl⟩
    subst hwo
    obtain ⟨k, hk, rfl, rfl, HB⟩ := hrel
    by_cases hlt : k < n
    · have hkx : k < xs.length := by have := HN.out; omega
      obtain ⟨b, o, rfl, hrow⟩ := (HR.out.kept HB.out).at_row (extRow_len xs) (by decide) (i := k) (r := rowExt xs[k]) (by simp [List.getElem?_eq_getElem hkx])
      have HS : Hid ((xs.take (k + 1)).any (fun y => decide (y.1 = s)) = ((xs.take k).any (fun y => decide (y.1 = s)) || decide (xs[k].1 = s))) := Lib.hid (by
        rw [List.take_add_one, List.getElem?_eq_getElem hkx, List.any_append]; simp)
      have k0 := hrow 0 _ rfl
      simp only [Nat.add_zero] at k0
      have b1 : (0 : Int) ≤ (k : Int) ∧ (k : Int) < (n : Int) := by omega
      clear hrow
      generalize xs[k] = x at *
      generalize hT : (xs.take k).any (fun y => decide (y.1 = s)) = t0 at *
      clear hT
      generalize hU : (tw || t0) = u0 at *
      have HU := Lib.hid hU
      clear hU
      cases u0 with
      | true =>
        have HV : Hid ((tw || (xs.take (k + 1)).any (fun y => decide (y.1 = s))) = true) := Lib.hid (by rw [HS.out, ← Bool.or_assoc, HU.out]; rfl)
        go_wp2
        go_roundw
        case rel => exact ⟨k + 1, by omega, by go_num, by rw [HV.out], HB⟩
        case measure => simp [intOf]; omega
      | false =>
        by_cases q : x.1 = s
        · have q' : (x.1 == s) = true := by simpa using q
          have HV : Hid ((tw || (xs.take (k + 1)).any (fun y => decide (y.1 = s))) = true) := Lib.hid (by rw [HS.out, ← Bool.or_assoc, HU.out]; simpa using q)
          clear q
          go_wp2
          go_roundw
          case rel => exact ⟨k + 1, by omega, by go_num, by rw [HV.out], HB⟩
          case measure => simp [intOf]; omega
        · have q' : (x.1 == s) = false := by simpa using q
          have HV : Hid ((tw || (xs.take (k + 1)).any (fun y => decide (y.1 = s))) = false) := Lib.hid (by rw [HS.out, ← Bool.or_assoc, HU.out]; simpa using q)
          clear q
          go_wp2
          go_roundw
          case rel => exact ⟨k + 1, by omega, by go_num, by rw [HV.out], HB⟩
          case measure => simp [intOf]; omega
    · obtain rfl : k = n := by omega
      have HT : Hid ((tw || (xs.take k).any (fun y => decide (y.1 = s))) = true) := Lib.hid (by rw [List.take_of_length_le (by have := HN.out; omega)]; exact HTWICE.out)
      rw [HT.out]
      go_wp2
      go_ret
      exact ⟨rfl, HB.out⟩
set_option maxRecDepth 100000 in
set_option maxHeartbeats 4000000 in
theorem back_ok (C : Int) (A : Option Addr) (n c : Nat) (xs : List Ext) (s m : Int) (w : World) (hn : xs.length = n) (hA : A = none → n = 0 ∧ c = 0) (h : Rd w A ((xs.map rowExt).flatten)) (hcap : n ≤ 5864062014700) (hw : ∀ x ∈ xs, (Lit.int .u64 x.1).wf = true) (hs : (Lit.int .u64 s).wf = true) (hc : checkE C xs = true) (hm1 : 1 ≤ m) (hm2 : m ≤ 9) (hf : endF 0 xs ≤ C - m) (hz : 1 ≤ s) (hany : xs.any (fun y => decide (y.1 = s)) = false) :
    Calls Try.prog 6 #[.int .i64 C, .slice A n c, .int .u64 s, .int .i64 m] w fun e w' => e = .returned (.bool true) ∧ Below w.heap.size w w' := by
  have C0 := Lib.hid (fun w1 => awake22 w1)
  have C1 := Lib.hid (fun (w1 : World) (hb : Below w.heap.size w w1) => by have := check_any C A n c xs w1 hn (h.kept hb) hcap hw; rw [hc] at this; exact this)
  have hch := chainE hc
  obtain ⟨q1, q2⟩ := check_cap hc
  obtain ⟨t1, t2⟩ := endF_ge xs 0 (by omega) hch
  have hn2 := chain_small hc
  have C2 := Lib.hid (fun (w1 : World) (hb : Below w.heap.size w w1) => fit_ok C A n c xs m w1 hn (h.kept hb) hcap hw hc hm1 hm2 hf)
  have hone : oneB C s (endF 0 xs) m = true := (oneB_iff _ _ _ _).2 (by omega)
  obtain ⟨x, hx⟩ : ∃ x : Ext, x = (s, endF 0 xs, m) := ⟨_, rfl⟩
  have hx1 : oneB C x.1 x.2.1 x.2.2 = true := by rw [hx]; exact hone
  have hx2 : endF 0 xs ≤ x.2.1 := by rw [hx]; exact Int.le_refl _
  have hx3 : xs.any (fun y => decide (y.1 = x.1)) = false := by rw [hx]; exact hany
  have hso := sort_snoc hc hx1 hx2
  have hck := checkE_snoc hc hx1 hx2 hx3
  have hch2 := chainE hck
  have C3 := Lib.hid (fun (w1 : World) (hb : Below w.heap.size w w1) => by have := add_ok C A n c xs x w1 hn hA (h.kept hb) (by omega) hw hc hx1 (by rw [clash_tail hc hx2]; exact hx3); rw [hso, hx] at this; exact this)
  have hyl : (xs ++ [x]).length = n + 1 := by simp [hn]
  have hwy : ∀ y ∈ xs ++ [x], (Lit.int .u64 y.1).wf = true := by
    intro y hy
    rcases List.mem_append.1 hy with hy | hy
    · exact hw y hy
    · simp at hy; rw [hy, hx]; exact hs
  have hanyy : (xs ++ [x]).any (fun y => decide (y.1 = s)) = true := by rw [List.any_append, hx]; simp
  have hdel : delE s (xs ++ [x]) = xs := by have := delE_snoc hx3; rw [hx] at this ⊢; exact this
  have C4 := Lib.hid (fun (A2 : Option Addr) (c2 : Nat) (w1 : World) (hA2 : A2 = none → n + 1 = 0 ∧ c2 = 0) (h2 : Rd w1 A2 (((xs ++ [x]).map rowExt).flatten)) => by have := remove_any A2 (n + 1) c2 (xs ++ [x]) s w1 hyl hA2 h2 (by omega); rw [hdel] at this; simp only [hanyy, if_true] at this; rw [hn] at this; exact this)
  have C5 := Lib.hid (fun (A2 : Option Addr) (c2 : Nat) (w1 : World) (hb : Below w.heap.size w w1) (h2 : Rd w1 A2 ((xs.map rowExt).flatten)) => Ext_plainL A2 n c2 xs A c w1 hn h2 (h.kept hb) (by omega))
  have C6 := Lib.hid (fun (A2 : Option Addr) (c2 : Nat) (w1 : World) (h2 : Rd w1 A2 (((xs ++ [x]).map rowExt).flatten)) => by have := tail_any A2 (n + 1) c2 (xs ++ [x]) w1 hyl h2 (by omega); rw [tailE_chain hch2, endF_snoc, hx] at this; exact this)
  have C7 := Lib.hid (fun (A2 : Option Addr) (c2 : Nat) (w1 : World) (h2 : Rd w1 A2 (((xs ++ [x]).map rowExt).flatten)) => by have := live_any A2 (n + 1) c2 (xs ++ [x]) w1 hyl h2 (by omega); rw [liveE_chain hch2, sumN_append, show sumN [x] = m by rw [hx]; simp [sumN]] at this; exact this)
  have C8 := Lib.hid (fun (w1 : World) (hb : Below w.heap.size w w1) => by have := live_any A n c xs w1 hn (h.kept hb) hcap; rw [liveE_chain hch] at this; exact this)
  have C9 := Lib.hid (fun (A2 : Option Addr) (c2 : Nat) (w1 : World) (h2 : Rd w1 A2 (((xs ++ [x]).map rowExt).flatten)) => by have := check_any C A2 (n + 1) c2 (xs ++ [x]) w1 hyl h2 (by omega) hwy; rw [hck] at this; exact this)
  have hsn := sumN_ge xs 0 hch
  have e1 : errE true = 0 := rfl
  have HN := Lib.hid hn
  have HYL := Lib.hid (show (((xs ++ [x]).map rowExt).flatten) ≠ [] by intro e; have := congrArg List.length e; rw [extRows_len, hyl] at this; simp at this)
  have HX : Hid ((((xs ++ [(s, endF 0 xs, m)]).map rowExt).flatten) = (((xs ++ [x]).map rowExt).flatten)) := Lib.hid (by rw [hx])
  rw [show ((xs ++ [(s, endF 0 xs, m)]).map rowExt).flatten = (((xs ++ [x]).map rowExt).flatten) from HX.out] at C3
  generalize ((xs ++ [x]).map rowExt).flatten = Y at *
  generalize sumN xs = L at *
  generalize endF 0 xs = T at *
  clear hn h hw hc hA hs hch hz hany hone hx1 hx2 hx3 hso hck hch2 hyl hwy hanyy hdel HX
  clear hx
  go_enter Try.func6, Try.ntmps6
  go_wp2_with fail
  refine (C0.out _).mono ?_
  rintro e w1 ⟨rfl, hb1⟩
  have HB1 := Lib.hid hb1
  clear hb1
  go_wp2_with fail
  refine (C1.out _ HB1.out).mono ?_
  rintro e w2 ⟨rfl, hb2⟩
  have HB2 := Lib.hid (HB1.out.trans (hb2.mono HB1.out.size))
  clear hb2
  go_wp2_with fail
  refine (C2.out _ HB2.out).mono ?_
  rintro e w3 ⟨rfl, hb3⟩
  have HB3 := Lib.hid (HB2.out.trans (hb3.mono HB2.out.size))
  clear hb3
  go_wp2_with fail
  refine (C3.out _ (HB3.out.alloc HB3.out.size _)).mono ?_
  rintro e w4 ⟨v4, rfl, ho4, hb4⟩
  obtain ⟨A4, c4, rfl, _, _, hr4, _⟩ := own_rd ho4
  have HA4 : Hid (A4 = none → n + 1 = 0 ∧ c4 = 0) := Lib.hid (fun e => by subst e; obtain ⟨b, o, h⟩ := hr4.some_of HYL.out; cases h)
  have HR4 := Lib.hid hr4
  have HB4 := Lib.hid ((HB3.out.alloc HB3.out.size _).trans (hb4.mono (HB3.out.alloc HB3.out.size _).size))
  clear ho4 hr4 hb4
  go_wp2_with fail
  refine (C4.out _ _ _ HA4.out HR4.out).mono ?_
  rintro e w5 ⟨v5, rfl, ho5, hb5⟩
  obtain ⟨A5, c5, rfl, _, _, hr5, _⟩ := own_rd ho5
  have HQ5 := Lib.hid hr5
  have HR5 := Lib.hid (HR4.out.kept hb5)
  have HB5 := Lib.hid (HB4.out.trans (hb5.mono HB4.out.size))
  clear ho5 hr5 hb5
  go_wp2_with fail
  refine (C5.out _ _ _ HB5.out HQ5.out).mono ?_
  rintro e w6 ⟨rfl, hb6⟩
  have HR6 := Lib.hid (HR5.out.kept hb6)
  have HB6 := Lib.hid (HB5.out.trans (hb6.mono HB5.out.size))
  clear hb6
  go_wp2_with fail
  refine (C6.out _ _ _ HR6.out).mono ?_
  rintro e w7 ⟨rfl, hb7⟩
  have HR7 := Lib.hid (HR6.out.kept hb7)
  have HB7 := Lib.hid (HB6.out.trans (hb7.mono HB6.out.size))
  clear hb7
  go_wp2_with fail
  refine (C7.out _ _ _ HR7.out).mono ?_
  rintro e w8 ⟨rfl, hb8⟩
  have HR8 := Lib.hid (HR7.out.kept hb8)
  have HB8 := Lib.hid (HB7.out.trans (hb8.mono HB7.out.size))
  clear hb8
  go_wp2_with fail
  refine (C8.out _ HB8.out).mono ?_
  rintro e w9 ⟨rfl, hb9⟩
  have HR9 := Lib.hid (HR8.out.kept hb9)
  have HB9 := Lib.hid (HB8.out.trans (hb9.mono HB8.out.size))
  clear hb9
  go_wp2_with fail
  refine (C9.out _ _ _ HR9.out).mono ?_
  rintro e w10 ⟨rfl, hb10⟩
  have HB10 := Lib.hid (HB9.out.trans (hb10.mono HB9.out.size))
  clear hb10
  go_wp2
  go_ret
  exact ⟨rfl, HB10.out⟩
theorem back_row (C : Int) (A : Option Addr) (n c : Nat) (z : List (List Value)) (s m : Int) (w : World) (_ : (Lit.int .i64 C).wf = true) (hn : z.length = n) (hA : A = none → n = 0 ∧ c = 0) (hnc : n ≤ c) (h : Rd w A z.flatten) (hI : ∀ r ∈ z, IsExtentD r) (hc : c * 24 ≤ 140737488351232) (hs : (Lit.int .u64 s).wf = true) (_ : (Lit.int .i64 m).wf = true) :
    Calls Try.prog 6 #[.int .i64 C, .slice A n c, .int .u64 s, .int .i64 m] w fun e w' => e = .returned (.bool true) ∧ Below w.heap.size w w' := by
  obtain ⟨xs, rfl, hw⟩ := extsD_of z hI
  have hn' : xs.length = n := by simpa using hn
  have hcap : n ≤ 5864062014700 := by omega
  cases hck : checkE C xs with
  | false => exact back_bad C A n c xs s m w hn' hA h hcap hw hs hck
  | true =>
    by_cases hm : m < 1 ∨ 9 < m
    · exact back_arg C A n c xs s m w hn' hA h hcap hw hs hck hm
    · by_cases hf : C - m < endF 0 xs
      · exact back_full C A n c xs s m w hn' hA h hcap hw hs hck (by omega) (by omega) hf
      · by_cases hz : s = 0
        · exact back_zero C A n c xs s m w hn' hA h hcap hw hs hck (by omega) (by omega) (by omega) hz
        · have hs0 : 0 ≤ s := (wf_u64b hs).1
          cases ha : xs.any (fun y => decide (y.1 = s)) with
          | true => exact back_twice C A n c xs s m w hn' hA h hcap hw hs hck (by omega) (by omega) (by omega) (by omega) ha
          | false => exact back_ok C A n c xs s m w hn' hA h hcap hw hs hck (by omega) (by omega) (by omega) (by omega) ha
end Go.Proofs.Ytilmlblejopbmaa
