/- The walk of SpaceSegments. -/
import Derived.Test.YtilmlblejopbmaaSpSeg
import Derived.Test.YtilmlblejopbmaaSpAwake
import Derived.Test.YtilmlblejopbmaaSpExts
import Derived.Test.YtilmlblejopbmaaTypes08
namespace Go.Proofs.Ytilmlblejopbmaa
open Go.RowKit
set_option linter.unusedVariables false

theorem sumI_bound : ∀ (l : List Int), (∀ o ∈ l, 0 ≤ o ∧ o ≤ 31) → 0 ≤ sumI l ∧ sumI l ≤ 31 * (l.length : Int)
  | [], _ => by simp [sumI]
  | x :: r, h => by
    have := sumI_bound r (fun o ho => h o (by simp [ho]))
    have := h x (by simp)
    simp only [sumI, List.length_cons]; omega
set_option maxRecDepth 100000 in
set_option maxHeartbeats 4000000 in
theorem seg_badplan (n : Int) (A : Option Addr) (m c : Nat) (w : World) (hp : n < 256 ∨ 65536 < n) :
    Calls Try.prog 5 #[.int .i64 n, .slice A m c] w fun e w' => e = .returned (.bool true) ∧ Below w.heap.size w w' := by
  have C0 := Lib.hid (fun w1 => awake22 w1)
  have C1 := Lib.hid (refplan_bad n w hp)
  clear hp
  go_enter Try.func5, Try.ntmps5
  go_wp2_with fail
  refine C1.out.mono ?_
  rintro e w1 ⟨rfl, hb1⟩
  have HB1 := Lib.hid hb1
  clear hb1
  go_wp2_with fail
  refine (C0.out _).mono ?_
  rintro e w2 ⟨rfl, hb2⟩
  have HB2 := Lib.hid ((HB1.out.alloc HB1.out.size _).trans (hb2.mono (Nat.le_trans HB1.out.size (by simp))))
  clear hb2
  go_wp2_with fail
  refine (C0.out _).mono ?_
  rintro e w3 ⟨rfl, hb3⟩
  have HB3 := Lib.hid (HB2.out.trans (hb3.mono HB2.out.size))
  clear hb3
  go_wp2
  go_ret
  exact ⟨rfl, HB3.out⟩
set_option maxRecDepth 100000 in
set_option maxHeartbeats 8000000 in
theorem seg_all (n s : Int) (G : Nat) (A : Option Addr) (m c : Nat) (xs : List Ext) (w : World) (h1 : 256 ≤ n) (h2 : n ≤ 65536) (hs : s = (n - 13) / 8) (hg : (G : Int) = (n - (13 + 3 * s)) / 32) (hm : xs.length = m) (h : Rd w A ((xs.map rowExt).flatten)) (hcap : m ≤ 5864062014700) (hw : ∀ x ∈ xs, (Lit.int .u64 x.1).wf = true) :
    Calls Try.prog 5 #[.int .i64 n, .slice A m c] w fun e w' => e = .returned (.bool true) ∧ Below w.heap.size w w' := by
  have C0 := Lib.hid (fun w1 => awake22 w1)
  have C1 := Lib.hid (refplan_ok n s G w h1 h2 hs hg)
  have C2 := Lib.hid (fun w1 => refcapacity_any n 3 13 s (13 + s) (13 + 2 * s) s (13 + 3 * s) G w1 (by omega) (by omega))
  have C3 := Lib.hid (fun (w1 : World) (hb : Below w.heap.size w w1) => check_any ((G : Int) * 31) A m c xs w1 hm (h.kept hb) hcap hw)
  have hG2 : G ≤ 3000 := by omega
  cases hc : checkE ((G : Int) * 31) xs with
  | false =>
    rw [hc] at C3
    have e1 : errE false = 11 := rfl
    clear hm h hw hc hs hg
    go_enter Try.func5, Try.ntmps5
    go_wp2_with fail
    refine C1.out.mono ?_
    rintro e w1 ⟨rfl, hb1⟩
    have HB1 := Lib.hid hb1
    have HB1' := Lib.hid (HB1.out.alloc HB1.out.size (.cells #[.int .i64 n, .int .i64 3, .int .i64 13, .int .i64 s, .int .i64 (13 + s), .int .i64 (13 + 2 * s), .int .i64 s, .int .i64 (13 + 3 * s), .int .i64 (G : Int)] 38))
    have HL1 := Lib.hid (heap_alloc_new w1 (.cells #[.int .i64 n, .int .i64 3, .int .i64 13, .int .i64 s, .int .i64 (13 + s), .int .i64 (13 + 2 * s), .int .i64 s, .int .i64 (13 + 3 * s), .int .i64 (G : Int)] 38))
    clear hb1
    go_wp2_with fail
    refine (C0.out _).mono ?_
    rintro e w2 ⟨rfl, hb2⟩
    have HB2 := Lib.hid (HB1'.out.trans (hb2.mono HB1'.out.size))
    have hc2 := fun i => cell_of_row w2 w1.heap.size i _ _ _ ((hb2.block w1.heap.size (by simp)).trans HL1.out)
    clear hb2
    go_wp2_with fail
    refine (C2.out _).mono ?_
    rintro e w3 ⟨rfl, hb3⟩
    have HB3 := Lib.hid (HB2.out.trans (hb3.mono HB2.out.size))
    clear hb3 hc2
    go_wp2_with fail
    refine (C3.out _ HB3.out).mono ?_
    rintro e w4 ⟨rfl, hb4⟩
    have HB4 := Lib.hid (HB3.out.trans (hb4.mono HB3.out.size))
    clear hb4
    go_wp2_with fail
    refine (C0.out _).mono ?_
    rintro e w5 ⟨rfl, hb5⟩
    have HB5 := Lib.hid (HB4.out.trans (hb5.mono HB4.out.size))
    clear hb5
    go_wp2
    go_ret
    exact ⟨rfl, HB5.out⟩
  | true =>
    rw [hc] at C3
    have e1 : errE true = 0 := rfl
    have hch := chainE hc
    have C4 := Lib.hid (fun (w1 : World) (hb : Below w.heap.size w w1) => segments_any n s G G h1 h2 hs hg rfl A m c xs w1 hm (h.kept hb) hw hc)
    have C5 := Lib.hid (fun (w1 : World) (hb : Below w.heap.size w w1) => by have := live_any A m c xs w1 hm (h.kept hb) hcap; rw [liveE_chain hch] at this; exact this)
    clear hm h hw hc hs hg hch
    generalize sumN xs = L at *
    go_enter Try.func5, Try.ntmps5
    go_wp2_with fail
    refine C1.out.mono ?_
    rintro e w1 ⟨rfl, hb1⟩
    have HB1 := Lib.hid hb1
    have HB1' := Lib.hid (HB1.out.alloc HB1.out.size (.cells #[.int .i64 n, .int .i64 3, .int .i64 13, .int .i64 s, .int .i64 (13 + s), .int .i64 (13 + 2 * s), .int .i64 s, .int .i64 (13 + 3 * s), .int .i64 (G : Int)] 38))
    have HL1 := Lib.hid (heap_alloc_new w1 (.cells #[.int .i64 n, .int .i64 3, .int .i64 13, .int .i64 s, .int .i64 (13 + s), .int .i64 (13 + 2 * s), .int .i64 s, .int .i64 (13 + 3 * s), .int .i64 (G : Int)] 38))
    clear hb1
    go_wp2_with fail
    refine (C0.out _).mono ?_
    rintro e w2 ⟨rfl, hb2⟩
    have HB2 := Lib.hid (HB1'.out.trans (hb2.mono HB1'.out.size))
    have HL2 := Lib.hid ((hb2.block w1.heap.size (by simp)).trans HL1.out)
    have hc2 := fun i => cell_of_row w2 w1.heap.size i _ _ _ HL2.out
    have hz2 := (Array.getElem?_eq_some_iff.1 HL2.out).1
    clear hb2
    go_wp2_with fail
    refine (C2.out _).mono ?_
    rintro e w3 ⟨rfl, hb3⟩
    have HB3 := Lib.hid (HB2.out.trans (hb3.mono HB2.out.size))
    have HL3 := Lib.hid ((hb3.block w1.heap.size hz2).trans HL2.out)
    have hz3 := (Array.getElem?_eq_some_iff.1 HL3.out).1
    clear hb3 hc2
    go_wp2_with fail
    refine (C3.out _ HB3.out).mono ?_
    rintro e w4 ⟨rfl, hb4⟩
    have HB4 := Lib.hid (HB3.out.trans (hb4.mono HB3.out.size))
    have HL4 := Lib.hid ((hb4.block w1.heap.size hz3).trans HL3.out)
    have hz4 := (Array.getElem?_eq_some_iff.1 HL4.out).1
    have hc4 := fun i => cell_of_row w4 w1.heap.size i _ _ _ HL4.out
    clear hb4
    go_wp2_with fail
    refine (C4.out _ HB4.out).mono ?_
    rintro e w5 ⟨v5, outs, rfl, hol, hob, hsum, ho5, hb5⟩
    obtain ⟨A5, c5, rfl, _, _, hr5, _⟩ := own_rd ho5
    have HR5 := Lib.hid hr5
    have HB5 := Lib.hid (HB4.out.trans (hb5.mono HB4.out.size))
    have HL5 := Lib.hid ((hb5.block w1.heap.size hz4).trans HL4.out)
    have HOB := Lib.hid hob
    have HSUM := Lib.hid hsum
    have HOL := Lib.hid hol
    clear ho5 hr5 hb5 hc4 hob hsum hol e1
    go_wp2_with fail
    go_loopw [9, 8] (fun i t wr => ∃ k : Nat, k ≤ G ∧ i = .int .i64 k ∧ t = .int .i64 (sumI (outs.take k)) ∧ Hid (Below w5.heap.size w5 wr)) (fun i _ _ => G - (intOf i).toNat)
    case atStart => exact ⟨0, by omega, rfl, rfl, Lib.hid (Below.refl _ _)⟩
    case round =>
      obtain ⟨wo, hwo⟩ : ∃ wo : World, wo = wr := ⟨_, rfl⟩
      subst hwo
      obtain ⟨k, hk, rfl, rfl, HB⟩ := hrel
      by_cases hlt : k < G
      · have hkx : k < outs.length := by have := HOL.out; omega
        obtain ⟨b, o, rfl, hcell⟩ := (HR5.out.kept HB.out) k _ (ints_at outs k hkx)
        have HS := Lib.hid (sumI_succ outs k hkx)
        obtain ⟨u1, u2⟩ := HOB.out _ (List.getElem_mem hkx)
        have hbd := sumI_bound (outs.take k) (fun o ho => HOB.out o (List.mem_of_mem_take ho))
        have hbl : (outs.take k).length ≤ 3000 := by simp; omega
        have hbs : 0 ≤ sumI (outs.take k) ∧ sumI (outs.take k) ≤ 1000000 := by omega
        have b1 : (0 : Int) ≤ (k : Int) ∧ (k : Int) < (G : Int) := by omega
        clear hbd hbl
        generalize outs[k] = u at *
        generalize sumI (outs.take k) = t at *
        go_wp2
        go_roundw
        case rel => exact ⟨k + 1, by omega, by go_num, by rw [HS.out], HB⟩
        case measure => simp [intOf]; omega
      · obtain rfl : k = G := by omega
        have HT : Hid (sumI (outs.take k) = L) := Lib.hid (by rw [List.take_of_length_le (by have := HOL.out; omega)]; exact HSUM.out)
        rw [HT.out]
        have HB6 := Lib.hid (HB5.out.trans (HB.out.mono HB5.out.size))
        have hcl := fun i => cell_of_row wo w1.heap.size i _ _ _ ((HB.out.block w1.heap.size (Array.getElem?_eq_some_iff.1 HL5.out).1).trans HL5.out)
        go_wp2_with fail
        refine (C5.out _ HB6.out).mono ?_
        rintro e w7 ⟨rfl, hb7⟩
        have HB7 := Lib.hid (HB6.out.trans (hb7.mono HB6.out.size))
        clear hb7 hcl
        go_wp2
        go_ret
        exact ⟨rfl, HB7.out⟩
theorem seg_row (n : Int) (A : Option Addr) (m c : Nat) (z : List (List Value)) (w : World) (_ : (Lit.int .i64 n).wf = true) (hn : z.length = m) (hA : A = none → m = 0 ∧ c = 0) (hnc : m ≤ c) (h : Rd w A z.flatten) (hI : ∀ r ∈ z, IsExtentD r) (hc : c * 24 ≤ 140737488351232) :
    Calls Try.prog 5 #[.int .i64 n, .slice A m c] w fun e w' => e = .returned (.bool true) ∧ Below w.heap.size w w' := by
  obtain ⟨xs, rfl, hw⟩ := extsD_of z hI
  by_cases hp : n < 256 ∨ 65536 < n
  · exact seg_badplan n A m c w hp
  · obtain ⟨s, hs⟩ : ∃ s, s = (n - 13) / 8 := ⟨_, rfl⟩
    obtain ⟨G, hG⟩ : ∃ G : Nat, (G : Int) = (n - (13 + 3 * s)) / 32 := ⟨((n - (13 + 3 * s)) / 32).toNat, by omega⟩
    exact seg_all n s G A m c xs w (by omega) (by omega) hs hG (by simpa using hn) h (by omega) hw
end Go.Proofs.Ytilmlblejopbmaa
