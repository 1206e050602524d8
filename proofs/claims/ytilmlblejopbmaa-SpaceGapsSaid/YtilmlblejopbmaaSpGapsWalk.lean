/- The walk of SpaceGaps. -/
import Derived.Test.YtilmlblejopbmaaSpGaps
import Derived.Test.YtilmlblejopbmaaSpAwake
import Derived.Test.YtilmlblejopbmaaTypes08
import Derived.Test.YtilmlblejopbmaaSpExts
import Derived.BigRegion
namespace Go.Proofs.Ytilmlblejopbmaa
open Go.RowKit
set_option linter.unusedVariables false

theorem k_any (most : Int) (n : Nat) (hn : n ≤ 1000000000) : ∃ K : Int, 0 ≤ K ∧ K ≤ n + 1 ∧ wrap64 ((IntKind.u64.wrap most).tmod ((n : Int) + 2)) = K := by
  rw [IntKind.wrap_u64]
  have h0 : 0 ≤ most % 18446744073709551616 := Int.emod_nonneg _ (by decide)
  generalize most % 18446744073709551616 = z at *
  rw [Int.tmod_eq_emod_of_nonneg h0]
  have h1 := Int.emod_nonneg z (show (n : Int) + 2 ≠ 0 by omega)
  have h2 := Int.emod_lt_of_pos z (show (0 : Int) < (n : Int) + 2 by omega)
  generalize z % ((n : Int) + 2) = y at *
  refine ⟨y, by omega, by omega, ?_⟩
  unfold wrap64
  omega
theorem hits_bound (K : Int) : ∀ l : List Ext, 0 ≤ hits K l ∧ hits K l ≤ l.length
  | [] => by simp [hits]
  | x :: r => by
    have := hits_bound K r
    have := inn_bound K x.2.1 (x.2.1 + x.2.2)
    simp only [hits, List.length_cons]
    omega
theorem hits_succ (K : Int) (l : List Ext) (k : Nat) (h : k < l.length) : hits K (l.take (k + 1)) = hits K (l.take k) + inn K l[k].2.1 (l[k].2.1 + l[k].2.2) := by
  rw [List.take_add_one, List.getElem?_eq_getElem h, hits_append]
  simp [hits]
theorem sumN_succ (l : List Ext) (k : Nat) (h : k < l.length) : sumN (l.take (k + 1)) = sumN (l.take k) + l[k].2.2 := by
  rw [List.take_add_one, List.getElem?_eq_getElem h, sumN_append]
  simp [sumN]
theorem GC.sum_take : ∀ {gs : List Ext} {lo : Int}, GC lo gs → ∀ k : Nat, 0 ≤ sumN (gs.take k) ∧ sumN (gs.take k) ≤ sumN gs
  | [], _, _, k => by simp [sumN]
  | g :: r, lo, hg, 0 => by
    have := (GC.sum_take hg.2.2.2.2 0)
    have := hg.2.1
    simp only [List.take_zero, sumN] at *
    omega
  | g :: r, lo, hg, k + 1 => by
    have := GC.sum_take hg.2.2.2.2 k
    have := hg.2.1
    simp only [List.take_succ_cons, sumN]
    omega
set_option maxRecDepth 100000 in
set_option maxHeartbeats 8000000 in
theorem gaps_all (A : Option Addr) (n c : Nat) (xs : List Ext) (at_ : Int) (w : World) (hn : xs.length = n) (h : Rd w A ((xs.map rowExt).flatten)) (hcap : n ≤ 5864062014700) (hw : ∀ x ∈ xs, (Lit.int .u64 x.1).wf = true) :
    Calls Try.prog 4 #[.slice A n c, .int .i64 at_] w fun e w' => e = .returned (.bool true) ∧ Below w.heap.size w w' := by
  have C0 := Lib.hid (fun w1 => awake22 w1)
  cases hc : checkE 65536 xs with
  | false =>
    have C1 := Lib.hid (fun (w1 : World) (hb : Below w.heap.size w w1) => by have := check_any 65536 A n c xs w1 hn (h.kept hb) (by omega) hw; rw [hc] at this; exact this)
    clear hn h hw hc
    go_enter Try.func4, Try.ntmps4
    go_wp2_with fail
    refine (C0.out _).mono ?_
    rintro e w1 ⟨rfl, hb1⟩
    have HB1 := Lib.hid hb1
    clear hb1
    go_wp2_with fail
    refine (C1.out _ HB1.out).mono ?_
    rintro e w2 ⟨rfl, hb2⟩
    have e1 : errE false = 11 := rfl
    have HB2 := Lib.hid (HB1.out.trans (hb2.mono HB1.out.size))
    clear hb2
    go_wp2_with fail
    refine (C0.out _).mono ?_
    rintro e w3 ⟨rfl, hb3⟩
    have HB3 := Lib.hid (HB2.out.trans (hb3.mono HB2.out.size))
    clear hb3
    go_wp2
    go_ret
    exact ⟨rfl, HB3.out⟩
  | true =>
    have hch := chainE hc
    have hend := endF_ge xs 0 (by omega) hch
    obtain ⟨t, ht⟩ : ∃ t : Nat, endF 0 xs = (t : Int) := ⟨(endF 0 xs).toNat, by omega⟩
    have C1 := Lib.hid (fun (w1 : World) (hb : Below w.heap.size w w1) => by have := check_any 65536 A n c xs w1 hn (h.kept hb) (by omega) hw; rw [hc] at this; exact this)
    have C2 := Lib.hid (fun (w1 : World) (hb : Below w.heap.size w w1) => gaps_any A n c xs w1 hn (h.kept hb) (by omega) hw hc)
    have C3 := Lib.hid (fun (w1 : World) (hb : Below w.heap.size w w1) => by have := tail_any A n c xs w1 hn (h.kept hb) (by omega); rw [tailE_chain hch, ht] at this; exact this)
    have C4 := Lib.hid (fun (w1 : World) (hb : Below w.heap.size w w1) => by have := live_any A n c xs w1 hn (h.kept hb) (by omega); rw [liveE_chain hch] at this; exact this)
    have C5 := Lib.hid (fun (w1 : World) (hb : Below w.heap.size w w1) => by have := dense_any A n c xs w1 hn (h.kept hb) (by omega); rw [gaps_none hch] at this; exact this)
    have HSUM := Lib.hid (show sumN xs + sumN (gapsF 0 xs) = (t : Int) by have := gaps_sum xs 0 hch; omega)
    have HSN := Lib.hid (sumN_ge xs 0 hch)
    have HGC := Lib.hid (gaps_gc xs 0 hch)
    have HGL := Lib.hid (show (gapsF 0 xs).length ≤ n by rw [← hn]; exact gapsF_len xs 0)
    have ht2 : t ≤ 65536 := by omega
    obtain ⟨K, hK0, hK1, hKe⟩ := k_any at_ t (by omega)
    have HHIT := Lib.hid (show hits K xs + hits K (gapsF 0 xs) = if K < (t : Int) then 1 else 0 by
      have := gaps_hits K xs 0 (by omega) hch
      rw [ht] at this
      rw [this]
      unfold inn
      by_cases q : K < (t : Int) <;> simp [q, hK0])
    have HSM := Lib.hid (fun (x : Ext) (hx : x ∈ xs) => small_of_one (checkE_all hc x hx))
    have HR := Lib.hid h
    have HN := Lib.hid hn
    clear hn h hw hc hch hend ht
    generalize gapsF 0 xs = gs at *
    generalize sumN xs = L at *
    go_enter Try.func4, Try.ntmps4
    go_wp2_with fail
    refine (C0.out _).mono ?_
    rintro e w1 ⟨rfl, hb1⟩
    have HB1 := Lib.hid hb1
    clear hb1
    go_wp2_with fail
    refine (C1.out _ HB1.out).mono ?_
    rintro e w2 ⟨rfl, hb2⟩
    have e1 : errE true = 0 := rfl
    have HB2 := Lib.hid (HB1.out.trans (hb2.mono HB1.out.size))
    clear hb2
    go_wp2_with fail
    refine (C2.out _ HB2.out).mono ?_
    rintro e w3 ⟨v3, rfl, ho3, hb3⟩
    obtain ⟨A3, c3, rfl, _, _, hr3, _⟩ := own_rd ho3
    have HG3 := Lib.hid hr3
    have HB3 := Lib.hid (HB2.out.trans (hb3.mono HB2.out.size))
    clear ho3 hr3 hb3
    go_wp2_with fail
    refine (C3.out _ HB3.out).mono ?_
    rintro e w4 ⟨rfl, hb4⟩
    have HG4 := Lib.hid (HG3.out.kept hb4)
    have HB4 := Lib.hid (HB3.out.trans (hb4.mono HB3.out.size))
    clear hb4 e1
    go_upto_region 6 with fail
    simp only [hKe]
    clear hKe
    go_wp2_with fail
    go_loopw [8, 7] (fun i s wr => ∃ k : Nat, k ≤ n ∧ i = .int .i64 k ∧ s = .int .i64 (hits K (xs.take k)) ∧ Hid (Below w4.heap.size w4 wr)) (fun i _ _ => n - (intOf i).toNat)
    case atStart => exact ⟨0, by omega, rfl, rfl, Lib.hid (Below.refl _ _)⟩
    case round =>
      obtain ⟨wo, hwo⟩ : ∃ wo : World, wo = wr := ⟨_, rfl⟩
      subst hwo
      obtain ⟨k, hk, rfl, rfl, HB⟩ := hrel
      by_cases hlt : k < n
      · have hkx : k < xs.length := by have := HN.out; omega
        obtain ⟨b, o, rfl, hrow⟩ := ((HR.out.kept HB4.out).kept HB.out).at_row (extRow_len xs) (by decide) (i := k) (r := rowExt xs[k]) (by simp [List.getElem?_eq_getElem hkx])
        have HS := Lib.hid (hits_succ K xs k hkx)
        obtain ⟨s1, s2, s3, s4⟩ := HSM.out _ (List.getElem_mem hkx)
        have hbd := hits_bound K (xs.take k)
        have hbl : (xs.take k).length ≤ n := by simp; omega
        have k1 := hrow 1 _ rfl
        have k2 := hrow 2 _ rfl
        have b1 : (0 : Int) ≤ (k : Int) ∧ (k : Int) < (n : Int) := by omega
        have hbs : 0 ≤ hits K (xs.take k) ∧ hits K (xs.take k) ≤ 100000000000000000 := by omega
        clear hrow hbd hbl
        generalize xs[k] = x at *
        generalize hits K (xs.take k) = s at *
        go_upto_region 10 with fail
        go_cut [59] (fun s wx => ∃ (r : Bool) (W : World), W = wx ∧ s = .bool r ∧ Hid (r = decide (x.2.1 ≤ K ∧ K < x.2.1 + x.2.2)) ∧ Hid (Below wo.heap.size wo wx))
        case first =>
          have d3 : IntKind.i64.wrap (x.2.1 + x.2.2) = x.2.1 + x.2.2 := IntWalk.i64_in _ (by omega)
          by_cases q1 : x.2.1 ≤ K
          · have d0 : decide (x.2.1 ≤ K) = true := by simpa using q1
            have HD : Hid (decide (x.2.1 ≤ K ∧ K < x.2.1 + x.2.2) = decide (K < x.2.1 + x.2.2)) := Lib.hid (by simp [q1])
            clear q1
            go_quiet (fail)
            go_wp2_with fail
            go_meet
            exact ⟨_, _, rfl, rfl, Lib.hid HD.out.symm, Lib.hid (below_drewN _ _)⟩
          · have d0 : decide (x.2.1 ≤ K) = false := by simpa using q1
            have HD : Hid (decide (x.2.1 ≤ K ∧ K < x.2.1 + x.2.2) = false) := Lib.hid (by simp [q1])
            clear q1
            go_quiet (fail)
            go_wp2_with fail
            go_meet
            exact ⟨_, _, rfl, rfl, Lib.hid HD.out.symm, Lib.hid (below_drewN _ _)⟩
        case rest =>
        obtain ⟨r, W, hW, rfl, HRr, HBw⟩ := hcut
        subst hW
        have HB2 := Lib.hid (HB.out.trans (HBw.out.mono HB.out.size))
        cases r with
        | true =>
          have HS2 : Hid (hits K (xs.take (k + 1)) = s + 1) := Lib.hid (by rw [HS.out, inn, if_pos (by simpa using HRr.out.symm)])
          go_wp2
          go_roundw
          case rel => exact ⟨k + 1, by omega, by go_num, by rw [HS2.out], HB2⟩
          case measure => simp [intOf]; omega
        | false =>
          have HS2 : Hid (hits K (xs.take (k + 1)) = s) := Lib.hid (by rw [HS.out, inn, if_neg (by have := HRr.out.symm; rw [decide_eq_false_iff_not] at this; exact this)]; omega)
          go_wp2
          go_roundw
          case rel => exact ⟨k + 1, by omega, by go_num, by rw [HS2.out], HB2⟩
          case measure => simp [intOf]; omega
      · obtain rfl : k = n := by omega
        have HT : Hid (xs.take k = xs) := Lib.hid (List.take_of_length_le (by have := HN.out; omega))
        rw [HT.out]
        have hb1 := hits_bound K xs
        have hb2 : 0 ≤ hits K xs ∧ hits K xs ≤ 10000000000000 := by have := HN.out; omega
        clear hb1
        generalize hits K xs = H at *
        generalize hm : gs.length = m at *
        have HGN := Lib.hid hm
        clear hm
        go_wp2_with fail
        go_loopw [9, 7] (fun i s wr => ∃ k : Nat, k ≤ m ∧ i = .int .i64 k ∧ s = .int .i64 (H + hits K (gs.take k)) ∧ Hid (Below w4.heap.size w4 wr)) (fun i _ _ => m - (intOf i).toNat)
        case atStart => exact ⟨0, by omega, rfl, by simp [hits], HB⟩
        case round =>
          obtain ⟨wp, hwp⟩ : ∃ wp : World, wp = wr := ⟨_, rfl⟩
          subst hwp
          obtain ⟨j, hj, rfl, rfl, HBp⟩ := hrel
          by_cases hlj : j < m
          · have hjx : j < gs.length := by have := HGN.out; omega
            obtain ⟨b3, o3, rfl, hrow⟩ := (HG4.out.kept HBp.out).at_row (extRow_len gs) (by decide) (i := j) (r := rowExt gs[j]) (by simp [List.getElem?_eq_getElem hjx])
            have HS := Lib.hid (hits_succ K gs j hjx)
            obtain ⟨s1, s2, s3, s4⟩ := HGC.out.at_ j hjx
            have hbd := hits_bound K (gs.take j)
            have hbl : (gs.take j).length ≤ m := by simp; omega
            have hmn := HGL.out
            have HRT := Lib.hid (fun (i : Nat) (hi : i < gs.length) (W : World) (hb : Below w4.heap.size w4 W) => show W.rangeAt b3 (o3 + i * 3) (rowExt gs[i]) from by
              obtain ⟨b', o', hbo, hr⟩ := (HG4.out.kept hb).at_row (extRow_len gs) (by decide) (i := i) (r := rowExt gs[i]) (by simp [List.getElem?_eq_getElem hi])
              simp only [Option.some.injEq, Addr.mk.injEq, and_true] at hbo
              obtain ⟨rfl, rfl⟩ := hbo
              exact hr)
            have HNX := Lib.hid (fun (i : Nat) (hi : i + 1 < gs.length) => HGC.out.next i hi)
            have HAT := Lib.hid (fun (i : Nat) (hi : i < gs.length) => HGC.out.at_ i hi)
            have k1 := hrow 1 _ rfl
            have k2 := hrow 2 _ rfl
            have b1 : (0 : Int) ≤ (j : Int) ∧ (j : Int) < (m : Int) := by omega
            have hbs : 0 ≤ hits K (gs.take j) ∧ hits K (gs.take j) ≤ 100000000000000000 := by omega
            obtain ⟨x, hx⟩ : ∃ x, x = gs[j] := ⟨_, rfl⟩
            rw [← hx] at k1 k2 s1 s2 s3 s4 HS
            have HX := Lib.hid hx
            have s5 : 0 ≤ x.2.1 := by omega
            clear hrow hbd hbl hx
            generalize hits K (gs.take j) = s at *
            obtain ⟨wo, hwo⟩ : ∃ wo : World, wo = wp := ⟨_, rfl⟩
            subst hwo
            go_upto_region 15 with fail
            go_cut [89] (fun s wx => ∃ (r : Bool) (W : World), W = wx ∧ s = .bool r ∧ Hid (r = decide (x.2.1 ≤ K ∧ K < x.2.1 + x.2.2)) ∧ Hid (Below wo.heap.size wo wx))
            case first =>
              have d3 : IntKind.i64.wrap (x.2.1 + x.2.2) = x.2.1 + x.2.2 := IntWalk.i64_in _ (by omega)
              by_cases q1 : x.2.1 ≤ K
              · have d0 : decide (x.2.1 ≤ K) = true := by simpa using q1
                have HD : Hid (decide (x.2.1 ≤ K ∧ K < x.2.1 + x.2.2) = decide (K < x.2.1 + x.2.2)) := Lib.hid (by simp [q1])
                clear q1
                go_quiet (fail)
                go_wp2_with fail
                go_meet
                exact ⟨_, _, rfl, rfl, Lib.hid HD.out.symm, Lib.hid (below_drewN _ _)⟩
              · have d0 : decide (x.2.1 ≤ K) = false := by simpa using q1
                have HD : Hid (decide (x.2.1 ≤ K ∧ K < x.2.1 + x.2.2) = false) := Lib.hid (by simp [q1])
                clear q1
                go_quiet (fail)
                go_wp2_with fail
                go_meet
                exact ⟨_, _, rfl, rfl, Lib.hid HD.out.symm, Lib.hid (below_drewN _ _)⟩
            case rest =>
            obtain ⟨r, W, hW, rfl, HRr, HBw⟩ := hcut
            subst hW
            have HB2 := Lib.hid (HBp.out.trans (HBw.out.mono HBp.out.size))
            have HS2 : Hid (hits K (gs.take (j + 1)) = if r = true then s + 1 else s) := Lib.hid (by
              rw [HS.out, inn]
              by_cases q : x.2.1 ≤ K ∧ K < x.2.1 + x.2.2
              · have : r = true := by rw [HRr.out]; simpa using q
                rw [if_pos q, if_pos this]
              · have : ¬ r = true := by rw [HRr.out]; simpa using q
                rw [if_neg q, if_neg this]; omega)
            clear k1 k2
            go_upto_if 89 with fail
            go_cut [7] (fun s7 wx => W = wx ∧ s7 = .int .i64 (H + hits K (gs.take (j + 1))))
            case first =>
              cases r with
              | true =>
                have HS3 : Hid (H + s + 1 = H + hits K (gs.take (j + 1))) := Lib.hid (by rw [HS2.out, if_pos rfl]; omega)
                go_wp2_with fail
                go_meet
                exact ⟨rfl, by rw [HS3.out]⟩
              | false =>
                have HS3 : Hid (H + s = H + hits K (gs.take (j + 1))) := Lib.hid (by rw [HS2.out, if_neg (by simp)])
                go_wp2_with fail
                go_meet
                exact ⟨rfl, by rw [HS3.out]⟩
            case rest =>
            obtain ⟨hW2, rfl⟩ := hcut
            subst hW2
            clear HS2 HRr
            clear r
            go_upto_region 17 with fail
            go_cut [130] (fun s wx => ∃ (W9 : World), W9 = wx ∧ s = .bool false ∧ Hid (Below W.heap.size W wx))
            case first =>
              have hrw := HRT.out j hjx _ HB2.out
              rw [← HX.out] at hrw
              have q0 := hrw 0 _ rfl
              have q1 := hrw 1 _ rfl
              have q2 := hrw 2 _ rfl
              rw [s3] at q0
              simp only [Nat.add_zero] at q0
              have e1 : decide (x.2.2 < 1) = false := by rw [decide_eq_false_iff_not]; omega
              clear hrw s3
              rcases Nat.eq_zero_or_pos j with h0 | h0
              · subst h0
                simp only [Nat.zero_mul, Nat.add_zero] at q0 q1 q2
                go_quiet (fail)
                go_wp2_with fail
                go_meet
                exact ⟨_, rfl, rfl, Lib.hid (below_drewN _ _)⟩
              · obtain ⟨i, hi⟩ : ∃ i, j = i + 1 := ⟨j - 1, by omega⟩
                have hix : i < gs.length := by omega
                have hrw2 := HRT.out i hix _ HB2.out
                have hnx := HNX.out i (by omega)
                obtain ⟨g1, g2, _, g4⟩ := HAT.out i hix
                have hx2 : gs[i + 1]'(by omega) = x := by rw [HX.out]; simp only [hi]
                rw [hx2] at hnx
                generalize gs[i] = y at *
                have p1 := hrw2 1 _ rfl
                have p2 := hrw2 2 _ rfl
                subst hi
                have g5 : 0 ≤ y.2.1 := by omega
                have d0 : decide ((0 : Int) < ((i + 1 : Nat) : Int)) = true := by simp
                have d1 : ¬ x.2.1 ≤ y.2.1 + y.2.2 := by omega
                have d2 : (0 : Int) ≤ (i : Int) ∧ (i : Int) < (m : Int) := by omega
                have d3 : IntKind.i64.wrap (i : Int) = (i : Int) := IntWalk.i64_in _ (by omega)
                have d4 : IntKind.i64.wrap (y.2.1 + y.2.2) = y.2.1 + y.2.2 := IntWalk.i64_in _ (by omega)
                clear hrw2 hnx hx2 h0 hix
                go_quiet (fail)
                go_wp2_with fail
                go_meet
                exact ⟨_, rfl, rfl, Lib.hid (below_drewN _ _)⟩
            case rest =>
            obtain ⟨W2, hW2, rfl, HBz⟩ := hcut
            subst hW2
            have HB3 := Lib.hid (HB2.out.trans (HBz.out.mono HB2.out.size))
            go_wp2
            go_roundw
            case rel => exact ⟨j + 1, by omega, by go_num, rfl, HB3⟩
            case measure => simp [intOf]; omega
          · obtain rfl : j = m := by omega
            have HT2 : Hid (gs.take j = gs) := Lib.hid (List.take_of_length_le (by have := HGN.out; omega))
            rw [HT2.out]
            obtain ⟨V, hV⟩ : ∃ V, V = H + hits K gs := ⟨_, rfl⟩
            have HV := HHIT.out
            rw [← hV] at HV ⊢
            have HV2 := Lib.hid HV
            clear hV HV HT2 HHIT
            clear hlj
            go_upto_if 133 with fail
            go_cut [10] (fun s wx => wp = wx ∧ s = .int .i64 V)
            case first =>
              by_cases q : K < (t : Int)
              · have HV3 : Hid (V = 1) := Lib.hid (by rw [HV2.out, if_pos q])
                go_wp2_with fail
                go_meet
                exact ⟨rfl, by rw [HV3.out]⟩
              · have HV3 : Hid (V = 0) := Lib.hid (by rw [HV2.out, if_neg q])
                have q' : (t : Int) ≤ K := by omega
                clear q
                go_wp2_with fail
                go_meet
                exact ⟨rfl, by rw [HV3.out]⟩
            case rest =>
            obtain ⟨hW2, rfl⟩ := hcut
            subst hW2
            clear HV2
            have HBq := Lib.hid (HB4.out.trans (HBp.out.mono HB4.out.size))
            go_wp2_with fail
            refine (C4.out _ HBq.out).mono ?_
            rintro e w5 ⟨rfl, hb5⟩
            have HG5 := Lib.hid ((HG4.out.kept HBp.out).kept hb5)
            have HB5 := Lib.hid (HBq.out.trans (hb5.mono HBq.out.size))
            clear hb5
            have HL0 := Lib.hid (show 0 ≤ L ∧ L ≤ 65536 by have := HSN.out; have := HSUM.out; have := (HGC.out.sum_take 0).1; have := (HGC.out.sum_take gs.length).1; rw [List.take_length] at this; omega)
            go_wp2_with fail
            go_loopw [12, 11] (fun i s wr => ∃ q : Nat, q ≤ j ∧ i = .int .i64 q ∧ s = .int .i64 (L + sumN (gs.take q)) ∧ Hid (Below w5.heap.size w5 wr)) (fun i _ _ => j - (intOf i).toNat)
            case atStart => exact ⟨0, by omega, rfl, by simp [sumN], Lib.hid (Below.refl _ _)⟩
            case round =>
              obtain ⟨wq, hwq⟩ : ∃ wq : World, wq = wr := ⟨_, rfl⟩
              subst hwq
              obtain ⟨q, hq, rfl, rfl, HBr⟩ := hrel
              by_cases hlq : q < j
              · have hqx : q < gs.length := by have := HGN.out; omega
                obtain ⟨b3, o3, rfl, hrow⟩ := (HG5.out.kept HBr.out).at_row (extRow_len gs) (by decide) (i := q) (r := rowExt gs[q]) (by simp [List.getElem?_eq_getElem hqx])
                have hss := sumN_succ gs q hqx
                have ht1 := HGC.out.sum_take q
                have ht2' := HGC.out.sum_take (q + 1)
                have hsum := HSUM.out
                have hl0 := HL0.out
                have k2 := hrow 2 _ rfl
                have hjn : j ≤ 5864062014700 := by have := HGL.out; have := HN.out; omega
                have bq : (0 : Int) ≤ (q : Int) ∧ (q : Int) < (j : Int) := by omega
                obtain ⟨x, hx⟩ : ∃ x, x = gs[q] := ⟨_, rfl⟩
                rw [← hx] at k2 hss
                have HSS : Hid (L + sumN (gs.take q) + x.2.2 = L + sumN (gs.take (q + 1))) := Lib.hid (by omega)
                have f1 : 0 ≤ L + sumN (gs.take q) + x.2.2 ∧ L + sumN (gs.take q) + x.2.2 ≤ 65536 := by omega
                clear hrow hx hss ht1 ht2' hsum hl0
                generalize L + sumN (gs.take q) = s at *
                go_wp2
                go_roundw
                case rel => exact ⟨q + 1, by omega, by go_num, by rw [← HSS.out], HBr⟩
                case measure => simp [intOf]; omega
              · obtain rfl : q = j := by omega
                have HT3 : Hid (L + sumN (gs.take q) = (t : Int)) := Lib.hid (by rw [List.take_of_length_le (by have := HGN.out; omega)]; exact HSUM.out)
                rw [HT3.out]
                have HB6 := Lib.hid (HB5.out.trans (HBr.out.mono HB5.out.size))
                have C5' := Lib.hid (C5.out _ HB6.out)
                clear hlq HT3
                by_cases q0 : q = 0
                · have HC5 : Hid (Calls Try.prog 17 #[.slice A k c] wq fun e w' => e = .returned (.bool true) ∧ Below wq.heap.size wq w') := Lib.hid (by have := C5'.out; rwa [decide_eq_true q0] at this)
                  have q1 : ((q : Int) == 0) = true := by simp; omega
                  clear q0 C5'
                  go_wp2_with fail
                  refine HC5.out.mono ?_
                  rintro e w6 ⟨rfl, hb6⟩
                  have HB7 := Lib.hid (HB6.out.trans (hb6.mono HB6.out.size))
                  clear hb6
                  go_wp2
                  go_ret
                  exact ⟨rfl, HB7.out⟩
                · have HC5 : Hid (Calls Try.prog 17 #[.slice A k c] wq fun e w' => e = .returned (.bool false) ∧ Below wq.heap.size wq w') := Lib.hid (by have := C5'.out; rwa [decide_eq_false q0] at this)
                  have q1 : ((q : Int) == 0) = false := by simp; omega
                  clear q0 C5'
                  go_wp2_with fail
                  refine HC5.out.mono ?_
                  rintro e w6 ⟨rfl, hb6⟩
                  have HB7 := Lib.hid (HB6.out.trans (hb6.mono HB6.out.size))
                  clear hb6
                  go_wp2
                  go_ret
                  exact ⟨rfl, HB7.out⟩
theorem gaps_row (A : Option Addr) (n c : Nat) (z : List (List Value)) (at_ : Int) (w : World) (hn : z.length = n) (hA : A = none → n = 0 ∧ c = 0) (hnc : n ≤ c) (h : Rd w A z.flatten) (hI : ∀ r ∈ z, IsExtentD r) (hc : c * 24 ≤ 140737488351232) (_ : (Lit.int .i64 at_).wf = true) :
    Calls Try.prog 4 #[.slice A n c, .int .i64 at_] w fun e w' => e = .returned (.bool true) ∧ Below w.heap.size w w' := by
  obtain ⟨xs, rfl, hw⟩ := extsD_of z hI
  exact gaps_all A n c xs at_ w (by simpa using hn) h (by omega) hw
end Go.Proofs.Ytilmlblejopbmaa
