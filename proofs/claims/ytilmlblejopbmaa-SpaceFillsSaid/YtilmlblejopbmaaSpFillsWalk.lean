/- The walk of SpaceFills. -/
import Derived.Test.YtilmlblejopbmaaSpFillsPure
import Derived.Test.YtilmlblejopbmaaSpAwake
import Derived.Test.YtilmlblejopbmaaInts
import Derived.Deep.DeepCutAuto
namespace Go.Proofs.Ytilmlblejopbmaa
open Go.RowKit
set_option linter.unusedVariables false

theorem mod_any (a : Int) (k : Nat) (hk : 0 < k) (hk2 : k ≤ 1000000) : ∃ q : Int, 0 ≤ q ∧ q < k ∧ wrap64 ((IntKind.u64.wrap a).tmod (k : Int)) = q := by
  rw [IntKind.wrap_u64]
  have h0 : 0 ≤ a % 18446744073709551616 := Int.emod_nonneg _ (by decide)
  generalize a % 18446744073709551616 = z at *
  rw [Int.tmod_eq_emod_of_nonneg h0]
  have h1 := Int.emod_nonneg z (show (k : Int) ≠ 0 by omega)
  have h2 := Int.emod_lt_of_pos z (show (0 : Int) < (k : Int) by omega)
  generalize z % (k : Int) = y at *
  refine ⟨y, h1, h2, ?_⟩
  unfold wrap64
  omega
set_option maxRecDepth 100000 in
set_option maxHeartbeats 8000000 in
theorem fills_all (C : Int) (B : Option Addr) (n c : Nat) (l : List Int) (w : World) (hn : l.length = n) (h : Rd w B (ints l)) (hcap : n ≤ 9223372036854775807) :
    Calls Try.prog 8 #[.int .i64 C, .slice B n c] w fun e w' => e = .returned (.bool true) ∧ Below w.heap.size w w' := by
  have C0 := Lib.hid (fun w1 => awake22 w1)
  obtain ⟨K, hK0, hK1, hKe⟩ := mod_any C 200 (by omega) (by omega)
  have hKe' : wrap64 ((IntKind.u64.wrap C).tmod 200) = K := hKe
  have HR := Lib.hid h
  have HN := Lib.hid hn
  clear h hn hKe
  go_enter Try.func8, Try.ntmps8
  go_upto_region 3 with fail
  simp only [hKe']
  clear hKe'
  go_wp2_with fail
  refine (C0.out _).mono ?_
  rintro e w1 ⟨rfl, hb1⟩
  have HB1 := Lib.hid hb1
  have HF0 : Hid (Fill K 0 []) := Lib.hid (Fill.nil hK0 (by omega))
  clear hb1
  go_wp2_with fail
  go_loopw [6, 5] (fun si sl wr => ∃ (i : Nat) (A : Option Addr) (c' m : Nat) (ys : List Ext), i ≤ n ∧ i ≤ 100 ∧ si = .int .i64 i ∧ sl = .slice A m c' ∧ m ≤ i ∧ Hid (ys.length = m) ∧ Hid (Fill K i ys) ∧ Hid (Rd wr A ((ys.map rowExt).flatten)) ∧ Hid (A = none → m = 0 ∧ c' = 0) ∧ Hid (Below w.heap.size w wr)) (fun i _ _ => n - (intOf i).toNat)
  case atStart => exact ⟨0, none, 0, 0, [], by omega, by omega, rfl, rfl, by omega, Lib.hid rfl, HF0, Lib.hid (Rd.nil _ _), Lib.hid (fun _ => ⟨rfl, rfl⟩), HB1⟩
  case round =>
    obtain ⟨wo, hwo⟩ : ∃ wo : World, wo = wr := ⟨_, rfl⟩
    subst hwo
    obtain ⟨i, A, c', m, ys, hi, hi2, rfl, rfl, hmi, HYL, HF, HY, HA, HB⟩ := hrel
    go_upto_region 6 with fail
    go_cut [30] (fun s30 wx => ∃ r : Bool, wo = wx ∧ s30 = .bool r ∧ Hid (r = decide (i < n ∧ i < 100)))
    case first =>
      by_cases h1 : i < n
      · by_cases h2 : i < 100
        · go_wp2_with fail
          go_meet
          exact ⟨_, rfl, rfl, Lib.hid (by rw [Bool.eq_iff_iff]; simp; omega)⟩
        · go_wp2_with fail
          go_meet
          exact ⟨_, rfl, rfl, Lib.hid (by rw [Bool.eq_iff_iff]; simp; omega)⟩
      · go_wp2_with fail
        go_meet
        exact ⟨_, rfl, rfl, Lib.hid (by rw [Bool.eq_iff_iff]; simp; omega)⟩
    case rest =>
    obtain ⟨r, hW, rfl, HQ⟩ := hcut
    subst hW
    cases r with
    | true =>
      obtain ⟨h1, h2⟩ : i < n ∧ i < 100 := by simpa using HQ.out.symm
      have hix : i < l.length := by have := HN.out; omega
      obtain ⟨b, o, rfl, hcell⟩ := (HR.out.kept HB.out) i (.int .i64 l[i]) (by simp [ints, List.getElem?_eq_getElem hix])
      have b1 : (0 : Int) ≤ (i : Int) ∧ (i : Int) < (n : Int) := by omega
      generalize l[i] = sz at *
      obtain ⟨q, hq0, hq1, hqe⟩ := mod_any sz 9 (by omega) (by omega)
      have hqe' : wrap64 ((IntKind.u64.wrap sz).tmod 9) = q := hqe
      have hq2 : q ≤ 8 := by omega
      clear hqe hq1
      go_upto_region 9 with fail
      simp only [hqe']
      clear hqe' hcell
      have hmw : wrap64 (1 + q) = 1 + q := by unfold wrap64; omega
      try simp only [hmw]
      clear hmw
      obtain ⟨g, hg⟩ : ∃ g : Int, g = 1 + q := ⟨_, rfl⟩
      have hg1 : 1 ≤ g := by omega
      have hg2 : g ≤ 9 := by omega
      simp only [← hg]
      clear hg hq0 hq2
      have hch := chainE HF.out.chk
      obtain ⟨t1, t2⟩ := endF_ge ys 0 (by omega) hch
      have HWF := Lib.hid (HF.out.wf (by omega))
      have CT := Lib.hid (fun (w1 : World) (hb : Below wo.heap.size wo w1) => by have := tail_any A m c' ys w1 HYL.out (HY.out.kept hb) (by omega); rw [tailE_chain hch] at this; exact this)
      obtain ⟨T, hT⟩ : ∃ T, T = endF 0 ys := ⟨_, rfl⟩
      have HT := Lib.hid hT
      by_cases hfull : K < T + g
      · have CF := Lib.hid (fit_full K A m c' ys g wo HYL.out HY.out (by omega) HWF.out HF.out.chk hg1 hg2 (by omega))
        have HF2 := Lib.hid HF.out.mono
        rw [← hT] at CT t1 t2
        clear hT hch
        go_wp2_with fail
        refine CF.out.mono ?_
        rintro e w2 ⟨rfl, hb2⟩
        have HB2 := Lib.hid hb2
        clear hb2
        go_wp2_with fail
        refine (CT.out _ HB2.out).mono ?_
        rintro e w3 ⟨rfl, hb3⟩
        have HY3 := Lib.hid ((HY.out.kept HB2.out).kept hb3)
        have HB3 := Lib.hid (HB.out.trans ((HB2.out.trans (hb3.mono HB2.out.size)).mono HB.out.size))
        clear hb3
        go_wp2
        go_roundw
        case rel => exact ⟨i + 1, A, c', m, ys, by omega, by omega, by go_num, rfl, by omega, HYL, HF2, HY3, HA, HB3⟩
        case measure => simp [intOf]; omega
      · have hf : T ≤ K - g := by omega
        have CF := Lib.hid (by have := fit_ok K A m c' ys g wo HYL.out HY.out (by omega) HWF.out HF.out.chk hg1 hg2 (by omega); rw [← hT] at this; exact this)
        have hone := HF.out.one hg1 hg2 (by omega)
        have hso := sort_snoc (x := ((i : Int) + 1, endF 0 ys, g)) HF.out.chk hone (Int.le_refl _)
        have CA := Lib.hid (fun (w1 : World) (hb : Below wo.heap.size wo w1) => by have := add_ok K A m c' ys ((i : Int) + 1, endF 0 ys, g) w1 HYL.out HA.out (HY.out.kept hb) (by omega) HWF.out HF.out.chk hone (by rw [clash_tail (x := ((i : Int) + 1, endF 0 ys, g)) HF.out.chk (Int.le_refl _)]; exact HF.out.fresh); rw [hso, ← hT] at this; exact this)
        have HF2 : Hid (Fill K (i + 1) (ys ++ [((i : Int) + 1, T, g)])) := Lib.hid (by rw [hT]; exact HF.out.snoc hg1 hg2 (by omega))
        have HL2 : Hid ((ys ++ [((i : Int) + 1, T, g)]).length = m + 1) := Lib.hid (by simp [HYL.out])
        have CD := Lib.hid (fun (w1 : World) (A2 : Option Addr) (c2 : Nat) (h2 : Rd w1 A2 (((ys ++ [((i : Int) + 1, T, g)]).map rowExt).flatten)) => by have := dense_any A2 (m + 1) c2 _ w1 HL2.out h2 (by omega); rw [HF2.out.densE] at this; exact this)
        have HNE : Hid (((ys ++ [((i : Int) + 1, T, g)]).map rowExt).flatten ≠ []) := Lib.hid (by intro e; have := congrArg List.length e; rw [extRows_len, HL2.out] at this; simp at this)
        rw [← hT] at CT t1 t2
        have hu : IntKind.u64.wrap ((i : Int) + 1) = (i : Int) + 1 := by have := u64w (n := i + 1) (by omega); simpa using this
        clear hT hch hone hso
        generalize hzz : ys ++ [((i : Int) + 1, T, g)] = zz at *
        clear hzz
        go_wp2_with fail
        refine CF.out.mono ?_
        rintro e w2 ⟨rfl, hb2⟩
        have HB2 := Lib.hid hb2
        clear hb2
        go_wp2_with fail
        refine (CT.out _ HB2.out).mono ?_
        rintro e w3 ⟨rfl, hb3⟩
        have HB3 := Lib.hid (HB2.out.trans (hb3.mono HB2.out.size))
        clear hb3
        go_wp2_with fail
        refine (CA.out _ HB3.out).mono ?_
        rintro e w4 ⟨v4, rfl, ho4, hb4⟩
        obtain ⟨A4, c4, rfl, _, _, hr4, _⟩ := own_rd ho4
        have HA4 : Hid (A4 = none → m + 1 = 0 ∧ c4 = 0) := Lib.hid (fun e => by subst e; obtain ⟨b, o, h⟩ := hr4.some_of HNE.out; cases h)
        have HR4 := Lib.hid hr4
        have HB4 := Lib.hid (HB3.out.trans (hb4.mono HB3.out.size))
        clear ho4 hr4 hb4
        go_wp2_with fail
        refine (CT.out _ HB4.out).mono ?_
        rintro e w5 ⟨rfl, hb5⟩
        have HR5 := Lib.hid (HR4.out.kept hb5)
        have HB5 := Lib.hid (HB4.out.trans (hb5.mono HB4.out.size))
        clear hb5
        go_wp2_with fail
        refine (CD.out _ _ _ HR5.out).mono ?_
        rintro e w6 ⟨rfl, hb6⟩
        have HR6 := Lib.hid (HR5.out.kept hb6)
        have HB6 := Lib.hid (HB.out.trans ((HB5.out.trans (hb6.mono HB5.out.size)).mono HB.out.size))
        clear hb6
        go_wp2
        go_roundw
        case rel => exact ⟨i + 1, A4, c4, m + 1, zz, by omega, by omega, by go_num, rfl, by omega, HL2, HF2, HR6, HA4, HB6⟩
        case measure => simp [intOf]; omega
    | false =>
      by_cases hm0 : m = 0
      · have q : ((m : Int) == 0) = true := by simp; omega
        clear hm0
        go_wp2
        go_ret
        exact ⟨rfl, HB.out⟩
      · have q : ((m : Int) == 0) = false := by simp; omega
        obtain ⟨zs, x, hys, hz1, hz2, hz3, hz4, hz5, hz6, hz7⟩ : ∃ zs x, ys = zs ++ [x] ∧ checkE K zs = true ∧ sumN zs = endF 0 zs ∧ zs.any (fun y => decide (y.1 = x.1)) = false ∧ x.2.1 = endF 0 zs ∧ 1 ≤ x.2.2 ∧ x.2.2 ≤ 9 ∧ x.2.1 + x.2.2 ≤ K := by
          rcases HF.out.last with h | h
          · have := HYL.out; rw [h] at this; simp at this; omega
          · exact h
        obtain ⟨k, hk⟩ : ∃ k, m = k + 1 := ⟨m - 1, by omega⟩
        subst hk
        have hzl : zs.length = k := by have := HYL.out; rw [hys] at this; simp at this; omega
        have hwy := HF.out.wf (show i ≤ 1000 by omega)
        have hwz : ∀ y ∈ zs, (Lit.int .u64 y.1).wf = true := fun y hy => hwy y (by rw [hys]; simp [hy])
        have hany : ys.any (fun y => decide (y.1 = x.1)) = true := by rw [hys, List.any_append]; simp
        have hdel : delE x.1 ys = zs := by rw [hys]; exact delE_snoc hz3
        have CR := Lib.hid (by have := remove_any A (k + 1) c' ys x.1 (wo.alloc (.cells #[.int .u64 x.1, .int .i64 x.2.1, .int .i64 x.2.2] 28)) HYL.out HA.out (HY.out.kept (below1 _ _)) (by omega); rw [hdel] at this; simp only [hany, if_true] at this; rw [hzl] at this; exact this)
        have CF := Lib.hid (fun (w1 : World) (A2 : Option Addr) (c2 : Nat) (h2 : Rd w1 A2 ((zs.map rowExt).flatten)) => by have := fit_ok K A2 k c2 zs x.2.2 w1 hzl h2 (by omega) hwz hz1 hz5 hz6 (by omega); rw [← hz4] at this; exact this)
        have hgd := gaps_dense hz1 hz2
        have CG := Lib.hid (fun (w1 : World) (A2 : Option Addr) (c2 : Nat) (h2 : Rd w1 A2 ((zs.map rowExt).flatten)) => by have := gaps_any A2 k c2 zs w1 hzl h2 (by omega) hwz (checkE_up hz1); rw [hgd] at this; exact this)
        obtain ⟨b3, o3, rfl, hrow⟩ := HY.out.at_row (extRow_len ys) (by decide) (i := k) (r := rowExt x) (by rw [hys, List.getElem?_map, List.getElem?_append_right (by omega)]; simp [hzl])
        have x0 := hrow 0 _ rfl
        have x1 := hrow 1 _ rfl
        have x2 := hrow 2 _ rfl
        simp only [Nat.add_zero] at x0
        have b1 : (0 : Int) ≤ (k : Int) ∧ (k : Int) < (k : Int) + 1 := by omega
        clear hrow hys hz1 hz2 hz3 hz4 hz5 hz6 hz7 hzl hwy hwz hany hdel hgd hm0
        have HBX := Lib.hid (heap_alloc_new wo (.cells #[.int .u64 x.1, .int .i64 x.2.1, .int .i64 x.2.2] 28))
        have HB1' := Lib.hid (HB.out.alloc HB.out.size (.cells #[.int .u64 x.1, .int .i64 x.2.1, .int .i64 x.2.2] 28))
        have HZ1 : Hid (wo.heap.size < (wo.alloc (.cells #[.int .u64 x.1, .int .i64 x.2.1, .int .i64 x.2.2] 28)).heap.size) := Lib.hid (by simp)
        go_wp2_with fail
        refine CR.out.mono ?_
        rintro e w2 ⟨v2, rfl, ho2, hb2⟩
        obtain ⟨A2, c2, rfl, _, _, hr2, _⟩ := own_rd ho2
        have HR2 := Lib.hid hr2
        have HK2 := Lib.hid ((hb2.block wo.heap.size HZ1.out).trans HBX.out)
        have hc2 := fun j => cell_of_row w2 wo.heap.size j _ _ _ HK2.out
        have HB2 := Lib.hid (HB1'.out.trans (hb2.mono HB1'.out.size))
        have HZ2 := Lib.hid ((Array.getElem?_eq_some_iff.1 HK2.out).1)
        clear ho2 hr2 hb2 x0 x1 x2
        go_wp2_with fail
        refine (CF.out _ _ _ HR2.out).mono ?_
        rintro e w3 ⟨rfl, hb3⟩
        have HR3 := Lib.hid (HR2.out.kept hb3)
        have HK3 := Lib.hid ((hb3.block wo.heap.size HZ2.out).trans HK2.out)
        have hc3 := fun j => cell_of_row w3 wo.heap.size j _ _ _ HK3.out
        have HB3 := Lib.hid (HB2.out.trans (hb3.mono HB2.out.size))
        clear hb3 hc2
        go_wp2_with fail
        refine (CG.out _ _ _ HR3.out).mono ?_
        rintro e w4 ⟨v4, rfl, ho4, hb4⟩
        obtain ⟨A4, c4, rfl, _⟩ := own_sh ho4
        have HB4 := Lib.hid (HB3.out.trans (hb4.mono HB3.out.size))
        clear ho4 hb4
        go_wp2
        go_ret
        exact ⟨rfl, HB4.out⟩
theorem fills_row (C : Int) (B : Option Addr) (n c : Nat) (z : List Int) (w : World) (_ : (Lit.int .i64 C).wf = true) (hr : IsRow .i64 w B n c z) (_ : c * 8 ≤ 140737488351232) :
    Calls Try.prog 8 #[.int .i64 C, .slice B n c] w fun e w' => e = .returned (.bool true) ∧ Below w.heap.size w w' := by
  obtain ⟨l, h1, h2, h3, _⟩ := row_ints hr
  exact fills_all C B n c l w h1 h2 (by unfold maxLen at h3; omega)
end Go.Proofs.Ytilmlblejopbmaa
