/- The walk of SpaceSorts. -/
import Derived.Test.YtilmlblejopbmaaSpAwake
import Derived.Test.YtilmlblejopbmaaSpSortsPure
import Derived.Test.YtilmlblejopbmaaMarks
import Derived.Test.YtilmlblejopbmaaOExt
import Derived.BigRegion
import Derived.Test.YtilmlblejopbmaaTypes08
namespace Go.Proofs.Ytilmlblejopbmaa
open Go.RowKit
set_option linter.unusedVariables false

theorem infoB : (Try.prog.info? 4).map (fun i => (i.zero, i.size, i.bytes)) = some (some (.bool false), 1, 1) := by kernel_rfl
def rowsB (m : List Bool) : List Value := m.map Value.bool
theorem rowsB_set (m : List Bool) (k : Nat) (b : Bool) : (rowsB m).set k (.bool b) = rowsB (m.set k b) := by
  unfold rowsB; rw [List.map_set]
theorem madeB (n : Nat) : List.replicate n (Value.bool false) = rowsB (List.replicate n false) := by simp [rowsB]
theorem eq_parts (x a : Ext) : ((x.1 == a.1) = true ∧ (x.2.1 == a.2.1) = true ∧ (x.2.2 == a.2.2) = true ∧ decide (x = a) = true) ∨ ((x.1 == a.1) = false ∧ decide (x = a) = false) ∨ ((x.1 == a.1) = true ∧ (x.2.1 == a.2.1) = false ∧ decide (x = a) = false) ∨ ((x.1 == a.1) = true ∧ (x.2.1 == a.2.1) = true ∧ (x.2.2 == a.2.2) = false ∧ decide (x = a) = false) := by
  obtain ⟨x1, x2, x3⟩ := x
  obtain ⟨a1, a2, a3⟩ := a
  by_cases h1 : x1 = a1 <;> by_cases h2 : x2 = a2 <;> by_cases h3 : x3 = a3 <;> simp [h1, h2, h3]
/-- What the inner loop has found so far. -/
def Found (xs : List Ext) (a : Ext) (m : List Bool) (k : Nat) (f : Bool) (m' : List Bool) : Prop :=
  (f = false ∧ m' = m ∧ ∀ j, j < k → ¬ (m[j]? = some false ∧ xs[j]? = some a)) ∨ (f = true ∧ ∃ j, m[j]? = some false ∧ xs[j]? = some a ∧ m' = m.set j true)
set_option maxRecDepth 100000 in
set_option maxHeartbeats 8000000 in
theorem spacesorts_all (A : Option Addr) (n c : Nat) (xs : List Ext) (w : World) (hn : xs.length = n) (h : Rd w A ((xs.map rowExt).flatten)) (hcap : n ≤ 1048576) (hw : ∀ x ∈ xs, (Lit.int .u64 x.1).wf = true) :
    Calls Try.prog 3 #[.slice A n c] w fun e w' => e = .returned (.bool true) ∧ Below w.heap.size w w' := by
  obtain ⟨S, hS⟩ : ∃ S, S = sortV lessE xs := ⟨_, rfl⟩
  have HSP : Hid (S.Perm xs) := Lib.hid (by rw [hS]; exact sortV_perm xs)
  have HSR : Hid (Ran lessE S) := Lib.hid (by rw [hS]; exact sortV_ran swoE xs)
  have HSI : Hid (sortV lessE S = S) := Lib.hid (by rw [hS]; exact sortV_id swoE _ (sortV_ran swoE xs))
  have HSL : Hid (S.length = n) := Lib.hid (by rw [HSP.out.length_eq, hn])
  have C1 := Lib.hid (fun (w1 : World) (hb : Below w.heap.size w w1) => by have := sort_any A n c xs w1 hn (h.kept hb) (by omega); rw [← hS] at this; exact this)
  have C2 := Lib.hid (fun w1 => awake22 w1)
  have C3 := Lib.hid (fun (A1 : Option Addr) (c1 : Nat) (w1 : World) (h1 : Rd w1 A1 ((S.map rowExt).flatten)) => by have := sort_any A1 n c1 S w1 HSL.out h1 (by omega); rw [HSI.out] at this; exact this)
  have C4 := Lib.hid (fun (A1 : Option Addr) (c1 : Nat) (A2 : Option Addr) (c2 : Nat) (w1 : World) (h1 : Rd w1 A1 ((S.map rowExt).flatten)) (h2 : Rd w1 A2 ((S.map rowExt).flatten)) => Ext_plainL A1 n c1 S A2 c2 w1 HSL.out h1 h2 (by omega))
  have C5 := Lib.hid (fun (A1 : Option Addr) (c1 : Nat) (w1 : World) (h1 : Rd w1 A1 ((S.map rowExt).flatten)) => check_any 65536 A1 n c1 S w1 HSL.out h1 (by omega) (fun x hx => hw x (HSP.out.mem_iff.1 hx)))
  have C6 := Lib.hid (fun (A1 : Option Addr) (c1 : Nat) (w1 : World) (h1 : Rd w1 A1 ((S.map rowExt).flatten)) => by have := live_any A1 n c1 S w1 HSL.out h1 (by omega); rw [liveE_perm HSP.out] at this; exact this)
  have C7 := Lib.hid (fun (A1 : Option Addr) (c1 : Nat) (w1 : World) (h1 : Rd w1 A1 ((S.map rowExt).flatten)) => by have := tail_any A1 n c1 S w1 HSL.out h1 (by omega); rw [tailE_perm HSP.out] at this; exact this)
  have C8 := Lib.hid (fun (w1 : World) (hb : Below w.heap.size w w1) => live_any A n c xs w1 hn (h.kept hb) (by omega))
  have C9 := Lib.hid (fun (w1 : World) (hb : Below w.heap.size w w1) => tail_any A n c xs w1 hn (h.kept hb) (by omega))
  have HR := Lib.hid h
  have HN := Lib.hid hn
  obtain ⟨i0, hi, hz0, hz1, hz2⟩ := info_parts infoB
  generalize liveE xs = L at *
  generalize tailE xs = T at *
  clear h hn hw hS
  go_enter Try.func3, Try.ntmps3
  go_wp2_with fail
  refine (C1.out _ (Below.refl _ _)).mono ?_
  rintro e w1 ⟨v1, rfl, ho1, hb1⟩
  obtain ⟨A1, c1, rfl, _, _, hr1, _⟩ := own_rd ho1
  have HR1 := Lib.hid hr1
  have HB1 := Lib.hid hb1
  clear ho1 hr1 hb1
  go_wp2_with fail
  refine (C2.out _).mono ?_
  rintro e w2 ⟨rfl, hb2⟩
  have HR2 := Lib.hid (HR1.out.kept hb2)
  have HB2 := Lib.hid (HB1.out.trans (hb2.mono HB1.out.size))
  clear hb2
  go_wp2_with fail
  refine (C3.out _ _ _ HR2.out).mono ?_
  rintro e w3 ⟨v3, rfl, ho3, hb3⟩
  obtain ⟨A3, c3, rfl, _, _, hr3, _⟩ := own_rd ho3
  have HQ3 := Lib.hid hr3
  have HR3 := Lib.hid (HR2.out.kept hb3)
  have HB3 := Lib.hid (HB2.out.trans (hb3.mono HB2.out.size))
  clear ho3 hr3 hb3
  go_wp2_with fail
  refine (C4.out _ _ _ _ _ HQ3.out HR3.out).mono ?_
  rintro e w4 ⟨rfl, hb4⟩
  have HR4 := Lib.hid (HR3.out.kept hb4)
  have HB4 := Lib.hid (HB3.out.trans (hb4.mono HB3.out.size))
  clear hb4
  go_wp2_with (at_make; go_must (refine wpList_make_full _ rfl _ _ 29 rfl w4.heap.size 4 i0 (.bool false) 1 Try.underlying29 hi hz0 hz1 .i64 .i64 (n : Int) (n : Int) n rfl rfl rfl rfl (by rw [hz2]; omega) (by unfold maxLen; omega) (Nat.le_refl _) ?_))
  intro w5 hown5 hg5
  rw [toList_madeCells_one, madeB] at hown5
  have HO5 := Lib.hid hown5
  have HB5 : Hid (Below w4.heap.size w4 w5) := Lib.hid ((Below.refl _ _).grown hg5 (Nat.le_refl _) (fun k e => by cases e))
  have HLE : Hid (left xs (List.replicate n false) = xs) := Lib.hid (by rw [← HN.out]; exact left_none xs)
  clear hown5 hg5
  go_wp2_with fail
  go_loopw [5] (fun i wr => ∃ (j : Nat) (m : List Bool), j ≤ n ∧ i = .int .i64 j ∧ m.length = n ∧ Hid ((left xs m).Perm (S.drop j)) ∧ Hid (wr.ownsRow w4.heap.size 4 1 (.slice (some ⟨w4.heap.size, 0, none⟩) n n) n (rowsB m)) ∧ Hid (Below w4.heap.size w4 wr)) (fun i _ => n - (intOf i).toNat)
  case atStart => exact ⟨0, _, by omega, rfl, by simp, Lib.hid (by rw [HLE.out]; exact HSP.out.symm), HO5, HB5⟩
  case round =>
    obtain ⟨wo, hwo⟩ : ∃ wo : World, wo = wr := ⟨_, rfl⟩
    subst hwo
    obtain ⟨j, m, hj, rfl, hml, HP, HO, HB⟩ := hrel
    by_cases hlt : j < n
    · have hjx : j < S.length := by have := HSL.out; omega
      have HRo := Lib.hid (HR4.out.kept HB.out)
      obtain ⟨b1, o1, rfl, hrow⟩ := HRo.out.at_row (extRow_len S) (by decide) (i := j) (r := rowExt S[j]) (by simp [List.getElem?_eq_getElem hjx])
      have HD : Hid (S.drop j = S[j] :: S.drop (j + 1)) := Lib.hid (List.drop_eq_getElem_cons hjx)
      have bj : (0 : Int) ≤ (j : Int) ∧ (j : Int) < (n : Int) := by omega
      have r1 := hrow 1 _ rfl
      have HROW := Lib.hid hrow
      clear hrow
      go_upto_region 8 with fail
      go_cut [50] (fun s50 wx => s50 = .bool false ∧ ∃ (W : World), W = wx ∧ Hid (wx.ownsRow w4.heap.size 4 1 (.slice (some ⟨w4.heap.size, 0, none⟩) n n) n (rowsB m)) ∧ Hid (Below w4.heap.size w4 wx))
      case first =>
        rcases Nat.eq_zero_or_pos j with h0 | h0
        · have e0 := Lib.hid h0
          have d0 : decide ((0 : Int) < (j : Int)) = false := by simp; omega
          go_quiet (fail)
          go_wp2_with fail
          go_meet
          exact ⟨rfl, _, rfl, Lib.hid (own_kept HO.out (below_drewN _ _)), Lib.hid (HB.out.trans (below_drewN _ _))⟩
        · obtain ⟨t, ht⟩ : ∃ t, j = t + 1 := ⟨j - 1, by omega⟩
          have htx : t < S.length := by omega
          obtain ⟨b1', o1', hbo, hrow2⟩ := HRo.out.at_row (extRow_len S) (by decide) (i := t) (r := rowExt S[t]) (by simp [List.getElem?_eq_getElem htx])
          simp only [Option.some.injEq, Addr.mk.injEq, and_true] at hbo
          obtain ⟨rfl, rfl⟩ := hbo
          have r2 := hrow2 1 _ rfl
          have hge := List.pairwise_iff_getElem.1 HSR.out t j htx hjx (by omega)
          have hle : S[t].2.1 ≤ S[j].2.1 := by simpa [lessE] using hge
          generalize S[t] = y at *
          generalize S[j] = a at *
          subst ht
          have r1' : wo.cell? ⟨b1, o1 + (t + 1) * 3 + 1, none⟩ = some (.int .i64 a.2.1) := r1
          have r2' : wo.cell? ⟨b1, o1 + t * 3 + 1, none⟩ = some (.int .i64 y.2.1) := r2
          have d0 : decide ((0 : Int) < ((t + 1 : Nat) : Int)) = true := by simp
          have d1 : ¬ a.2.1 < y.2.1 := by omega
          have d2 : (0 : Int) ≤ (t : Int) ∧ (t : Int) < (n : Int) := by omega
          have d3 : IntKind.i64.wrap (t : Int) = (t : Int) := IntWalk.i64_in _ (by omega)
          clear r1 r2 hrow2 hge hlt htx hjx h0
          go_quiet (fail)
          go_wp2_with fail
          go_meet
          exact ⟨rfl, _, rfl, Lib.hid (own_kept HO.out (below_drewN _ _)), Lib.hid (HB.out.trans (below_drewN _ _))⟩
      case rest =>
      obtain ⟨rfl, W8, hW8, HO8, HB8⟩ := hcut
      subst hW8
      have HSA := Lib.hid (fun (W : World) (hb : Below w4.heap.size w4 W) => show W.rangeAt b1 (o1 + j * 3) (rowExt S[j]) from by
        obtain ⟨b1', o1', hbo, hr⟩ := (HR4.out.kept hb).at_row (extRow_len S) (by decide) (i := j) (r := rowExt S[j]) (by simp [List.getElem?_eq_getElem hjx])
        simp only [Option.some.injEq, Addr.mk.injEq, and_true] at hbo
        obtain ⟨rfl, rfl⟩ := hbo
        exact hr)
      clear r1 HROW
      generalize S[j] = a at *
      go_wp2_with fail
      go_loopw [7, 6] (fun i f wr => ∃ (k : Nat) (fd : Bool) (m' : List Bool), k ≤ n ∧ i = .int .i64 k ∧ f = .bool fd ∧ m'.length = n ∧ Hid (Found xs a m k fd m') ∧ Hid (wr.ownsRow w4.heap.size 4 1 (.slice (some ⟨w4.heap.size, 0, none⟩) n n) n (rowsB m')) ∧ Hid (Below w4.heap.size w4 wr)) (fun i _ _ => n - (intOf i).toNat)
      case atStart => exact ⟨0, false, m, by omega, rfl, rfl, hml, Lib.hid (.inl ⟨rfl, rfl, by omega⟩), HO8, HB8⟩
      case round =>
        obtain ⟨wi, hwi⟩ : ∃ wi : World, wi = wr := ⟨_, rfl⟩
        subst hwi
        obtain ⟨k, fd, m', hk, rfl, rfl, hml', HF, HOi, HBi⟩ := hrel
        cases fd with
        | true =>
          have HF2 : Hid (∃ j' : Nat, m[j']? = some false ∧ xs[j']? = some a ∧ m' = m.set j' true) := Lib.hid (by
            rcases HF.out with ⟨h1, _⟩ | ⟨_, h2⟩
            · cases h1
            · exact h2)
          have HP2 : Hid ((left xs m').Perm (S.drop (j + 1))) := Lib.hid (by
            obtain ⟨j', e1, e2, e3⟩ := HF2.out
            have p1 := left_set xs m j' e1 e2
            rw [← e3] at p1
            have p2 := HP.out
            rw [HD.out] at p2
            exact (p1.symm.trans p2).cons_inv)
          have b12 : decide ((k : Int) < (n : Int)) = true ∨ decide ((k : Int) < (n : Int)) = false := by cases decide ((k : Int) < (n : Int)) <;> simp
          rcases b12 with b12 | b12
          · have b13 : k < n := by simpa using b12
            go_wp2
            go_roundw
            case rel => exact ⟨j + 1, m', by omega, by go_num, hml', HP2, HOi, HBi⟩
            case measure => simp [intOf]; omega
          · have b13 : ¬ k < n := by simpa using b12
            go_wp2
            go_roundw
            case rel => exact ⟨j + 1, m', by omega, by go_num, hml', HP2, HOi, HBi⟩
            case measure => simp [intOf]; omega
        | false =>
          obtain ⟨e1, HF2⟩ : m' = m ∧ Hid (∀ j', j' < k → ¬ (m[j']? = some false ∧ xs[j']? = some a)) := by
            rcases HF.out with ⟨_, h2, h3⟩ | ⟨h1, _⟩
            · exact ⟨h2, Lib.hid h3⟩
            · cases h1
          subst e1
          by_cases hkn : k < n
          · have hkx : k < xs.length := by have := HN.out; omega
            have hkm : k < m'.length := by omega
            have hrx := ((HR.out.kept HB4.out).kept HBi.out).at_row (extRow_len xs) (by decide) (i := k) (r := rowExt xs[k]) (by simp [List.getElem?_eq_getElem hkx])
            obtain ⟨b2, o2, rfl, hrow3⟩ := hrx
            have hus := HOi.out.cellAt k (by omega)
            have huk : (rowsB m')[k]? = some (.bool m'[k]) := by simp [rowsB, List.getElem?_eq_getElem hkm]
            rw [huk] at hus
            have hfz := HOi.out.frozenAt k
            have a0 := HSA.out wi HBi.out 0 _ rfl
            have a1 := HSA.out wi HBi.out 1 _ rfl
            have a2 := HSA.out wi HBi.out 2 _ rfl
            have x0 := hrow3 0 _ rfl
            have x1 := hrow3 1 _ rfl
            have x2 := hrow3 2 _ rfl
            simp only [Nat.add_zero] at a0 x0
            have HMK : Hid (m'[k]? = some m'[k]) := Lib.hid (List.getElem?_eq_getElem hkm)
            have HXK : Hid (xs[k]? = some xs[k]) := Lib.hid (List.getElem?_eq_getElem hkx)
            have bk : (0 : Int) ≤ (k : Int) ∧ (k : Int) < (n : Int) := by omega
            clear hrow3 huk
            generalize xs[k] = x at *
            generalize m'[k] = bm at *
            go_upto_region 14 with fail
            go_cut [76] (fun s76 wx => s76 = .bool (!bm && decide (x = a)) ∧ ∃ (W : World), W = wx ∧ Hid (wx.ownsRow w4.heap.size 4 1 (.slice (some ⟨w4.heap.size, 0, none⟩) n n) n (rowsB m')) ∧ Hid (Below w4.heap.size w4 wx))
            case first =>
              cases bm with
              | true =>
                go_quiet (fail)
                go_wp2_with fail
                go_meet
                exact ⟨rfl, _, rfl, Lib.hid (own_kept HOi.out (below_drewN _ _)), Lib.hid (HBi.out.trans (below_drewN _ _))⟩
              | false =>
                rcases eq_parts x a with ⟨q0, q1, q2, hq⟩ | ⟨q0, hq⟩ | ⟨q0, q1, hq⟩ | ⟨q0, q1, q2, hq⟩
                all_goals have HQ := Lib.hid hq
                all_goals clear hq
                all_goals go_region
                all_goals go_wp2_with fail
                all_goals go_meet
                all_goals exact ⟨by rw [HQ.out]; rfl, _, rfl, Lib.hid (own_kept HOi.out (by first | exact below_drewN _ _ | exact (Below.refl _ _).drew)), Lib.hid (HBi.out.trans (by first | exact below_drewN _ _ | exact (Below.refl _ _).drew))⟩
            case rest =>
            obtain ⟨rfl, W9, hW9, HO9, HB9⟩ := hcut
            subst hW9
            clear hus hfz a0 a1 a2 x0 x1 x2
            cases hr : (!bm && decide (x = a)) with
            | true =>
              obtain ⟨hb0, hxa⟩ : bm = false ∧ x = a := by simpa using hr
              have hus := HO9.out.cellAt k (by omega)
              have hfz := HO9.out.frozenAt k
              have HFD : Hid (Found xs a m' (k + 1) true (m'.set k true)) := Lib.hid (.inr ⟨rfl, k, by rw [HMK.out, hb0], by rw [HXK.out, hxa], rfl⟩)
              have huk : (rowsB m')[k]? = some (.bool false) := by simp [rowsB, HMK.out, hb0]
              rw [huk] at hus
              clear hr hb0 hxa huk HMK HXK
              go_wp2
              go_roundw
              case rel => exact ⟨k + 1, true, m'.set k true, by omega, by go_num, rfl, by simpa using hml, HFD, Lib.hid (by rw [← rowsB_set]; exact (HO9.out.stored k (.bool true)).1), Lib.hid (HB9.out.setCell (p := ⟨w4.heap.size, k, none⟩) (Nat.le_refl _) _)⟩
              case measure => simp [intOf]; omega
            | false =>
              have HFD : Hid (Found xs a m' (k + 1) false m') := Lib.hid (.inl ⟨rfl, rfl, fun j' hj' => by
                by_cases e : j' = k
                · subst e
                  rw [HMK.out, HXK.out]
                  intro hh
                  simp at hh
                  simp [hh.1, hh.2] at hr
                · exact HF2.out j' (by omega)⟩)
              clear hr HMK HXK
              go_wp2
              go_roundw
              case rel => exact ⟨k + 1, false, m', by omega, by go_num, rfl, hml, HFD, HO9, HB9⟩
              case measure => simp [intOf]; omega
          · obtain rfl : k = n := by omega
            exfalso
            have hm : a ∈ left xs m' := HP.out.mem_iff.2 (by rw [HD.out]; simp)
            obtain ⟨k', g1, g2⟩ := left_mem xs m' hm
            have := (List.getElem?_eq_some_iff.1 g1).1
            exact HF2.out k' (by omega) ⟨g1, g2⟩
    · obtain rfl : j = n := by omega
      have HRo := Lib.hid (HR4.out.kept HB.out)
      have HBo := Lib.hid (HB4.out.trans (HB.out.mono HB4.out.size))
      have CK := C5.out _ c1 _ HRo.out
      cases hck : checkE 65536 S with
      | false =>
        rw [hck] at CK
        have HCK := Lib.hid CK
        have e1 : errE false = 11 := rfl
        clear CK hck hlt
        go_wp2_with fail
        refine HCK.out.mono ?_
        rintro e w6 ⟨rfl, hb6⟩
        have HB6 := Lib.hid (HBo.out.trans (hb6.mono HBo.out.size))
        clear hb6
        go_wp2
        go_ret
        exact ⟨rfl, HB6.out⟩
      | true =>
        rw [hck] at CK
        have HCK := Lib.hid CK
        have e1 : errE true = 0 := rfl
        clear CK hck hlt
        go_wp2_with fail
        refine HCK.out.mono ?_
        rintro e w6 ⟨rfl, hb6⟩
        have HR6 := Lib.hid (HRo.out.kept hb6)
        have HB6 := Lib.hid (HBo.out.trans (hb6.mono HBo.out.size))
        clear hb6
        go_wp2_with fail
        refine (C6.out _ _ _ HR6.out).mono ?_
        rintro e w7 ⟨rfl, hb7⟩
        have HR7 := Lib.hid (HR6.out.kept hb7)
        have HB7 := Lib.hid (HB6.out.trans (hb7.mono HB6.out.size))
        clear hb7
        go_wp2_with fail
        refine (C8.out _ HB7.out).mono ?_
        rintro e w8 ⟨rfl, hb8⟩
        have HR8 := Lib.hid (HR7.out.kept hb8)
        have HB8 := Lib.hid (HB7.out.trans (hb8.mono HB7.out.size))
        clear hb8
        go_wp2_with fail
        refine (C7.out _ _ _ HR8.out).mono ?_
        rintro e w9 ⟨rfl, hb9⟩
        have HB9 := Lib.hid (HB8.out.trans (hb9.mono HB8.out.size))
        clear hb9
        go_wp2_with fail
        refine (C9.out _ HB9.out).mono ?_
        rintro e w10 ⟨rfl, hb10⟩
        have HB10 := Lib.hid (HB9.out.trans (hb10.mono HB9.out.size))
        clear hb10
        go_wp2
        go_ret
        exact ⟨rfl, HB10.out⟩
theorem exts_of : ∀ z : List (List Value), (∀ r ∈ z, IsExtentD r) → ∃ xs : List Ext, z = xs.map rowExt ∧ ∀ x ∈ xs, (Lit.int .u64 x.1).wf = true
  | [], _ => ⟨[], rfl, by simp⟩
  | r :: z, h => by
    obtain ⟨xs, hx, hw⟩ := exts_of z (fun r' h' => h r' (by simp [h']))
    obtain ⟨a, b, d, hr, h1, _⟩ := h r (by simp)
    exact ⟨(a, b, d) :: xs, by rw [hx, hr]; rfl, by
      intro x hx'
      rcases List.mem_cons.1 hx' with rfl | hx'
      · exact h1
      · exact hw x hx'⟩
theorem spacesorts_row (A : Option Addr) (n c : Nat) (z : List (List Value)) (w : World) (hn : z.length = n) (hA : A = none → n = 0 ∧ c = 0) (hnc : n ≤ c) (h : Rd w A z.flatten) (hI : ∀ r ∈ z, IsExtentD r) (hc : c ≤ 1048576) :
    Calls Try.prog 3 #[.slice A n c] w fun e w' => e = .returned (.bool true) ∧ Below w.heap.size w w' := by
  obtain ⟨xs, rfl, hw⟩ := exts_of z hI
  exact spacesorts_all A n c xs w (by simpa using hn) h (by omega) hw
end Go.Proofs.Ytilmlblejopbmaa
