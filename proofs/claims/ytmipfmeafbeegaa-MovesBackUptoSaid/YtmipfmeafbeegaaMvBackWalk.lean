/- The walk of the law MovesBack. -/
import Derived.Test.YtmipfmeafbeegaaMvNext
import Derived.Test.YtmipfmeafbeegaaMvDo
import Derived.Test.YtmipfmeafbeegaaOExt
import Derived.Test.YtmipfmeafbeegaaTypes07
namespace Go.Proofs.Ytmipfmeafbeegaa
open Go.RowKit
set_option linter.unusedVariables false

theorem exts_of : ∀ z : List (List Value), (∀ r ∈ z, IsExtentD r) → ∃ xs : List Ext, z = xs.map rowExt ∧ ∀ x ∈ xs, (Lit.int .u64 x.1).wf = true
  | [], _ => ⟨[], rfl, by simp⟩
  | r :: z, h => by
    obtain ⟨xs, hx, hw⟩ := exts_of z (fun r' h' => h r' (by simp [h']))
    obtain ⟨a, b, d, hr, h1, _⟩ := h r (by simp)
    exact ⟨(a, b, d) :: xs, by rw [hx, hr]; rfl, by
      intro x hx'
      rcases List.mem_cons.1 hx' with rfl | hx'
      · exact h1
      · exact hw x hx'⟩
theorem doS_wf {S : List Ext} {m : Mov} (hw : ∀ x ∈ S, (Lit.int .u64 x.1).wf = true) (hm : (Lit.int .u64 m.1).wf = true) : ∀ x ∈ doS S m, (Lit.int .u64 x.1).wf = true := by
  intro x hx
  rcases List.mem_cons.1 ((insV_perm (less := lessE) (toE m) (doD S m)).mem_iff.1 hx) with rfl | hx
  · exact hm
  · exact hw x (List.mem_filter.1 hx).1
set_option maxRecDepth 100000 in
set_option maxHeartbeats 4000000 in
theorem movesback_all (C : Int) (A : Option Addr) (n c : Nat) (xs : List Ext) (m : Mov) (w : World) (hn : xs.length = n) (h : Rd w A ((xs.map rowExt).flatten)) (hcap : n ≤ 1048576) (hw : ∀ x ∈ xs, (Lit.int .u64 x.1).wf = true) (hm : (Lit.int .u64 m.1).wf = true) :
    Calls Try.prog 5 #[.int .i64 C, .slice A n c, .agg #[.int .u64 m.1, .int .i64 m.2.1, .int .i64 m.2.2.1, .int .i64 m.2.2.2]] w fun e w' => e = .returned (.bool true) ∧ Below w.heap.size w w' := by
  obtain ⟨w0, hw0⟩ : ∃ w0 : World, w0 = w.alloc (.cells #[.int .u64 m.1, .int .i64 m.2.1, .int .i64 m.2.2.1, .int .i64 m.2.2.2] 33) := ⟨_, rfl⟩
  have hb0 : Below w.heap.size w w0 := by rw [hw0]; exact below1 _ _
  have hx0 : w0.heap[w.heap.size]? = some (.cells #[.int .u64 m.1, .int .i64 m.2.1, .int .i64 m.2.2.1, .int .i64 m.2.2.2] 33 (0, 0)) := by rw [hw0]; exact heap_alloc_new _ _
  have hz0 : w0.heap.size = w.heap.size + 1 := by rw [hw0]; simp
  have C0 := Lib.hid (fun w1 => awake24 w1)
  have C1 := Lib.hid (do_any C A n c xs m w0 hn (h.kept hb0) (by omega) hw)
  have CS := Lib.hid (fun (w1 : World) (hb : Below w.heap.size w w1) => sort_any A n c xs w1 hn (h.kept hb) (by omega))
  have HW := Lib.hid (own_wf2 hw)
  have HM := Lib.hid hm
  have HSL : Hid ((sortV lessE xs).length = n) := Lib.hid (by rw [sortV_len]; exact hn)
  have HB0 := Lib.hid hb0
  have HX0 := Lib.hid hx0
  clear hn h hb0 hx0 hw hm
  generalize sortV lessE xs = S at *
  have hbx := fun i => cell_of_row w0 w.heap.size i _ _ _ HX0.out
  have hx0 := hbx 0
  have hx1 := hbx 1
  have hx2 := hbx 2
  have hx3 := hbx 3
  simp only [List.getElem?_toArray, List.getElem?_cons_zero, List.getElem?_cons_succ] at hx0 hx1 hx2 hx3
  clear hbx
  by_cases he : doErr C S m = 0
  case neg =>
    go_enter Try.func5, Try.ntmps5
    go_upto_region 1 with fail
    rw [← hw0]
    clear hw0
    go_wp2_with fail
    refine C1.out.mono ?_
    rintro e w1 ⟨_, he2, hb1⟩
    obtain rfl := he2 he
    have q : (doErr C S m == 0) = false := by simpa using he
    have HB1 := Lib.hid (HB0.out.trans (hb1.mono (by omega)))
    clear hb1 he2 he C1 hx0 hx1 hx2 hx3
    go_wp2_with fail
    refine (C0.out _).mono ?_
    rintro e w2 ⟨rfl, hb2⟩
    have HB2 := Lib.hid (HB1.out.trans (hb2.mono HB1.out.size))
    clear hb2
    go_wp2_with fail
    refine (C0.out _).mono ?_
    rintro e w3 ⟨rfl, hb3⟩
    have HB3 := Lib.hid (HB2.out.trans (hb3.mono HB2.out.size))
    clear hb3
    go_wp2
    go_ret
    exact ⟨rfl, HB3.out⟩
  case pos =>
    obtain ⟨hbk, hbs⟩ := back_ok he
    have hck := doS_check he
    have HBK := Lib.hid hbk
    have HBS := Lib.hid hbs
    have HSO := Lib.hid (checkE_sort hck)
    have HWX := Lib.hid (doS_wf HW.out HM.out)
    clear hbk hbs hck
    go_enter Try.func5, Try.ntmps5
    go_upto_region 1 with fail
    rw [← hw0]
    clear hw0
    go_wp2_with fail
    refine C1.out.mono ?_
    rintro e w1 ⟨he1, _, hb1⟩
    obtain ⟨v1, rfl, ho1⟩ := he1 he
    obtain ⟨A1, c1, rfl, hnc1, hcm1, hrd1, hl1⟩ := own_rd ho1
    have hl1' : (doS S m).length = S.length := by rw [extRows_len] at hl1; omega
    have HX1 := Lib.hid ((hb1.block w.heap.size (by omega)).trans HX0.out)
    have HB1 := Lib.hid (HB0.out.trans (hb1.mono (by omega)))
    have HR1 := Lib.hid hrd1
    have hz1 := hb1.size
    clear hb1 he1 ho1 hrd1 hl1 C1 hx0 hx1 hx2 hx3
    go_wp2_with fail
    refine (C0.out _).mono ?_
    rintro e w2 ⟨rfl, hb2⟩
    have HX2 := Lib.hid ((hb2.block w.heap.size (by omega)).trans HX1.out)
    have HB2 := Lib.hid (HB1.out.trans (hb2.mono HB1.out.size))
    have C2 := Lib.hid (do_any C A1 S.length c1 (doS S m) (backM m) w2 hl1' (HR1.out.kept hb2) (by rw [HSL.out]; omega) HWX.out)
    rw [HSO.out] at C2
    have hz2 := hb2.size
    clear hb2 HX1 HB1
    have hbx := fun i => cell_of_row w2 w.heap.size i _ _ _ HX2.out
    have hx0 := hbx 0
    have hx1 := hbx 1
    have hx2 := hbx 2
    have hx3 := hbx 3
    simp only [List.getElem?_toArray, List.getElem?_cons_zero, List.getElem?_cons_succ] at hx0 hx1 hx2 hx3
    clear hbx
    go_wp2_with fail
    refine C2.out.mono ?_
    rintro e w3 ⟨he3, _, hb3⟩
    obtain ⟨v3, rfl, ho3⟩ := he3 HBK.out
    rw [HBS.out] at ho3
    obtain ⟨A3, c3, rfl, hnc3, hcm3, hrd3, _⟩ := own_rd ho3
    rw [hl1', HSL.out]
    have HB3 := Lib.hid (HB2.out.trans (hb3.mono (by omega)))
    have HR3 := Lib.hid hrd3
    clear hb3 he3 ho3 hrd3 C2 hx0 hx1 hx2 hx3
    go_wp2_with fail
    refine (CS.out _ HB3.out).mono ?_
    rintro e w4 ⟨v4, rfl, ho4, hb4⟩
    obtain ⟨A4, c4, rfl, _, _, hrd4, _⟩ := own_rd ho4
    have CP := Lib.hid (Ext_plainL A3 n c3 S A4 c4 w4 HSL.out (HR3.out.kept hb4) hrd4 (by omega))
    have HB4 := Lib.hid (HB3.out.trans (hb4.mono HB3.out.size))
    clear hb4 ho4 hrd4
    go_wp2_with fail
    refine CP.out.mono ?_
    rintro e w5 ⟨rfl, hb5⟩
    have HB5 := Lib.hid (HB4.out.trans (hb5.mono HB4.out.size))
    clear hb5
    go_wp2
    go_ret
    exact ⟨rfl, HB5.out⟩
theorem movesback_row (C : Int) (A : Option Addr) (n c : Nat) (z : List (List Value)) (s f t k : Int) (w : World) (_ : (Lit.int .i64 C).wf = true) (hn : z.length = n) (hA : A = none → n = 0 ∧ c = 0) (hnc : n ≤ c) (h : Rd w A z.flatten) (hI : ∀ r ∈ z, IsExtentD r) (hc : c ≤ 1048576)
    (hs : (Lit.int .u64 s).wf = true) (_ : (Lit.int .i64 f).wf = true) (_ : (Lit.int .i64 t).wf = true) (_ : (Lit.int .i64 k).wf = true) :
    Calls Try.prog 5 #[.int .i64 C, .slice A n c, .agg #[.int .u64 s, .int .i64 f, .int .i64 t, .int .i64 k]] w fun e w' => e = .returned (.bool true) ∧ Below w.heap.size w w' := by
  obtain ⟨xs, rfl, hw⟩ := exts_of z hI
  exact movesback_all C A n c xs (s, f, t, k) w (by simpa using hn) h (by omega) hw hs
end Go.Proofs.Ytmipfmeafbeegaa
