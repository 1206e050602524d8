/- Contracts: dunnagehelp.Plain, Own, Kept at one kind of things. -/
import Derived.Test.YtmipfmeafbeegaaQExtVoc
import Derived.StillTailTactics
import Derived.BigQuiet
import Derived.Deep.Cut
namespace Go.Proofs.Ytmipfmeafbeegaa
open Go.RowKit
set_option linter.unusedVariables false

theorem below1Ext (w : World) (o : Obj) : Below w.heap.size w (w.alloc o) := (Below.refl _ _).alloc (Nat.le_refl _) _
def IsExt (r : List Value) : Prop := ∃ x : Ext, r = rowExt x
theorem IsExt.len {r : List Value} (h : IsExt r) : r.length = 3 := by obtain ⟨x, rfl⟩ := h; rfl
theorem isExt_all (xs : List Ext) : ∀ r ∈ xs.map rowExt, IsExt r := by
  intro r hr
  simp only [List.mem_map] at hr
  obtain ⟨x, _, rfl⟩ := hr
  exact ⟨x, rfl⟩
theorem rowsExt_len (xs : List Ext) : ((xs.map rowExt).flatten).length = xs.length * 3 := by
  rw [flat_len 3 _ (fun r hr => (isExt_all xs r hr).len)]; simp
theorem rowsExt_one (xs : List Ext) : ∀ u ∈ (xs.map rowExt).flatten, u.oneCell' = true := by
  intro u hu
  obtain ⟨r, hr, hur⟩ := List.mem_flatten.1 hu
  obtain ⟨x, rfl⟩ := isExt_all xs r hr
  exact rowExt_one x u hur
theorem Ext_same (x : Ext) (w : World) :
    Calls Try.prog 39 #[.agg #[.int .u64 x.1, .int .i64 x.2.1, .int .i64 x.2.2], .agg #[.int .u64 x.1, .int .i64 x.2.1, .int .i64 x.2.2]] w fun e w' => e = .returned (.bool true) ∧ Below w.heap.size w w' := by
  go_enter Try.func39, Try.ntmps39
  go_wp2
  go_ret
  exact ⟨rfl, ((Below.refl _ _).alloc (Nat.le_refl _) _).alloc (by simp) _⟩

theorem Ext_srow {w : World} {A : Option Addr} {rows : List (List Value)} (h : Rd w A rows.flatten) (hk : ∀ r ∈ rows, IsExt r) {j : Nat} (hj : j < rows.length) : ∃ b o, A = some ⟨b, o, none⟩ ∧ b < w.heap.size ∧ w.rangeAt b (o + j * 3) rows[j] := by
  have hk' : ∀ r ∈ rows, r.length = 3 := fun r hr => (hk r hr).len
  obtain ⟨b, o, hA, hr⟩ := h.at_row hk' (by decide) (List.getElem?_eq_getElem hj)
  refine ⟨b, o, hA, ?_, hr⟩
  have hl := hk' _ (List.getElem_mem hj)
  exact World.block_lt_of_cell? w ⟨b, o + j * 3 + 0, none⟩ (hr 0 (rows[j][0]'(by omega)) (List.getElem?_eq_getElem (by omega)))
set_option maxRecDepth 100000 in
set_option maxHeartbeats 2000000 in
theorem Ext_sameL (A : Option Addr) (n c : Nat) (rows : List (List Value)) (B : Option Addr) (d : Nat) (w : World) (hn : rows.length = n) (h : Rd w A rows.flatten) (h' : Rd w B rows.flatten) (hk : ∀ r ∈ rows, IsExt r) (hnb : n ≤ 4611686018427387904) :
    Calls Try.prog 38 #[.slice A n c, .slice B n d, .func (.func 39) #[] #[]] w fun e w' => e = .returned (.bool true) ∧ Below w.heap.size w w' := by
  have q1 : ((n : Int) != (n : Int)) = false := by simp
  have HN := Lib.hid hn
  have HK := Lib.hid hk
  have HR := Lib.hid h
  have HR' := Lib.hid h'
  clear hn hk h h'
  go_enter Try.func38, Try.ntmps38
  go_wp2_with fail
  go_loopw [7] (fun i wr => ∃ j : Nat, j ≤ n ∧ i = .int .i64 j ∧ Below w.heap.size w wr) (fun i _ => n - (intOf i).toNat)
  case atStart => exact ⟨0, by omega, rfl, Below.refl _ _⟩
  case round =>
    obtain ⟨j, hj, rfl, hb⟩ := hrel
    by_cases hlt : j < n
    · have hjv : j < rows.length := by have := HN.out; omega
      obtain ⟨b, o, rfl, hbl, hr⟩ := Ext_srow (HR.out.kept hb) HK.out hjv
      obtain ⟨b', o', rfl, hbl', hr'⟩ := Ext_srow (HR'.out.kept hb) HK.out hjv
      have hsh := HK.out _ (List.getElem_mem hjv)
      have HB := Lib.hid hb
      clear hb
      generalize rows[j] = r at *
      clear hjv
      obtain ⟨x, rfl⟩ := hsh
      have c0 := hr 0 _ rfl
      have d0 := hr' 0 _ rfl
      have c1 := hr 1 _ rfl
      have d1 := hr' 1 _ rfl
      have c2 := hr 2 _ rfl
      have d2 := hr' 2 _ rfl
      simp only [Nat.add_zero] at c0 d0
      have C := Lib.hid (fun w1 => Ext_same x w1)
      clear hr hr'
      have b1 : (0 : Int) ≤ (j : Int) ∧ (j : Int) < (n : Int) := by omega
      go_wp2_with fail
      go_still_tail 9, (by kernel_rfl)
      change wpList _ _ _ _ _ wr.drew
      go_wp2_with fail
      refine (C.out _).mono ?_
      rintro e w2 ⟨rfl, hb2⟩
      have HB2 := Lib.hid (HB.out.drew.trans (hb2.mono HB.out.drew.size))
      clear hb2 c0 d0 c1 d1 c2 d2
      go_wp2
      go_roundw
      case rel => exact ⟨j + 1, by omega, by go_num, HB2.out⟩
      case measure => simp [intOf]; omega
    · obtain rfl : j = n := by omega
      go_wp2
      go_ret
      exact ⟨rfl, hb⟩
theorem Ext_plain (A : Option Addr) (n c : Nat) (rows : List (List Value)) (B : Option Addr) (d : Nat) (w : World) (hn : rows.length = n) (h : Rd w A rows.flatten) (h' : Rd w B rows.flatten) (hk : ∀ r ∈ rows, IsExt r) (hnb : n ≤ 4611686018427387904) :
    Calls Try.prog 20 #[.slice A n c, .slice B n d] w fun e w' => e = .returned (.bool true) ∧ Below w.heap.size w w' := by
  have C := Lib.hid (Ext_sameL A n c rows B d w hn h h' hk hnb)
  clear h h' hn hk
  go_enter Try.func20, Try.ntmps20
  go_wp2_with fail
  refine C.out.mono ?_
  rintro e w1 ⟨rfl, hb⟩
  go_wp2
  go_ret
  exact ⟨rfl, hb⟩


theorem Ext_plainL (A : Option Addr) (n c : Nat) (xs : List Ext) (B : Option Addr) (d : Nat) (w : World) (hn : xs.length = n) (h : Rd w A ((xs.map rowExt).flatten)) (h' : Rd w B ((xs.map rowExt).flatten)) (hnb : n ≤ 4611686018427387904) :
    Calls Try.prog 20 #[.slice A n c, .slice B n d] w fun e w' => e = .returned (.bool true) ∧ Below w.heap.size w w' :=
  Ext_plain A n c _ B d w (by simpa using hn) h h' (isExt_all xs) hnb
def ownExt (xs : List Ext) (x : Ext) : List Value := ((xs ++ List.replicate 3 x).map rowExt).flatten
theorem ownExt_take (xs : List Ext) (x : Ext) : (ownExt xs x).take (xs.length * 3) = (xs.map rowExt).flatten := by
  unfold ownExt
  rw [List.map_append, List.flatten_append, List.take_append_of_le_length (by rw [rowsExt_len]; omega), List.take_of_length_le (by rw [rowsExt_len]; omega)]
theorem take_set1 (L : List Value) (m : Nat) (v : Value) (h : m < L.length) : (L.set m v).take (m + 1) = L.take m ++ [v] := by
  rw [List.take_succ_eq_append_getElem (by simpa using h), List.take_set_of_le (Nat.le_refl _)]
  simp
theorem fitsExt_step {xs : List Ext} {x : Ext} {M : List Value} {n j : Nat} (h1 : M.length = (n + 3) * 3) (h2 : M.take (j * 3) = ((xs ++ List.replicate (j - n) x).map rowExt).flatten) (hj : n ≤ j) (hi : j < n + 3) :
    ((((M).set (j * 3) (.int .u64 x.1)).set (j * 3 + 1) (.int .i64 x.2.1)).set (j * 3 + 2) (.int .i64 x.2.2)).length = (n + 3) * 3 ∧ ((((M).set (j * 3) (.int .u64 x.1)).set (j * 3 + 1) (.int .i64 x.2.1)).set (j * 3 + 2) (.int .i64 x.2.2)).take ((j + 1) * 3) = ((xs ++ List.replicate (j + 1 - n) x).map rowExt).flatten := by
  refine ⟨by simpa using h1, ?_⟩
  have e : (j + 1) * 3 = j * 3 + 3 := by omega
  rw [e, take_set1 _ (j * 3 + 2) _ (by first | omega | (simp; omega)), take_set1 _ (j * 3 + 1) _ (by first | omega | (simp; omega)), take_set1 _ (j * 3) _ (by first | omega | (simp; omega)), h2, show j + 1 - n = (j - n) + 1 by omega, List.replicate_succ', ← List.append_assoc, List.map_append (l₂ := [x]), List.flatten_append]
  simp [rowExt]
set_option maxRecDepth 100000 in
set_option maxHeartbeats 4000000 in
theorem ownExt_any (A : Option Addr) (n c : Nat) (xs : List Ext) (x : Ext) (w : World) (hn : xs.length = n) (hA : A = none → n = 0 ∧ c = 0) (h : Rd w A ((xs.map rowExt).flatten)) (hnb : n ≤ 100000000) :
    Calls Try.prog 8 #[.slice A n c, .agg #[.int .u64 x.1, .int .i64 x.2.1, .int .i64 x.2.2]] w fun e w' => ∃ g, e = .returned (.slice (some ⟨g, 0, none⟩) n (n + 3)) ∧ w.heap.size ≤ g ∧ w'.heap[g]? = some (.cells (ownExt xs x).toArray 26 (0, 0)) ∧ Below w.heap.size w w' := by
  obtain ⟨i0, hi, hz0, hz1, hz2⟩ := info_parts infoTExt
  have HR := Lib.hid h
  have HN := Lib.hid hn
  have HA := Lib.hid hA
  clear h hn hA
  go_enter Try.func8, Try.ntmps8
  go_wp2_with (at_make; go_must (refine wpList_make_own _ rfl _ _ 22 rfl w.heap.size 26 i0 (.agg #[.int .u64 0, .int .i64 0, .int .i64 0]) 3 Try.underlying22 hi hz0 hz1 .i64 .i64 ((n : Int) + 3) (n + 3) rfl rfl (by omega) (by rw [hz2]; omega) (by unfold maxLen; omega) (by simp) ?_))
  intro w1 hown1 hg1
  have hb1 : Below w.heap.size w w1 := (below1Ext w _).grown hg1 (by simp) (fun k e => by cases e)
  have hBx1 : w1.heap[w.heap.size]? = some (.cells #[.int .u64 x.1, .int .i64 x.2.1, .int .i64 x.2.2] 26 (0, 0)) := (hg1.block _ (by simp) (by simp)).trans (heap_alloc_new _ _)
  have HO1 := Lib.hid hown1
  have HB1 := Lib.hid hb1
  have HX1 := Lib.hid hBx1
  have hz1s := hb1.size
  clear hg1 hown1 hb1 hBx1
  go_wp2_with (at_builtin; go_must (refine wpList_append_fits_any _ rfl _ _ 22 rfl w.heap.size 26 i0 3 Try.underlying22 hi hz1 (w.heap.size + 1) 0 (n + 3) [] rfl HO1.out A n c ((xs.map rowExt).flatten) rfl (by rw [rowsExt_len, HN.out]) HA.out (fun ad e => by subst e; exact (HR.out.kept HB1.out).addr) (rowsExt_one xs) (by omega) ?_))
  intro w2 hown2 hg2
  have hlt1 : w.heap.size < w1.heap.size := (Array.getElem?_eq_some_iff.1 HX1.out).1
  have hb2 : Below w.heap.size w w2 := HB1.out.grown hg2 hz1s (fun k e => by cases e; omega)
  have hBx2 : w2.heap[w.heap.size]? = some (.cells #[.int .u64 x.1, .int .i64 x.2.1, .int .i64 x.2.2] 26 (0, 0)) := (hg2.block _ hlt1 (by simp)).trans HX1.out
  obtain ⟨L, hl3, hown3, htk⟩ : ∃ L : List Value, L.length = (n + 3) * 3 ∧ w2.ownsRow w.heap.size 26 3 (.slice (some ⟨w.heap.size + 1, 0, none⟩) (n + 3) (n + 3)) (n + 3) L ∧ L.take (n * 3) = (xs.map rowExt).flatten := by
    rcases hown2.2 with ⟨h', _⟩ | ⟨g', cap', cur, h', hb', hh, hnc, hcm, hcs, htake⟩
    · simp at h'
    · simp only [Value.slice.injEq, Option.some.injEq, Addr.mk.injEq, and_true, true_and] at h'
      obtain ⟨rfl, rfl⟩ := h'
      refine ⟨cur.toList, by simpa using hcs, ⟨by simpa using hcs, .inr ⟨_, _, cur, rfl, hb', hh, Nat.le_refl _, hcm, hcs, by rw [List.take_of_length_le (by simp; omega)]⟩⟩, by simpa using htake⟩
  have HO3 := Lib.hid hown3
  have HL := Lib.hid hl3
  have HT : Hid (L.take (n * 3) = ((xs ++ List.replicate (n - n) x).map rowExt).flatten) := Lib.hid (by rw [htk]; simp)
  have HX2 := Lib.hid hBx2
  clear hown2 hown3 hl3 htk hg2 HO1 hBx2
  go_wp2_with fail
  go_loopw [7] (fun i wr => ∃ (j : Nat) (M : List Value), n ≤ j ∧ j ≤ n + 3 ∧ i = .int .i64 j ∧ Hid (M.length = (n + 3) * 3) ∧ wr.ownsRow w.heap.size 26 3 (.slice (some ⟨w.heap.size + 1, 0, none⟩) (n + 3) (n + 3)) (n + 3) M ∧ Hid (M.take (j * 3) = ((xs ++ List.replicate (j - n) x).map rowExt).flatten) ∧ Hid (wr.heap[w.heap.size]? = some (.cells #[.int .u64 x.1, .int .i64 x.2.1, .int .i64 x.2.2] 26 (0, 0))) ∧ Below w.heap.size w wr) (fun i _ => n + 3 - (intOf i).toNat)
  case atStart => exact ⟨n, L, Nat.le_refl _, by omega, rfl, HL, HO3.out, HT, HX2, hb2⟩
  case round =>
    obtain ⟨j, M, hj0, hj, rfl, hM, hown, hT, hX, hbw⟩ := hrel
    have HO := Lib.hid hown
    by_cases hlt : j < n + 3
    · have hml := hM.out
      obtain ⟨u0, hu0⟩ : ∃ u, wr.cell? ⟨w.heap.size + 1, j * 3, none⟩ = some u := ⟨_, (hown.cellAt (j * 3) (by omega)).trans (List.getElem?_eq_getElem (by omega))⟩
      have hf0 := hown.frozenAt (j * 3)
      obtain ⟨u1, hu1⟩ : ∃ u, wr.cell? ⟨w.heap.size + 1, j * 3 + 1, none⟩ = some u := ⟨_, (hown.cellAt (j * 3 + 1) (by omega)).trans (List.getElem?_eq_getElem (by omega))⟩
      have hf1 := hown.frozenAt (j * 3 + 1)
      obtain ⟨u2, hu2⟩ : ∃ u, wr.cell? ⟨w.heap.size + 1, j * 3 + 2, none⟩ = some u := ⟨_, (hown.cellAt (j * 3 + 2) (by omega)).trans (List.getElem?_eq_getElem (by omega))⟩
      have hf2 := hown.frozenAt (j * 3 + 2)
      have hcx := fun i => cell_of_row wr w.heap.size i _ _ _ hX.out
      clear hown hml
      have hs := fitsExt_step hM.out hT.out hj0 hlt
      have HS := Lib.hid hs
      clear hs
      have b1 : (0 : Int) ≤ (j : Int) ∧ (j : Int) < (n : Int) + 3 := by omega
      go_wp2
      go_roundw
      case rel => exact ⟨j + 1, _, by omega, by omega, by go_num, Lib.hid HS.out.1, (((HO.out.stored (j * 3) (.int .u64 x.1)).1.stored (j * 3 + 1) (.int .i64 x.2.1)).1.stored (j * 3 + 2) (.int .i64 x.2.2)).1, Lib.hid HS.out.2, Lib.hid ((Below.heap_setCell _ ⟨w.heap.size + 1, j * 3 + 2, none⟩ _ w.heap.size (by simp)).trans ((Below.heap_setCell _ ⟨w.heap.size + 1, j * 3 + 1, none⟩ _ w.heap.size (by simp)).trans ((Below.heap_setCell _ ⟨w.heap.size + 1, j * 3, none⟩ _ w.heap.size (by simp)).trans (hX.out)))), (((hbw.setCell (p := ⟨w.heap.size + 1, j * 3, none⟩) (by simp) (.int .u64 x.1)).setCell (p := ⟨w.heap.size + 1, j * 3 + 1, none⟩) (by simp) (.int .i64 x.2.1)).setCell (p := ⟨w.heap.size + 1, j * 3 + 2, none⟩) (by simp) (.int .i64 x.2.2))⟩
      case measure => simp [intOf]; omega
    · obtain rfl : j = n + 3 := by omega
      clear hown
      go_wp2
      go_ret
      refine ⟨_, rfl, by omega, ?_, hbw⟩
      rcases HO.out.2 with ⟨h', _⟩ | ⟨g', cap', cur, h', hb', hh, hnc, hcm, hcs, htake⟩
      · simp at h'
      · simp only [Value.slice.injEq, Option.some.injEq, Addr.mk.injEq, and_true, true_and] at h'
        obtain ⟨rfl, rfl⟩ := h'
        rw [List.take_of_length_le (by simp; omega)] at htake
        rw [hh]
        have e1 := hT.out
        rw [List.take_of_length_le (Nat.le_of_eq hM.out), show n + 3 - n = 3 by omega] at e1
        show some (Obj.cells cur _ _) = some (Obj.cells (ownExt xs x).toArray _ _)
        rw [show ownExt xs x = M from e1.symm, ← htake]
set_option maxRecDepth 100000 in
set_option maxHeartbeats 4000000 in
theorem keptExt_any (g : Nat) (n : Nat) (xs : List Ext) (x : Ext) (B : Option Addr) (d : Nat) (w : World) (hn : xs.length = n) (hg : w.heap[g]? = some (.cells (ownExt xs x).toArray 26 (0, 0))) (h' : Rd w B ((xs.map rowExt).flatten)) (hnb : n ≤ 100000000) :
    Calls Try.prog 15 #[.slice (some ⟨g, 0, none⟩) n (n + 3), .slice B n d, .agg #[.int .u64 x.1, .int .i64 x.2.1, .int .i64 x.2.2]] w fun e w' => e = .returned (.bool true) ∧ Below w.heap.size w w' := by
  have hlt := lt_of_block hg
  obtain ⟨wx, hwx⟩ : ∃ wx : World, wx = w.alloc (.cells #[.int .u64 x.1, .int .i64 x.2.1, .int .i64 x.2.2] 26) := ⟨_, rfl⟩
  have hbx : Below w.heap.size w wx := by rw [hwx]; exact below1Ext _ _
  have hgx := (hbx.block g hlt).trans hg
  have hBx : wx.heap[w.heap.size]? = some (.cells #[.int .u64 x.1, .int .i64 x.2.1, .int .i64 x.2.2] 26 (0, 0)) := by rw [hwx]; exact heap_alloc_new _ _
  have hR : Rd wx (some ⟨g, 0, none⟩) ((xs.map rowExt).flatten) := by
    have := (rd_block hgx).take (xs.length * 3)
    rwa [ownExt_take] at this
  have C1 := Lib.hid (Ext_plainL (some ⟨g, 0, none⟩) n (n + 3) xs B d wx hn hR (h'.kept hbx) (by omega))
  have HG := Lib.hid hgx
  have HN := Lib.hid hn
  have HBX := Lib.hid hBx
  have HB0 := Lib.hid hbx
  have hsx : wx.heap.size = w.heap.size + 1 := by rw [hwx]; simp
  clear hR h' hn hg hgx hBx hbx
  go_enter Try.func15, Try.ntmps15
  go_upto_region 1 with fail
  rw [← hwx]
  clear hwx
  go_wp2_with fail
  refine C1.out.mono ?_
  rintro e w1 ⟨rfl, hb⟩
  have HG1 := Lib.hid ((hb.block g (by omega)).trans HG.out)
  have hX1 := (hb.block w.heap.size (by omega)).trans HBX.out
  have hB1 := HB0.out.trans (hb.mono (by omega))
  have HX1 := Lib.hid hX1
  clear hb hX1
  go_wp2_with fail
  go_loopw [8] (fun i wr => ∃ j : Nat, n ≤ j ∧ j ≤ n + 3 ∧ i = .int .i64 j ∧ Hid (wr.heap[g]? = some (.cells (ownExt xs x).toArray 26 (0, 0))) ∧ Hid (wr.heap[w.heap.size]? = some (.cells #[.int .u64 x.1, .int .i64 x.2.1, .int .i64 x.2.2] 26 (0, 0))) ∧ Below w.heap.size w wr) (fun i _ => n + 3 - (intOf i).toNat)
  case atStart => exact ⟨n, Nat.le_refl _, by omega, rfl, HG1, HX1, hB1⟩
  case round =>
    obtain ⟨j, hj0, hj, rfl, hG, hX, hB⟩ := hrel
    by_cases hlt3 : j < n + 3
    · obtain ⟨b, o, hbo, hr⟩ := (rd_block hG.out).at_row (k := 3) (rows := (xs ++ List.replicate 3 x).map rowExt) (by intro r hr; exact (isExt_all _ r hr).len) (by decide) (i := j) (r := rowExt x) (by
        rw [List.getElem?_map, List.getElem?_append_right (by rw [HN.out]; exact hj0), List.getElem?_replicate, if_pos (by rw [HN.out]; omega)]; rfl)
      simp only [Option.some.injEq, Addr.mk.injEq, and_true] at hbo
      obtain ⟨rfl, rfl⟩ := hbo
      have c0 := hr 0 _ rfl
      have c1 := hr 1 _ rfl
      have c2 := hr 2 _ rfl
      simp only [Nat.zero_add, Nat.add_zero] at c0 c1 c2
      have b1 : (0 : Int) ≤ (j : Int) ∧ (j : Int) < (n : Int) + 3 := by omega
      clear hr
      have hcx := fun i => cell_of_row wr w.heap.size i _ _ _ hX.out
      go_wp2_with fail
      go_region
      go_wp2
      go_roundw
      case rel => exact ⟨j + 1, by omega, by omega, by go_num, Lib.hid hG.out, Lib.hid hX.out, by first | exact hB.drew | exact hB.trans (below_drewN _ _) | exact hB⟩
      case measure => simp [intOf]; omega
    · obtain rfl : j = n + 3 := by omega
      go_wp2
      go_ret
      exact ⟨rfl, hB⟩
end Go.Proofs.Ytmipfmeafbeegaa
