/- Contracts: dunnagehelp.Own, Kept, Same, Plain, Spoil at bytes. -/
import Derived.Test.YtdgciajdnmgcnaaHelp
namespace Go.Proofs.Ytdgciajdnmgcnaa
open Go.RowKit

theorem fits_step {l : List Int} {L : List Value} {n i : Nat} {f : Value} (h1 : L.length = n + 3) (h2 : L.take n = bys l) (h3 : ∀ j, n ≤ j → j < i → L[j]? = some f) (hi : i < n + 3) (hni : n ≤ i) :
    (L.set i f).length = n + 3 ∧ (L.set i f).take n = bys l ∧ ∀ j, n ≤ j → j < i + 1 → (L.set i f)[j]? = some f := by
  refine ⟨by simpa using h1, by rw [List.take_set_of_le hni]; exact h2, fun j hj hji => ?_⟩
  rw [List.getElem?_set]
  by_cases e : i = j
  · subst e; rw [if_pos rfl, if_pos (by omega)]
  · rw [if_neg e]; exact h3 j hj (by omega)
theorem fits_end {l : List Int} {L : List Value} {n : Nat} {f : Value} (h1 : L.length = n + 3) (h2 : L.take n = bys l) (h3 : ∀ j, n ≤ j → j < n + 3 → L[j]? = some f) : L = bys l ++ [f, f, f] := by
  rw [← List.take_append_drop n L, h2]
  congr 1
  apply List.ext_getElem?
  intro j
  rw [List.getElem?_drop]
  match j with
  | 0 => exact h3 n (by omega) (by omega)
  | 1 => exact h3 (n + 1) (by omega) (by omega)
  | 2 => exact h3 (n + 2) (by omega) (by omega)
  | j + 3 => rw [List.getElem?_eq_none (by omega)]; rfl

/-- What the copy's array holds. -/
def ownCells (l : List Int) (x : Int) : List Value := bys l ++ [Value.int .u8 x, Value.int .u8 x, Value.int .u8 x]
set_option maxHeartbeats 2000000 in
theorem own_any (A : Option Addr) (n c : Nat) (l : List Int) (x : Int) (w : World) (hn : l.length = n) (hA : A = none → n = 0 ∧ c = 0) (h : Rd w A (bys l)) (hnb : n ≤ 140737488355320) :
    Calls Try.prog 9 #[.slice A n c, .int .u8 x] w fun e w' => ∃ g, e = .returned (.slice (some ⟨g, 0, none⟩) n (n + 3)) ∧ w.heap.size ≤ g ∧ w'.heap[g]? = some (.cells (ownCells l x).toArray 5 (0, 0)) ∧ Below w.heap.size w w' := by
  obtain ⟨i0, hi, hz0, hz1, hz2⟩ := info_parts infoU8
  go_enter Try.func9, Try.ntmps9
  go_wp2_with (at_make; go_must (refine wpList_make_own _ rfl _ _ 23 rfl w.heap.size 5 i0 (.int .u8 0) 1 Try.underlying23 hi hz0 hz1 .i64 .i64 ((n : Int) + 3) (n + 3) rfl rfl (by omega) (by rw [hz2]; omega) (by unfold maxLen; omega) (Nat.le_refl _) ?_))
  intro w1 hown1 hg1
  have hb1 : Below w.heap.size w w1 := (Below.refl _ _).grown hg1 (Nat.le_refl _) (fun k e => by cases e)
  have HO1 := Lib.hid hown1
  have HN := Lib.hid hn
  clear hg1 hown1 hn
  go_wp2_with (at_builtin; go_must (refine wpList_append_fits_any _ rfl _ _ 23 rfl w.heap.size 5 i0 1 Try.underlying23 hi hz1 w.heap.size 0 (n + 3) [] rfl HO1.out A n c (bys l) rfl (by rw [bys_length, HN.out]; omega) hA (fun ad e => by subst e; exact (h.kept hb1).addr) (bys_one l) (by omega) ?_))
  intro w2 hown2 hg2
  have hb2 : Below w.heap.size w w2 := hb1.grown hg2 hb1.size (fun k e => by cases e; exact Nat.le_refl _)
  clear hg2 hb1 HO1
  obtain ⟨L, hl3, hown3, htk⟩ : ∃ L : List Value, L.length = n + 3 ∧ w2.ownsRow w.heap.size 5 1 (.slice (some ⟨w.heap.size, 0, none⟩) (n + 3) (n + 3)) (n + 3) L ∧ L.take n = bys l := by
    rcases hown2.2 with ⟨h', _⟩ | ⟨g', cap', cur, h', hb', hh, hnc, hcm, hcs, htake⟩
    · simp at h'
    · simp only [Value.slice.injEq, Option.some.injEq, Addr.mk.injEq, and_true, true_and] at h'
      obtain ⟨rfl, rfl⟩ := h'
      refine ⟨cur.toList, by simpa using hcs, ⟨by simpa using hcs, .inr ⟨_, _, cur, rfl, hb', hh, Nat.le_refl _, hcm, hcs, by rw [List.take_of_length_le (by simp; omega)]⟩⟩, by simpa using htake⟩
  have HO3 := Lib.hid hown3
  have HL := Lib.hid hl3
  have HT := Lib.hid htk
  clear hown2 hown3 hl3 htk
  go_wp2_with fail
  go_loopw [7] (fun i wr => ∃ (j : Nat) (M : List Value), n ≤ j ∧ j ≤ n + 3 ∧ i = .int .i64 j ∧ Hid (M.length = n + 3) ∧ wr.ownsRow w.heap.size 5 1 (.slice (some ⟨w.heap.size, 0, none⟩) (n + 3) (n + 3)) (n + 3) M ∧ Hid (M.take n = bys l) ∧ Hid (∀ k, n ≤ k → k < j → M[k]? = some (.int .u8 x)) ∧ Below w.heap.size w wr) (fun i _ => n + 3 - (intOf i).toNat)
  case atStart => exact ⟨n, L, Nat.le_refl _, by omega, rfl, HL, HO3.out, HT, fun k h1 h2 => by omega, hb2⟩
  case round =>
    obtain ⟨j, M, hj0, hj, rfl, hM, hown, hT, hF, hbw⟩ := hrel
    have HO := Lib.hid hown
    by_cases hlt : j < n + 3
    · have hml := hM.out
      have hcell : wr.cell? ⟨w.heap.size, j, none⟩ = some M[j] := by rw [hown.cellAt j (by omega)]; exact List.getElem?_eq_getElem (by omega)
      have hfree := hown.frozenAt j
      obtain ⟨u, hu⟩ : ∃ u, u = M[j] := ⟨_, rfl⟩
      rw [← hu] at hcell
      clear hown hu hml
      have hs := fits_step hM.out hT.out hF.out hlt hj0
      have HS := Lib.hid hs
      clear hs
      have b1 : (0 : Int) ≤ (j : Int) ∧ (j : Int) < (n : Int) + 3 := by omega
      go_wp2
      go_roundw
      case rel => exact ⟨j + 1, M.set j (.int .u8 x), by omega, by omega, by go_num, HS.out.1, (HO.out.stored j (.int .u8 x)).1, HS.out.2.1, HS.out.2.2, hbw.setCell (p := ⟨w.heap.size, j, none⟩) (Nat.le_refl _) _⟩
      case measure => simp [intOf]; omega
    · obtain rfl : j = n + 3 := by omega
      clear hown
      go_wp2
      go_ret
      refine ⟨_, rfl, Nat.le_refl _, ?_, hbw⟩
      rcases HO.out.2 with ⟨h', _⟩ | ⟨g', cap', cur, h', hb', hh, hnc, hcm, hcs, htake⟩
      · simp at h'
      · simp only [Value.slice.injEq, Option.some.injEq, Addr.mk.injEq, and_true, true_and] at h'
        obtain ⟨rfl, rfl⟩ := h'
        rw [List.take_of_length_le (by simp; omega)] at htake
        rw [hh]
        show some (Obj.cells cur _ _) = some (Obj.cells (bys l ++ [Value.int .u8 x, Value.int .u8 x, Value.int .u8 x]).toArray _ _)
        rw [← fits_end hM.out hT.out hF.out, ← htake]

theorem plain1_any (x y : Int) (w : World) : Calls Try.prog 47 #[.int .u8 x, .int .u8 y] w fun e w' => e = .returned (.bool (x == y)) ∧ w = w' := by
  go_enter Try.func47, Try.ntmps47
  go_wp2
  go_ret
  exact ⟨rfl, rfl⟩

/-- The first k are alike. -/
def Alike (l k : List Int) (j : Nat) : Prop := l.take j = k.take j
theorem alike_step {l k : List Int} {j : Nat} (h : Alike l k j) (hl : j < l.length) (hk : j < k.length) (he : l[j] = k[j]) : Alike l k (j + 1) := by
  unfold Alike at *
  rw [List.take_succ_eq_append_getElem hl, List.take_succ_eq_append_getElem hk, h, he]

set_option maxHeartbeats 1000000 in
theorem same_any (A : Option Addr) (n c : Nat) (l : List Int) (B : Option Addr) (m d : Nat) (k : List Int) (w : World) (hn : l.length = n) (hm : k.length = m) (h : Rd w A (bys l)) (h' : Rd w B (bys k)) (hnb : n ≤ 4611686018427387904) (hmb : m ≤ 4611686018427387904) :
    Calls Try.prog 46 #[.slice A n c, .slice B m d, .func (.func 47) #[] #[]] w fun e w' => e = .returned (.bool (decide (l = k))) ∧ Below w.heap.size w w' := by
  by_cases hnm : n = m
  · subst hn
    have HM := Lib.hid hm
    have q1 : ((l.length : Int) != (m : Int)) = false := by rw [bne_eq_false_iff_eq]; omega
    have HNM := Lib.hid hnm
    clear hnm hm
    go_enter Try.func46, Try.ntmps46
    go_wp2_with fail
    go_loopw [7] (fun i wr => ∃ j : Nat, j ≤ l.length ∧ i = .int .i64 j ∧ Alike l k j ∧ Below w.heap.size w wr) (fun i _ => l.length - (intOf i).toNat)
    case atStart => exact ⟨0, by omega, rfl, by simp [Alike], Below.refl _ _⟩
    case round =>
      obtain ⟨j, hj, rfl, hz, hb⟩ := hrel
      by_cases hlt : j < l.length
      · have hltk : j < k.length := by have := HM.out; have := HNM.out; omega
        obtain ⟨b, o, hA, hc⟩ := (h.kept hb).at_ (j := j) (by rw [bys_length]; exact hlt)
        obtain ⟨b', o', hB, hc'⟩ := (h'.kept hb).at_ (j := j) (by rw [bys_length]; exact hltk)
        subst hA; subst hB
        simp only [bys, List.getElem_map] at hc hc'
        have hjm : j < m := by have := HM.out; omega
        have b1 : (0 : Int) ≤ (j : Int) ∧ (j : Int) < (l.length : Int) := by omega
        have b2 : (j : Int) < (m : Int) := by omega
        by_cases he : l[j] = k[j]
        · have hz2 := Lib.hid (alike_step hz hlt hltk he)
          have e0 : (l[j] == k[j]) = true := by simpa using he
          generalize l[j] = x at hc e0 he
          generalize k[j] = y at hc' e0 he
          clear he
          go_wp2_with fail
          go_quiet ((go_at_call 47; exact qsame (plain1_any _ _ _)))
          go_wp2
          go_roundw
          case rel => exact ⟨j + 1, by omega, by go_num, hz2.out, hb.trans (below_drewN _ _)⟩
          case measure => simp [intOf]; omega
        · have hfin : decide (l = k) = false := by rw [decide_eq_false_iff_not]; rintro rfl; exact he rfl
          have HF := Lib.hid hfin
          have e0 : (l[j] == k[j]) = false := by simpa using he
          generalize l[j] = x at hc e0 he
          generalize k[j] = y at hc' e0 he
          clear he hfin
          go_wp2_with fail
          go_quiet ((go_at_call 47; exact qsame (plain1_any _ _ _)))
          go_wp2
          go_ret
          exact ⟨by rw [HF.out]; rfl, hb.trans (below_drewN _ _)⟩
      · obtain rfl : j = l.length := by omega
        have hfin : decide (l = k) = true := by
          rw [decide_eq_true_iff]; unfold Alike at hz; rwa [List.take_length, List.take_of_length_le (by have := HM.out; have := HNM.out; omega)] at hz
        have HF := Lib.hid hfin
        clear hfin hz
        go_wp2
        go_ret
        exact ⟨by rw [HF.out]; rfl, hb⟩
  · have hfin : decide (l = k) = false := by rw [decide_eq_false_iff_not]; rintro rfl; omega
    have HF := Lib.hid hfin
    have q1 : ((n : Int) != (m : Int)) = true := by rw [bne_iff_ne]; omega
    clear hfin hnm hn hm
    go_enter Try.func46, Try.ntmps46
    go_wp2
    go_ret
    exact ⟨by rw [HF.out]; rfl, Below.refl _ _⟩

theorem plain_any (A : Option Addr) (n c : Nat) (l : List Int) (B : Option Addr) (m d : Nat) (k : List Int) (w : World) (hn : l.length = n) (hm : k.length = m) (h : Rd w A (bys l)) (h' : Rd w B (bys k)) (hnb : n ≤ 4611686018427387904) (hmb : m ≤ 4611686018427387904) :
    Calls Try.prog 30 #[.slice A n c, .slice B m d] w fun e w' => e = .returned (.bool (decide (l = k))) ∧ Below w.heap.size w w' := by
  have C1 := Lib.hid (same_any A n c l B m d k w hn hm h h' hnb hmb)
  clear h h' hn hm
  go_enter Try.func30, Try.ntmps30
  go_wp2_with fail
  refine C1.out.mono ?_
  rintro e w1 ⟨rfl, hb⟩
  go_wp2
  go_ret
  exact ⟨rfl, hb⟩

set_option maxHeartbeats 1000000 in
theorem kept_any (g : Nat) (n : Nat) (l : List Int) (x : Int) (B : Option Addr) (d : Nat) (w : World) (hn : l.length = n) (hg : w.heap[g]? = some (.cells (ownCells l x).toArray 5 (0, 0))) (h' : Rd w B (bys l)) (hnb : n ≤ 140737488355320) :
    Calls Try.prog 17 #[.slice (some ⟨g, 0, none⟩) n (n + 3), .slice B n d, .int .u8 x] w fun e w' => e = .returned (.bool true) ∧ Below w.heap.size w w' := by
  have hlt := lt_of_block hg
  have hR : Rd w (some ⟨g, 0, none⟩) (bys l) := by
    have := (rd_block hg).take n
    rwa [ownCells, List.take_append_of_le_length (by rw [bys_length]; omega), List.take_of_length_le (by rw [bys_length]; omega)] at this
  have C1 := Lib.hid (plain_any (some ⟨g, 0, none⟩) n (n + 3) l B n d l w hn hn hR h' (by omega) (by omega))
  have HG := Lib.hid hg
  have HN := Lib.hid hn
  clear hR h' hn hg
  go_enter Try.func17, Try.ntmps17
  go_wp2_with fail
  refine C1.out.mono ?_
  rintro e w1 ⟨rfl, hb⟩
  rw [show decide True = true from rfl]
  have HG1 := Lib.hid ((hb.block g hlt).trans HG.out)
  go_wp2_with fail
  go_loop [8] (fun i => ∃ j : Nat, n ≤ j ∧ j ≤ n + 3 ∧ i = .int .i64 j) (fun i => n + 3 - (intOf i).toNat)
  case atStart => exact ⟨n, Nat.le_refl _, by omega, rfl⟩
  case round =>
    obtain ⟨j, hj0, hj, rfl⟩ := hrel
    by_cases hlt3 : j < n + 3
    · have hcell : w1.cell? ⟨g, j, none⟩ = some (.int .u8 x) := by
        rw [block_cell HG1.out, ownCells, List.getElem?_append_right (by rw [bys_length, HN.out]; exact hj0), bys_length, HN.out]
        have : j - n = 0 ∨ j - n = 1 ∨ j - n = 2 := by omega
        rcases this with e | e | e <;> rw [e] <;> rfl
      have b1 : (0 : Int) ≤ (j : Int) ∧ (j : Int) < (n : Int) + 3 := by omega
      have e0 : (x != x) = false := by simp
      go_wp2
      go_round
      case rel => exact ⟨j + 1, by omega, by omega, by go_num⟩
      case measure => simp [intOf]; omega
    · obtain rfl : j = n + 3 := by omega
      go_wp2
      go_ret
      exact ⟨rfl, hb⟩

set_option maxHeartbeats 1000000 in
theorem spoil_any (A : Option Addr) (n c : Nat) (l : List Int) (w : World) (hn : l.length = n) (h : Rd w A (bys l)) (hf : ∀ b o, A = some ⟨b, o, none⟩ → ∀ j, w.frozen? ⟨b, j, none⟩ = false) (hnb : n ≤ 4611686018427387904) :
    Calls Try.prog 16 #[.slice A n c] w fun e w' => e = .returned (.tuple #[]) ∧ Chg (fun k => ∃ a, A = some a ∧ a.block = k) w w' := by
  subst hn
  go_enter Try.func16, Try.ntmps16
  go_wp2_with fail
  go_loopw [2] (fun i wr => ∃ (j : Nat) (l' : List Int), l'.length = l.length ∧ j ≤ l.length ∧ i = .int .i64 j ∧ Rd wr A (bys l') ∧ (∀ b o, A = some ⟨b, o, none⟩ → ∀ j, wr.frozen? ⟨b, j, none⟩ = false) ∧ Chg (fun k => ∃ a, A = some a ∧ a.block = k) w wr) (fun i _ => l.length - (intOf i).toNat)
  case atStart => exact ⟨0, l, rfl, by omega, rfl, h, hf, Chg.refl _ _⟩
  case round =>
    obtain ⟨j, l', hl', hj, rfl, hr, hfr, hch⟩ := hrel
    by_cases hlt : j < l.length
    · obtain ⟨b, o, hA, hc⟩ := hr.at_ (j := j) (by rw [bys_length, hl']; exact hlt)
      subst hA
      simp only [bys, List.getElem_map] at hc
      have hfz := hfr b o rfl (o + j)
      have HL := Lib.hid hl'
      generalize l'[j] = x at hc
      have b1 : (0 : Int) ≤ (j : Int) ∧ (j : Int) < (l.length : Int) := by omega
      have HR := Lib.hid hr
      clear hl' hr
      go_wp2
      go_roundw
      case rel => exact ⟨j + 1, l'.set j (bits .xor .u8 x 85), by rw [List.length_set]; exact HL.out, by omega, by go_num, by rw [show bys (l'.set j (bits .xor .u8 x 85)) = (bys l').set j (.int .u8 (bits .xor .u8 x 85)) by simp [bys]]; exact HR.out.setCell j _, fun b' o' e j' => by rw [World.frozen?_setCell]; exact hfr b' o' e j', hch.setCell (p := ⟨b, o + j, none⟩) (fun _ => ⟨_, rfl, rfl⟩) _⟩
      case measure => simp [intOf]; omega
    · obtain rfl : j = l.length := by omega
      go_wp2
      go_end0
      exact ⟨rfl, hch⟩
end Go.Proofs.Ytdgciajdnmgcnaa
