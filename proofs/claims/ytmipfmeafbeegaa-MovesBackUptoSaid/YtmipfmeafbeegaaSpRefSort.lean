/- Contract: dunnageref22.Sort. -/
import Derived.Test.YtmipfmeafbeegaaSpCom
namespace Go.Proofs.Ytmipfmeafbeegaa
open Go.RowKit
set_option linter.unusedVariables false

section
variable {τ : Type} {less : τ → τ → Bool}
/-- Behind all that it is not below, ahead of all that it is below. -/
theorem insV_mid (x : τ) : ∀ (L R : List τ), (∀ y ∈ L, less x y = false) → (∀ y, R.head? = some y → less x y = true) → insV less x (L ++ R) = L ++ x :: R
  | [], R, _, h2 => by
    cases R with
    | nil => rfl
    | cons y ys => simp [insV, h2 y rfl]
  | y :: L, R, h1, h2 => by
    have e := h1 y (by simp)
    simp only [List.cons_append, insV, e]
    rw [insV_mid x L R (fun z hz => h1 z (by simp [hz])) h2]
    simp
theorem insV_at (hs : Swo less) (d x : τ) (S : List τ) (hr : Ran less S) (a : Nat) (ha : a ≤ S.length) (h1 : ∀ y ∈ S.drop a, less x y = true) (h2 : ∀ b, a = b + 1 → less x (S.getD b d) = false) : insV less x S = S.take a ++ x :: S.drop a := by
  have e : S = S.take a ++ S.drop a := (List.take_append_drop a S).symm
  conv => lhs; rw [e]
  apply insV_mid
  · intro y hy
    cases a with
    | zero => simp at hy
    | succ b =>
      have hb := h2 b rfl
      obtain ⟨i, hi, rfl⟩ := List.mem_iff_getElem.1 hy
      rw [List.getElem_take]
      simp only [List.length_take] at hi
      have hbl : b < S.length := by omega
      have hgb : S.getD b d = S[b] := by rw [List.getD_eq_getElem?_getD, List.getElem?_eq_getElem hbl]; rfl
      rw [hgb] at hb
      by_cases hib : i = b
      · subst hib; exact hb
      · have hp := (List.pairwise_iff_getElem.1 hr) i b (by omega) hbl (by omega)
        exact hs.trans _ _ _ hp hb
  · intro y hy
    exact h1 y (List.mem_of_mem_head? hy)
end
def cutA (A : Option Addr) (lo c k : Nat) : Option Addr := if c = lo then A else A.map (·.add (lo * k))
theorem run_from_k {P : Program} {t e : TypeId} {k : Nat} (kh : IntKind) (ht : P.underlying t = some (.slice e)) (hsz : (P.info? e).map (·.size) = some k) (A : Option Addr) (n c lo : Nat) (h : Int) (hh : h = lo) (h2 : lo ≤ n) :
    ∀ W : World, (Instr.slice t (.slice A n c) (some (.int kh h)) none none).run P W = .ok (.slice (cutA A lo c k) (n - lo) (c - lo)) W := by
  intro W
  subst hh
  have hel : P.elem t = e := by simp [Program.elem, ht]
  have hu : P.underlying t = some (.slice (P.elem t)) := by rw [hel]; exact ht
  cases hi' : P.info? e with
  | none => rw [hi'] at hsz; simp at hsz
  | some i =>
    rw [hi'] at hsz
    simp at hsz
    rw [run_slice_l W t A n c hu kh (lo : Int) (by omega) (by omega), hel]
    simp [sizeOf, typeInfo, hi', sliced, Result.andThen, cutA, hsz]
theorem cutA_none {A : Option Addr} {lo c k : Nat} (h : cutA A lo c k = none) : A = none := by
  unfold cutA at h
  split at h
  · exact h
  · simpa using h
theorem rd_cut {w : World} {A : Option Addr} {xs : List Value} {n c lo k : Nat} (h : Rd w A xs) (hl : xs.length = n * k) (hlo : lo ≤ n) (hnc : n ≤ c) : Rd w (cutA A lo c k) (xs.drop (lo * k)) := by
  unfold cutA
  split
  · rename_i e
    have : lo = n := by omega
    subst this
    rw [List.drop_of_length_le (by omega)]
    exact Rd.nil _ _
  · intro j u hj
    rw [List.getElem?_drop] at hj
    obtain ⟨b, o, hA, hc⟩ := h _ _ hj
    subst hA
    exact ⟨b, o + lo * k, by simp [Addr.add], by rw [show o + lo * k + j = o + (lo * k + j) by omega]; exact hc⟩
theorem own_none {w : World} {base e size n c : Nat} {xs : List Value} (h : w.ownsRow base e size (.slice none n c) n xs) : n = 0 ∧ c = 0 := by
  rcases h.2 with ⟨h1, _⟩ | ⟨g, cap, cur, h1, _⟩
  · simp at h1; exact h1
  · simp at h1
theorem infoE' : (Try.prog.info? 26).map (fun i => (i.zero, i.size, i.bytes)) = some (some (.agg #[.int .u64 0, .int .i64 0, .int .i64 0]), 3, 24) := by kernel_rfl
theorem extRows_one' (xs : List Ext) : ∀ u ∈ (xs.map rowExt).flatten, u.oneCell' = true := by
  intro u hu
  obtain ⟨r, hr, hu⟩ := List.mem_flatten.1 hu
  obtain ⟨y, _, rfl⟩ := List.mem_map.1 hr
  exact rowExt_one y u hu
theorem extRows_len' (xs : List Ext) : ((xs.map rowExt).flatten).length = xs.length * 3 := by
  rw [flat_len 3 _ (extRow_len xs)]; simp
theorem extRows_take' (S : List Ext) (a : Nat) (ha : a ≤ S.length) : ((S.map rowExt).flatten).take (a * 3) = ((S.take a).map rowExt).flatten := by
  conv => lhs; rw [← List.take_append_drop a S, List.map_append, List.flatten_append]
  rw [List.take_append_of_le_length (by rw [extRows_len', List.length_take]; omega), List.take_of_length_le (by rw [extRows_len', List.length_take]; omega)]
theorem extRows_drop (S : List Ext) (a : Nat) (ha : a ≤ S.length) : ((S.map rowExt).flatten).drop (a * 3) = ((S.drop a).map rowExt).flatten := by
  conv => lhs; rw [← List.take_append_drop a S, List.map_append, List.flatten_append]
  have e : (List.map rowExt (List.take a S)).flatten.length = a * 3 := by rw [extRows_len', List.length_take]; omega
  rw [← e, List.drop_left]
theorem extRows_mid (S : List Ext) (a : Nat) (x : Ext) : (((S.take a).map rowExt).flatten ++ rowExt x) ++ ((S.drop a).map rowExt).flatten = ((S.take a ++ x :: S.drop a).map rowExt).flatten := by simp
set_option maxRecDepth 100000 in
set_option maxHeartbeats 4000000 in
theorem refsort_any (A : Option Addr) (n c : Nat) (xs : List Ext) (w : World) (hn : xs.length = n) (h : Rd w A ((xs.map rowExt).flatten)) (hcap : n ≤ 5864062014700) :
    Calls Try.prog 29 #[.slice A n c] w (SortedAtExt w.heap.size n (sortV lessE xs) w) := by
  have HR := Lib.hid h
  have HN := Lib.hid hn
  clear h hn
  go_enter Try.func29, Try.ntmps29
  go_wp2_with fail
  go_loopw [3, 4] (fun v i wr => ∃ k : Nat, k ≤ n ∧ i = .int .i64 k ∧ Hid (wr.ownsRow w.heap.size 26 3 v k (((sortV lessE (xs.take k)).map rowExt).flatten)) ∧ Below w.heap.size w wr) (fun _ i _ => n - (intOf i).toNat)
  case atStart => exact ⟨0, by omega, rfl, Lib.hid (World.ownsRow_nil _ _ _ _), Below.refl _ _⟩
  case round =>
    obtain ⟨wo, hwo⟩ : ∃ wo : World, wo = wr := ⟨_, rfl⟩
    subst hwo
    obtain ⟨k, hk, rfl, hO, hB⟩ := hrel
    by_cases hlt : k < n
    · have hkx : k < xs.length := by have := HN.out; omega
      obtain ⟨A', c', rfl, hkc, hcm, hrd, hrl⟩ := own_rd hO.out
      obtain ⟨b, o, rfl, hrow⟩ := (HR.out.kept hB).at_row (k := 3) (extRow_len xs) (by decide) (i := k) (r := rowExt xs[k]) (by simp [List.getElem?_eq_getElem hkx])
      have hbl : b < wo.heap.size := World.block_lt_of_cell? wo ⟨b, o + k * 3 + 0, none⟩ (hrow 0 _ rfl)
      have HS : Hid (sortV lessE (xs.take (k + 1)) = insV lessE xs[k] (sortV lessE (xs.take k))) := Lib.hid (by
        rw [List.take_add_one, List.getElem?_eq_getElem hkx]; exact sortV_snoc _ _)
      have HSL : Hid ((sortV lessE (xs.take k)).length = k) := Lib.hid (by rw [sortV_len]; simp; omega)
      have HSR := Lib.hid (sortV_ran swoE (xs.take k))
      generalize sortV lessE (xs.take k) = S at *
      generalize xs[k] = x at *
      have HRD := Lib.hid hrd
      have HROW := Lib.hid hrow
      have HB := Lib.hid hB
      clear hrd hrl hrow hB hkx
      go_wp2_with fail
      go_loopw [5] (fun i wr => ∃ a : Nat, a ≤ k ∧ i = .int .i64 a ∧ Hid (∀ y ∈ S.drop a, lessE x y = true) ∧ Below wo.heap.size wo wr) (fun i _ => (intOf i).toNat)
      case atStart => exact ⟨k, Nat.le_refl _, rfl, Lib.hid (by rw [List.drop_of_length_le (by rw [HSL.out]; exact Nat.le_refl _)]; simp), Below.refl _ _⟩
      case round =>
        obtain ⟨a, ha, rfl, hD, hB2⟩ := hrel
        rcases Nat.eq_zero_or_pos a with h0 | hpos
        · have hMid : Hid (insV lessE x S = S.take a ++ x :: S.drop a) := Lib.hid (insV_at swoE zeroExt.1 x S HSR.out a (by omega) hD.out (fun b hb => by omega))
          subst h0
          clear hD
          have HBW0 := Lib.hid hB2
          clear hB2
          go_wp2_with fail
          go_quiet (fail)
          obtain ⟨W0, hW0⟩ : ∃ W0 : World, W0 = wr.drewN nq := ⟨_, rfl⟩
          have HBW : Hid (Below wo.heap.size wo W0) := by rw [hW0]; exact Lib.hid (HBW0.out.trans (below_drewN _ _))
          rw [← hW0]
          clear hW0 HBW0
          generalize hz : ((0 : Nat) : Int) = z
          obtain ⟨a1, ha1⟩ : ∃ a1 : Nat, a1 = 0 := ⟨0, rfl⟩
          have ez : z = (a1 : Int) := by omega
          rw [ez]
          rw [← ha1] at hMid ha
          clear ez hz ha1
          have hal : a1 ≤ S.length := by rw [HSL.out]; omega
          have HA0 : Hid (A' = none → a1 = 0 ∧ c' = 0) := Lib.hid (fun e => by subst e; obtain ⟨e1, e2⟩ := own_none hO.out; exact ⟨by omega, e2⟩)
          have HC0 : Hid (cutA A' a1 c' 3 = none → k - a1 = 0 ∧ c' - a1 = 0) := Lib.hid (fun e => by have e' := cutA_none e; subst e'; obtain ⟨e1, e2⟩ := own_none hO.out; exact ⟨by omega, by omega⟩)
          have HT1 := Lib.hid (extRows_take' S a1 hal)
          have HT2 := Lib.hid (extRows_drop S a1 hal)
          have HL1 : Hid (((S.take a1).map rowExt).flatten.length = a1 * 3) := Lib.hid (by rw [extRows_len', List.length_take]; omega)
          have HL2 : Hid (((S.drop a1).map rowExt).flatten.length = (k - a1) * 3) := Lib.hid (by rw [extRows_len', List.length_drop, HSL.out])
          have HMID := Lib.hid (extRows_mid S a1 x)
          have HE1 := Lib.hid (extRows_one' (S.take a1))
          have HE2 := Lib.hid (extRows_one' (S.drop a1))
          generalize ((S.take a1).map rowExt).flatten = F1 at *
          generalize ((S.drop a1).map rowExt).flatten = F2 at *
          have cut1 := run_cut_k (P := Try.prog) .i64 Try.underlying22 (e := 26) (by kernel_rfl) A' k c' a1 (a1 : Int) rfl (by omega)
          have cut2 := run_from_k (P := Try.prog) (k := 3) .i64 Try.underlying22 (e := 26) (by kernel_rfl) A' k c' a1 (a1 : Int) rfl (by omega)
          have b1 : (0 : Int) ≤ (k : Int) ∧ (k : Int) < (n : Int) := by omega
          clear hal
          go_wp2_with (at_builtin; go_must (refine wpList_append_rd rfl _ _ 22 rfl W0.heap.size 26 (.agg #[.int .u64 0, .int .i64 0, .int .i64 0]) 3 24 Try.underlying22 infoE' rfl (by decide) (.slice none 0 0) 0 [] rfl (World.ownsRow_nil _ _ _ _) A' a1 c' F1 rfl HA0.out HL1.out (by have := ((HRD.out.kept HBW.out).take (a1 * 3)); rwa [HT1.out] at this) HE1.out (by unfold maxLen; omega) (by omega) (Nat.le_refl _) ?_))
          intro v9 w9 hown9 hg9
          have hB9 : Below W0.heap.size W0 w9 := (Below.refl _ _).grown hg9 (Nat.le_refl _) (fun j hj => by simp [Value.ownBlock] at hj)
          have HW9 := Lib.hid (HBW.out.trans (hB9.mono HBW.out.size))
          have hrow9 := rangeAt_kept HROW.out HW9.out hbl
          have e0 := hrow9 0 _ rfl
          have e1 := hrow9 1 _ rfl
          have e2 := hrow9 2 _ rfl
          simp only [Nat.add_zero] at e0
          have HO9 := Lib.hid hown9
          have HB9 := Lib.hid hB9
          have hz9 := hB9.size
          clear hown9 hg9 hrow9 hB9
          go_wp2_with (at_builtin; go_must (refine wpList_append_rd rfl _ _ 22 rfl W0.heap.size 26 (.agg #[.int .u64 0, .int .i64 0, .int .i64 0]) 3 24 Try.underlying22 infoE' rfl (by decide) _ a1 _ rfl (HO9.out.alloc _) _ 1 1 (rowExt x) rfl (by simp) (by rfl) (rd_new _ _ _) (rowExt_one x) (by unfold maxLen; omega) (by omega) (by simp; omega) ?_))
          intro v10 w10 hown10 hg10
          have hB10 : Below W0.heap.size W0 w10 := (HB9.out.alloc hz9 _).grown hg10 (by simp; omega) (fun j hj => (HO9.out.lt j hj).1)
          have HW10 := Lib.hid (HBW.out.trans (hB10.mono HBW.out.size))
          have HO10 := Lib.hid hown10
          have HB10 := Lib.hid hB10
          have hz10 := hB10.size
          clear hown10 hg10 hB10 e0 e1 e2
          go_wp2_with (at_builtin; go_must (refine wpList_append_rd rfl _ _ 22 rfl W0.heap.size 26 (.agg #[.int .u64 0, .int .i64 0, .int .i64 0]) 3 24 Try.underlying22 infoE' rfl (by decide) _ (a1 + 1) _ rfl HO10.out (cutA A' a1 c' 3) (k - a1) (c' - a1) F2 rfl HC0.out HL2.out (by have := rd_cut (n := k) (c := c') (lo := a1) (k := 3) (HRD.out.kept HW10.out) (by rw [extRows_len', HSL.out]) (by omega) (by omega); rwa [HT2.out] at this) HE2.out (by unfold maxLen; omega) (by omega) hz10 ?_))
          intro v11 w11 hown11 hg11
          have hB11 : Below W0.heap.size W0 w11 := HB10.out.grown hg11 hz10 (fun j hj => (HO10.out.lt j hj).1)
          rw [show a1 + 1 + (k - a1) = k + 1 by omega, ← List.append_assoc, HMID.out, ← hMid.out, ← HS.out] at hown11
          have HO11 := Lib.hid (own_mono hown11 (Nat.le_trans HB.out.size HBW.out.size))
          have HB11 := Lib.hid (HB.out.trans ((HBW.out.trans (hB11.mono HBW.out.size)).mono HB.out.size))
          clear hown11 hg11 hB11
          go_wp2
          go_roundw
          case rel => exact ⟨k + 1, by omega, by go_num, HO11, HB11.out⟩
          case measure => simp [intOf]; omega
        · obtain ⟨a, rfl⟩ : ∃ a' : Nat, a = a' + 1 := ⟨a - 1, by omega⟩
          clear hpos
          have haS : a < S.length := by have := HSL.out; omega
          obtain ⟨b', o', rfl, hrow'⟩ := (HRD.out.kept hB2).at_row (k := 3) (extRow_len S) (by decide) (i := a) (r := rowExt S[a]) (by simp [List.getElem?_eq_getElem haS])
          have hrow := rangeAt_kept HROW.out hB2 hbl
          have hdrop : S.drop a = S[a] :: S.drop (a + 1) := List.drop_eq_getElem_cons haS
          have hgetD : S.getD a zeroExt.1 = S[a] := by rw [List.getD_eq_getElem?_getD, List.getElem?_eq_getElem haS]; rfl
          cases hl : lessE x S[a] with
          | true =>
            have HLL := Lib.hid hl
            have HD2 : Hid (∀ y ∈ S.drop a, lessE x y = true) := Lib.hid (by
              rw [hdrop]; intro y hy
              rcases List.mem_cons.1 hy with rfl | hy
              · exact hl
              · exact hD.out y hy)
            clear hl hdrop hgetD hD
            generalize S[a] = y at *
            clear haS
            have c0 := hrow 0 _ rfl
            have c1 := hrow 1 _ rfl
            have d0 := hrow' 0 _ rfl
            have d1 := hrow' 1 _ rfl
            simp only [Nat.add_zero] at c0 d0
            have b1 : (0 : Int) ≤ (k : Int) ∧ (k : Int) < (n : Int) := by omega
            have b2 : (0 : Int) ≤ (a : Int) ∧ (a : Int) < (k : Int) := by omega
            have b3 : (0 : Int) < (a : Int) + 1 := by omega
            have hwa : IntKind.i64.wrap (a : Int) = (a : Int) := by rw [IntKind.wrap_i64]; omega
            have HB2 := Lib.hid hB2
            clear hrow hrow' hB2
            go_wp2_with fail
            have hless : x.2.1 < y.2.1 := by have := HLL.out; simpa [lessE] using this
            go_quiet (fail)
            have HB3 : Hid (Below wo.heap.size wo (wr.drewN nq)) := Lib.hid (HB2.out.trans (below_drewN _ _))
            clear c0 c1 d0 d1
            go_wp2
            go_roundw
            case rel => exact ⟨a, by omega, by go_num, HD2, HB3.out⟩
            case measure => simp [intOf]
          | false =>
            have HLL := Lib.hid hl
            have hMid : Hid (insV lessE x S = S.take (a + 1) ++ x :: S.drop (a + 1)) := Lib.hid (insV_at swoE zeroExt.1 x S HSR.out (a + 1) (by omega) hD.out (fun b hb => by obtain rfl : b = a := (by omega); rw [hgetD]; exact hl))
            clear hl hdrop hgetD hD
            generalize S[a] = y at *
            clear haS
            have c0 := hrow 0 _ rfl
            have c1 := hrow 1 _ rfl
            have d0 := hrow' 0 _ rfl
            have d1 := hrow' 1 _ rfl
            simp only [Nat.add_zero] at c0 d0
            have b1 : (0 : Int) ≤ (k : Int) ∧ (k : Int) < (n : Int) := by omega
            have b2 : (0 : Int) ≤ (a : Int) ∧ (a : Int) < (k : Int) := by omega
            have b3 : (0 : Int) < (a : Int) + 1 := by omega
            have hwa : IntKind.i64.wrap (a : Int) = (a : Int) := by rw [IntKind.wrap_i64]; omega
            have HB2 := Lib.hid hB2
            clear hrow hrow' hB2
            go_wp2_with fail
            have hless : ¬ x.2.1 < y.2.1 := by have := HLL.out; simpa [lessE] using this
            go_quiet (fail)
            obtain ⟨w2, hw2⟩ : ∃ w2 : World, w2 = wr.drewN nq := ⟨_, rfl⟩
            have HBW : Hid (Below wo.heap.size wo w2) := by rw [hw2]; exact Lib.hid (HB2.out.trans (below_drewN _ _))
            rw [← hw2]
            clear hw2
            clear c0 c1 d0 d1 hwa b1 hless
            obtain ⟨A', hA'⟩ : ∃ A', A' = some (⟨b', o', none⟩ : Addr) := ⟨_, rfl⟩
            rw [← hA'] at hO HRD ⊢
            clear hA'
            obtain ⟨a1, ha1⟩ : ∃ a1 : Nat, a1 = a + 1 := ⟨_, rfl⟩
            have ec : ((a + 1 : Nat) : Int) = (a1 : Int) := by omega
            rw [ec]
            rw [← ha1] at hMid ha
            clear ec ha1 b2 b3
            have hal : a1 ≤ S.length := by rw [HSL.out]; omega
            have HA0 : Hid (A' = none → a1 = 0 ∧ c' = 0) := Lib.hid (fun e => by subst e; obtain ⟨e1, e2⟩ := own_none hO.out; exact ⟨by omega, e2⟩)
            have HC0 : Hid (cutA A' a1 c' 3 = none → k - a1 = 0 ∧ c' - a1 = 0) := Lib.hid (fun e => by have e' := cutA_none e; subst e'; obtain ⟨e1, e2⟩ := own_none hO.out; exact ⟨by omega, by omega⟩)
            have HT1 := Lib.hid (extRows_take' S a1 hal)
            have HT2 := Lib.hid (extRows_drop S a1 hal)
            have HL1 : Hid (((S.take a1).map rowExt).flatten.length = a1 * 3) := Lib.hid (by rw [extRows_len', List.length_take]; omega)
            have HL2 : Hid (((S.drop a1).map rowExt).flatten.length = (k - a1) * 3) := Lib.hid (by rw [extRows_len', List.length_drop, HSL.out])
            have HMID := Lib.hid (extRows_mid S a1 x)
            have HE1 := Lib.hid (extRows_one' (S.take a1))
            have HE2 := Lib.hid (extRows_one' (S.drop a1))
            generalize ((S.take a1).map rowExt).flatten = F1 at *
            generalize ((S.drop a1).map rowExt).flatten = F2 at *
            have cut1 := run_cut_k (P := Try.prog) .i64 Try.underlying22 (e := 26) (by kernel_rfl) A' k c' a1 (a1 : Int) rfl (by omega)
            have cut2 := run_from_k (P := Try.prog) (k := 3) .i64 Try.underlying22 (e := 26) (by kernel_rfl) A' k c' a1 (a1 : Int) rfl (by omega)
            have b1 : (0 : Int) ≤ (k : Int) ∧ (k : Int) < (n : Int) := by omega
            clear hal
            go_wp2_with (at_builtin; go_must (refine wpList_append_rd rfl _ _ 22 rfl w2.heap.size 26 (.agg #[.int .u64 0, .int .i64 0, .int .i64 0]) 3 24 Try.underlying22 infoE' rfl (by decide) (.slice none 0 0) 0 [] rfl (World.ownsRow_nil _ _ _ _) A' a1 c' F1 rfl HA0.out HL1.out (by have := ((HRD.out.kept HBW.out).take (a1 * 3)); rwa [HT1.out] at this) HE1.out (by unfold maxLen; omega) (by omega) (Nat.le_refl _) ?_))
            intro v9 w9 hown9 hg9
            have hB9 : Below w2.heap.size w2 w9 := (Below.refl _ _).grown hg9 (Nat.le_refl _) (fun j hj => by simp [Value.ownBlock] at hj)
            have HW9 := Lib.hid (HBW.out.trans (hB9.mono HBW.out.size))
            have hrow9 := rangeAt_kept HROW.out HW9.out hbl
            have e0 := hrow9 0 _ rfl
            have e1 := hrow9 1 _ rfl
            have e2 := hrow9 2 _ rfl
            simp only [Nat.add_zero] at e0
            have HO9 := Lib.hid hown9
            have HB9 := Lib.hid hB9
            have hz9 := hB9.size
            clear hown9 hg9 hrow9 hB9
            go_wp2_with (at_builtin; go_must (refine wpList_append_rd rfl _ _ 22 rfl w2.heap.size 26 (.agg #[.int .u64 0, .int .i64 0, .int .i64 0]) 3 24 Try.underlying22 infoE' rfl (by decide) _ a1 _ rfl (HO9.out.alloc _) _ 1 1 (rowExt x) rfl (by simp) (by rfl) (rd_new _ _ _) (rowExt_one x) (by unfold maxLen; omega) (by omega) (by simp; omega) ?_))
            intro v10 w10 hown10 hg10
            have hB10 : Below w2.heap.size w2 w10 := (HB9.out.alloc hz9 _).grown hg10 (by simp; omega) (fun j hj => (HO9.out.lt j hj).1)
            have HW10 := Lib.hid (HBW.out.trans (hB10.mono HBW.out.size))
            have HO10 := Lib.hid hown10
            have HB10 := Lib.hid hB10
            have hz10 := hB10.size
            clear hown10 hg10 hB10 e0 e1 e2
            go_wp2_with (at_builtin; go_must (refine wpList_append_rd rfl _ _ 22 rfl w2.heap.size 26 (.agg #[.int .u64 0, .int .i64 0, .int .i64 0]) 3 24 Try.underlying22 infoE' rfl (by decide) _ (a1 + 1) _ rfl HO10.out (cutA A' a1 c' 3) (k - a1) (c' - a1) F2 rfl HC0.out HL2.out (by have := rd_cut (n := k) (c := c') (lo := a1) (k := 3) (HRD.out.kept HW10.out) (by rw [extRows_len', HSL.out]) (by omega) (by omega); rwa [HT2.out] at this) HE2.out (by unfold maxLen; omega) (by omega) hz10 ?_))
            intro v11 w11 hown11 hg11
            have hB11 : Below w2.heap.size w2 w11 := HB10.out.grown hg11 hz10 (fun j hj => (HO10.out.lt j hj).1)
            rw [show a1 + 1 + (k - a1) = k + 1 by omega, ← List.append_assoc, HMID.out, ← hMid.out, ← HS.out] at hown11
            have HO11 := Lib.hid (own_mono hown11 (Nat.le_trans HB.out.size HBW.out.size))
            have HB11 := Lib.hid (HB.out.trans ((HBW.out.trans (hB11.mono HBW.out.size)).mono HB.out.size))
            clear hown11 hg11 hB11
            go_wp2
            go_roundw
            case rel => exact ⟨k + 1, by omega, by go_num, HO11, HB11.out⟩
            case measure => simp [intOf]; omega
    · obtain rfl : k = n := by omega
      go_wp2
      go_ret
      refine ⟨_, rfl, ?_, hB⟩
      have := hO.out
      rwa [List.take_of_length_le (by have := HN.out; omega)] at this
end Go.Proofs.Ytmipfmeafbeegaa
