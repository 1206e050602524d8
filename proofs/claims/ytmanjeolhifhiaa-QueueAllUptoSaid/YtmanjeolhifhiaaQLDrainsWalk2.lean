/- The walk of QueueDrains. -/
import Derived.Test.YtmanjeolhifhiaaQLDrained
import Derived.Test.YtmanjeolhifhiaaQLSortsWalk
namespace Go.Proofs.Ytmanjeolhifhiaa
open Go.RowKit
set_option linter.unusedVariables false

/-- Having pushed these. -/
def Pushed (base q : Nat) (xs : List Itm) (v : Value) (S : List (Itm × Nat)) (W : World) : Prop :=
  QIsItm base lessI 22 q v S xs.length W ∧ S.map (·.1) = sortV lessI xs
theorem Pushed.len {base q : Nat} {xs : List Itm} {v : Value} {S : List (Itm × Nat)} {W : World} (h : Pushed base q xs v S W) : S.length = xs.length := by
  have := congrArg List.length h.2
  simpa [sortV_len] using this
theorem pushed_next {xs : List Itm} {x : Itm} {S : List (Itm × Nat)} (h1 : S.map (·.1) = sortV lessI xs) (h2 : ∀ y ∈ S, y.2 < xs.length) : (insT lessI (x, xs.length) S).map (·.1) = sortV lessI (xs ++ [x]) := by
  rw [insT_fst (x, xs.length) S h2, h1, sortV_snoc]
theorem k_any (most : Int) (n : Nat) (hn : n ≤ 1000000000) : ∃ K : Nat, K ≤ n + 1 ∧ wrap64 ((IntKind.u64.wrap most).tmod ((n : Int) + 2)) = (K : Int) := by
  rw [IntKind.wrap_u64]
  have h0 : 0 ≤ most % 18446744073709551616 := Int.emod_nonneg _ (by decide)
  generalize most % 18446744073709551616 = z at *
  rw [Int.tmod_eq_emod_of_nonneg h0]
  have h1 := Int.emod_nonneg z (show (n : Int) + 2 ≠ 0 by omega)
  have h2 := Int.emod_lt_of_pos z (show (0 : Int) < (n : Int) + 2 by omega)
  generalize z % ((n : Int) + 2) = y at *
  refine ⟨y.toNat, by omega, ?_⟩
  unfold wrap64
  omega
set_option maxRecDepth 100000 in
set_option maxHeartbeats 4000000 in
theorem drains_all (A : Option Addr) (n c : Nat) (xs : List Itm) (most : Int) (w : World) (hn : xs.length = n) (hA : A = none → n = 0 ∧ c = 0) (h : Rd w A ((xs.map rowItm).flatten)) (hcap : n ≤ 1048576) (hmost : (Lit.int .i64 most).wf = true) :
    Calls Try.prog 5 #[.slice A n c, .int .i64 most] w fun e w' => e = .returned (.bool true) ∧ Below w.heap.size w w' := by
  have C1 := Lib.hid (fun w1 => qItm_new2 lessI 22 w1)
  have C2 := Lib.hid (fun w1 => awake08 w1)
  have C3 := Lib.hid (fun (w1 : World) (v : Value) (S : List (Itm × Nat)) (tn : Nat) (x : Itm) (h1 : QIsItm w.heap.size lessI 22 w.heap.size v S tn w1) (h2 : S.length + 1 ≤ 4000000000) (h3 : tn ≤ 4000000000) (h4 : w.heap.size ≤ w1.heap.size) => qItm_push2 w.heap.size lessI swoI _ ranksI w1 w.heap.size v S tn x h1 h2 h3 h4)
  have C4 := Lib.hid (fun (w1 : World) (hb : Below w.heap.size w w1) => refsorted_any A n c xs w1 hn (h.kept hb) (by omega))
  have HR := Lib.hid h
  have HN := Lib.hid hn
  have HM := Lib.hid hmost
  clear h hn hA hmost
  go_enter Try.func5, Try.ntmps5
  go_wp2_with fail
  refine (C1.out _).mono ?_
  rintro e w1 ⟨rfl, hq1, hb1⟩
  have hz1 := hb1.size
  have HQ1 := Lib.hid hq1
  have HB1 := Lib.hid hb1
  clear hq1 hb1
  go_wp2_with fail
  refine (C2.out _).mono ?_
  rintro e w2 ⟨rfl, hb2⟩
  have HQ2 := Lib.hid (HQ1.out.kept hb2)
  have HB2 := Lib.hid (HB1.out.trans (hb2.mono hz1))
  clear hb2
  go_wp2_with fail
  go_loopw [6] (fun i wr => ∃ (j : Nat) (v : Value) (S : List (Itm × Nat)), j ≤ n ∧ i = .int .i64 j ∧ Hid (Pushed w.heap.size w.heap.size (xs.take j) v S wr) ∧ Below w.heap.size w wr) (fun i _ => n - (intOf i).toNat)
  case atStart => exact ⟨0, _, [], by omega, rfl, Lib.hid ⟨HQ2.out, rfl⟩, HB2.out⟩
  case round =>
    obtain ⟨j, v, S, hj, rfl, hP, hB⟩ := hrel
    have hTL : (xs.take j).length = j := by have := HN.out; simp; omega
    have hSL : S.length = j := hP.out.len.trans hTL
    by_cases hlt : j < n
    · have hjx : j < xs.length := by have := HN.out; omega
      obtain ⟨b, o, rfl, hrow⟩ := (HR.out.kept hB).at_row (k := 2) (fun r hr => (isItm_all xs r hr).len) (by decide) (i := j) (r := rowItm xs[j]) (by simp [List.getElem?_eq_getElem hjx])
      obtain ⟨hq, hs⟩ := hP.out
      rw [hTL] at hq
      have HE : Hid (xs.take (j + 1) = xs.take j ++ [xs[j]]) := Lib.hid (by rw [List.take_add_one, List.getElem?_eq_getElem hjx]; rfl)
      have HT : Hid ((insT lessI (xs[j], j) S).map (·.1) = sortV lessI (xs.take (j + 1))) := Lib.hid (by
        have := pushed_next (x := xs[j]) hs (by rw [hTL]; exact hq.turn)
        rw [HE.out, ← this, hTL])
      have HQ := Lib.hid hq
      have HB := Lib.hid hB
      have HSL := Lib.hid hSL
      have HTL := Lib.hid (show (xs.take (j + 1)).length = j + 1 by simp; omega)
      have hsB := hB.size
      clear hq hs hP hB hTL hSL HE
      generalize xs[j] = x at *
      have c0 := hrow 0 _ rfl
      have c1 := hrow 1 _ rfl
      simp only [Nat.add_zero] at c0
      have b1 : (0 : Int) ≤ (j : Int) ∧ (j : Int) < (n : Int) := by omega
      clear hrow
      go_wp2_with fail
      refine (C3.out _ _ _ _ _ HQ.out (by rw [HSL.out]; omega) (by omega) hsB).mono ?_
      rintro e w3 ⟨rfl, v3, hq3, hc3, hf3⟩
      have HP3 : Hid (Pushed w.heap.size w.heap.size (xs.take (j + 1)) v3 (insT lessI (x, j) S) w3) := Lib.hid ⟨by rw [HTL.out]; exact hq3, HT.out⟩
      have HB3 := Lib.hid (HB.out.trans (hc3.below (fun k hk hS => by have := (HQ.out.lt k hS).1; omega) hsB))
      clear hq3 hc3 hf3 c0 c1
      go_wp2
      go_roundw
      case rel => exact ⟨j + 1, v3, _, by omega, by go_num, HP3, HB3.out⟩
      case measure => simp [intOf]; omega
    · obtain rfl : j = n := by omega
      rw [List.take_of_length_le (by have := HN.out; omega)] at hP
      have HB := Lib.hid hB
      clear hB hTL
      go_wp2_with fail
      refine (C4.out _ HB.out).mono ?_
      rintro e w4 ⟨v7, rfl, hown7, hb7⟩
      obtain ⟨A7, c7, rfl, hc7, _, hrd7, hl7⟩ := own_rd hown7
      have hz7 := hb7.size
      have HP4 : Hid (Pushed w.heap.size w.heap.size xs v S w4) := Lib.hid ⟨hP.out.1.kept hb7, hP.out.2⟩
      have HR7 := Lib.hid hrd7
      have HB7 := Lib.hid (HB.out.trans (hb7.mono HB.out.size))
      have HA7 : Hid (A7 = none → j = 0 ∧ c7 = 0) := Lib.hid (fun e => by subst e; exact own_none hown7)
      have HSEP : Hid (∀ a, A7 = some a → ∀ v', QBlk w.heap.size v' a.block → v'.ownBlock = v.ownBlock → False) := Lib.hid (fun a ha v' hS hv => by
        subst ha
        have h1 := (own_base' hown7 a rfl).1
        rcases hS with e | e
        · have := (hP.out.1.lt w.heap.size (.inl rfl)).2; omega
        · have := (hP.out.1.lt a.block (.inr (by rw [← hv]; exact e))).2; omega)
      clear hown7 hb7 hrd7 hl7 hP
      obtain ⟨K, hK, hKe⟩ := k_any most j (by omega)
      go_upto_region 11 with fail
      simp only [hKe]
      clear hKe
      have hSL := HP4.out.len.trans HN.out
      have HSL := Lib.hid hSL
      clear hSL
      go_upto_if 46 with fail
      go_cut [9, 10] (fun s9 s10 wx => ∃ (W : World) (Aa : Option Addr) (ca : Nat) (vq : Value), W = wx ∧ s9 = .slice Aa (min K j) ca ∧ s10 = .bool true ∧ Hid (Rd wx Aa ((((sortV lessI xs).take (min K j)).map rowItm).flatten) ∧ QIsItm w.heap.size lessI 22 w.heap.size vq (S.drop (min K j)) xs.length wx ∧ vq.ownBlock = v.ownBlock ∧ Rd wx A7 (((sortV lessI xs).map rowItm).flatten) ∧ Below w.heap.size w wx))
      case first =>
        rcases Nat.eq_zero_or_pos K with hK0 | hK0
        · subst hK0
          go_wp2_with fail
          go_meet
          exact ⟨_, none, 0, v, rfl, by rw [Nat.zero_min], rfl, Lib.hid ⟨by rw [Nat.zero_min]; exact Rd.nil _ _, by rw [Nat.zero_min]; exact HP4.out.1, rfl, HR7.out, HB7.out⟩⟩
        · have b0 : (0 : Int) < (K : Int) := by omega
          have D0 := Lib.hid (drained_any w.heap.size w.heap.size v S xs.length K w4 HP4.out.1 (by rw [HP4.out.len, HN.out]; omega) (by omega) (by omega))
          go_wp2_with fail
          refine D0.out.mono ?_
          rintro e w5 ⟨va, vq, rfl, hoa, hq5, hvq5, hc5⟩
          rw [HSL.out] at hoa hq5
          obtain ⟨Aa, ca, rfl, _, _, hra, _⟩ := own_rd hoa
          have hra2 : Rd w5 Aa ((((sortV lessI xs).take (min K j)).map rowItm).flatten) := by
            rw [List.map_take, HP4.out.2] at hra
            exact hra
          have HLT4 := Lib.hid (fun jj hjj => (HP4.out.1.lt jj hjj))
          have HALL := Lib.hid (And.intro hra2 (And.intro hq5 (And.intro hvq5 (And.intro (HR7.out.chg hc5 (fun a ha hne hS => HSEP.out a ha _ hS rfl)) (HB7.out.trans (hc5.below (fun k hk hS => by have := (HLT4.out k hS).1; omega) HB7.out.size))))))
          clear hoa hq5 hvq5 hc5 hra hra2
          go_wp2_with fail
          go_meet
          exact ⟨_, Aa, ca, vq, rfl, rfl, rfl, HALL⟩
      case rest =>
      obtain ⟨W5, Aa, ca, vq, hW5, rfl, rfl, HH⟩ := hcut
      subst hW5
      have hK1 : K < j ∧ min K j = K ∨ ¬ K < j ∧ min K j = j := by omega
      generalize min K j = K1 at *
      go_upto_region 14 with fail
      go_cut [8] (fun s8 wx => W5 = wx ∧ s8 = .int .i64 (K1 : Int))
      case first =>
        rcases hK1 with ⟨hKj, rfl⟩ | ⟨hKj, rfl⟩
        · go_wp2_with fail
          go_meet
          exact ⟨rfl, rfl⟩
        · go_wp2_with fail
          all_goals first | (go_meet; exact ⟨rfl, rfl⟩) | (obtain rfl : K = K1 := (by omega); go_meet; exact ⟨rfl, rfl⟩)
      case rest =>
      obtain ⟨hW5, rfl⟩ := hcut
      subst hW5
      have hK1j : K1 ≤ j := by omega
      clear hK1 hK HSL
      clear K
      have HRA := Lib.hid HH.out.1
      have HQW := Lib.hid HH.out.2.1
      have HVW := Lib.hid HH.out.2.2.1
      have HR7W := Lib.hid HH.out.2.2.2.1
      have HBW := Lib.hid HH.out.2.2.2.2
      clear HH
      have HL1 : Hid (((S.take K1).map (·.1)) = (sortV lessI xs).take K1) := Lib.hid (by rw [List.map_take, HP4.out.2])
      have HL2 : Hid (((S.drop K1).map (·.1)) = (sortV lessI xs).drop K1) := Lib.hid (by rw [List.map_drop, HP4.out.2])
      have hSL : S.length = j := HP4.out.len.trans HN.out
      have HSLv : Hid (((S.drop K1).length : Int) = (j : Int) - (K1 : Int)) := Lib.hid (by rw [List.length_drop, hSL]; omega)
      have cut1 := run_cut_k (P := Try.prog) .i64 Try.underlying22 (e := 33) (by kernel_rfl) A7 j c7 K1 (K1 : Int) rfl (by omega)
      have cut2 := run_from_k (P := Try.prog) (k := 2) .i64 Try.underlying22 (e := 33) (by kernel_rfl) A7 j c7 K1 (K1 : Int) rfl (by omega)
      have P1 := Lib.hid (Itm_plainL Aa K1 ca ((sortV lessI xs).take K1) A7 c7 W5 (by rw [List.length_take, sortV_len, HN.out]; omega) (HRA.out) (by have := HR7W.out.take (K1 * 2); rwa [rowsItm_take _ _ (by rw [sortV_len, HN.out]; omega)] at this) (by omega))
      have P2 := Lib.hid (fun (w1 : World) (Ab : Option Addr) (cb : Nat) (h1 : Rd w1 Ab ((((sortV lessI xs).drop K1).map rowItm).flatten)) (h2 : Rd w1 (cutA A7 K1 c7 2) ((((sortV lessI xs).drop K1).map rowItm).flatten)) => Itm_plainL Ab (j - K1) cb ((sortV lessI xs).drop K1) (cutA A7 K1 c7 2) (c7 - K1) w1 (by rw [List.length_drop, sortV_len, HN.out]) h1 h2 (by omega))
      have HCUT := Lib.hid (fun (w1 : World) (h1 : Rd w1 A7 (((sortV lessI xs).map rowItm).flatten)) => show Rd w1 (cutA A7 K1 c7 2) ((((sortV lessI xs).drop K1).map rowItm).flatten) by
        have := rd_cut (n := j) (c := c7) (lo := K1) (k := 2) h1 (by rw [rowsItm_len, sortV_len, HN.out]) (by omega) hc7
        rwa [rowsItm_drop _ _ (by rw [sortV_len, HN.out]; omega)] at this)
      have D1 : Hid (∀ (w1 : World) (v1 : Value), QIsItm w.heap.size lessI 22 w.heap.size v1 (S.drop K1) xs.length w1 → Calls Try.prog 25 #[.pointer (some ⟨w.heap.size, 0, none⟩), .int .i64 ((j : Int) + 1)] w1 (DrainedAt w.heap.size w.heap.size v1 (S.drop K1) xs.length (j - K1) w1)) := Lib.hid (fun w1 v1 hq1 => by
        have h1 := drained_any w.heap.size w.heap.size v1 (S.drop K1) xs.length (j + 1) w1 hq1 (by rw [List.length_drop]; omega) (by omega) (by omega)
        rw [show min (j + 1) (S.drop K1).length = j - K1 by rw [List.length_drop]; omega] at h1
        exact h1)
      have D2 : Hid (∀ (w1 : World) (v1 : Value), QIsItm w.heap.size lessI 22 w.heap.size v1 [] xs.length w1 → Calls Try.prog 25 #[.pointer (some ⟨w.heap.size, 0, none⟩), .int .i64 5] w1 (DrainedAt w.heap.size w.heap.size v1 [] xs.length 0 w1)) := Lib.hid (fun w1 v1 hq1 => drained_any w.heap.size w.heap.size v1 [] xs.length 5 w1 hq1 (by simp) (by omega) (by omega))
      have L1 := Lib.hid (fun (w1 : World) (v1 : Value) (h1 : QIsItm w.heap.size lessI 22 w.heap.size v1 (S.drop K1) xs.length w1) => by have := qItm_qlen2 w.heap.size lessI _ w1 w.heap.size v1 (S.drop K1) xs.length h1; rw [HSLv.out] at this; exact this)
      have L2 : Hid (∀ (w1 : World) (v1 : Value), QIsItm w.heap.size lessI 22 w.heap.size v1 [] xs.length w1 → Calls Try.prog 23 #[.pointer (some ⟨w.heap.size, 0, none⟩)] w1 fun e w' => e = .returned (.int .i64 0) ∧ w1 = w') := Lib.hid (fun w1 v1 h1 => qItm_qlen2 w.heap.size lessI _ w1 w.heap.size v1 [] xs.length h1)
      have HDD : Hid ((S.drop K1).drop (j - K1) = [] ∧ (S.drop K1).take (j - K1) = S.drop K1) := Lib.hid ⟨List.drop_of_length_le (by rw [List.length_drop]; omega), List.take_of_length_le (by rw [List.length_drop]; omega)⟩
      clear hSL
      go_wp2_with fail
      refine P1.out.mono ?_
      rintro e w10 ⟨rfl, hb10⟩
      have HQ10 := Lib.hid (HQW.out.kept hb10)
      have HR10 := Lib.hid (HR7W.out.kept hb10)
      have HB10 := Lib.hid (HBW.out.trans (hb10.mono HBW.out.size))
      clear hb10
      go_wp2_with fail
      refine (L1.out _ _ HQ10.out).mono ?_
      rintro e w11 ⟨rfl, rfl⟩
      go_wp2_with fail
      refine (D1.out _ _ HQ10.out).mono ?_
      rintro e w12 ⟨vb, vq2, rfl, hob, hq12, hvq, hc12⟩
      obtain ⟨Ab, cb, rfl, _, _, hrb, _⟩ := own_rd hob
      rw [HDD.out.1] at hq12
      rw [HDD.out.2, HL2.out] at hrb
      have HQ12 := Lib.hid hq12
      have HRB := Lib.hid hrb
      have HOB := Lib.hid hob
      have HVQ := Lib.hid hvq
      have HLT10 := Lib.hid (fun jj hjj => (HQ10.out.lt jj hjj))
      have HR12 := Lib.hid (HR10.out.chg hc12 (fun a ha hne hS => HSEP.out a ha _ hS HVW.out))
      have HB12 := Lib.hid (HB10.out.trans (hc12.below (fun k hk hS => by have := (HLT10.out k hS).1; omega) HB10.out.size))
      clear hob hq12 hrb hvq hc12
      go_wp2_with fail
      refine (D2.out _ _ HQ12.out).mono ?_
      rintro e w13 ⟨vc, vq3, rfl, hoc, hq13, hvq3, hc13⟩
      obtain ⟨Ac, cc, rfl, _⟩ := own_sh hoc
      have HQ13 := Lib.hid (show QIsItm w.heap.size lessI 22 w.heap.size vq3 [] xs.length w13 from hq13)
      have HLT12 := Lib.hid (fun jj hjj => (HQ12.out.lt jj hjj))
      have HR13 := Lib.hid (HR12.out.chg hc13 (fun a ha hne hS => HSEP.out a ha _ hS (HVQ.out.trans HVW.out)))
      have HRB13 := Lib.hid (HRB.out.chg hc13 (fun a ha hne hS => by
        subst ha
        have h1 := (own_base' HOB.out a rfl).1
        rcases hS with e | e
        · have := (HLT10.out w.heap.size (.inl rfl)).2; omega
        · have := (HLT10.out a.block (.inr (by rw [← HVQ.out]; exact e))).2; omega))
      have HB13 := Lib.hid (HB12.out.trans (hc13.below (fun k hk hS => by have := (HLT12.out k hS).1; omega) HB12.out.size))
      clear hoc hq13 hvq3 hc13
      go_wp2_with fail
      refine (P2.out _ _ _ HRB13.out (HCUT.out _ HR13.out)).mono ?_
      rintro e w14 ⟨rfl, hb14⟩
      have HQ14 := Lib.hid (HQ13.out.kept hb14)
      have HB14 := Lib.hid (HB13.out.trans (hb14.mono HB13.out.size))
      clear hb14
      go_wp2_with fail
      refine (L2.out _ _ HQ14.out).mono ?_
      rintro e w15 ⟨rfl, rfl⟩
      go_wp2
      go_ret
      exact ⟨rfl, HB14.out⟩
theorem drains_row (A : Option Addr) (n c : Nat) (z : List (List Value)) (most : Int) (w : World) (hn : z.length = n) (hA : A = none → n = 0 ∧ c = 0) (hnc : n ≤ c) (h : Rd w A z.flatten) (hI : ∀ r ∈ z, IsItemD r) (hc : c ≤ 1048576) (hmost : (Lit.int .i64 most).wf = true) :
    Calls Try.prog 5 #[.slice A n c, .int .i64 most] w fun e w' => e = .returned (.bool true) ∧ Below w.heap.size w w' := by
  obtain ⟨xs, rfl⟩ := items_of z hI
  exact drains_all A n c xs most w (by simpa using hn) hA h (by omega) hmost
end Go.Proofs.Ytmanjeolhifhiaa
