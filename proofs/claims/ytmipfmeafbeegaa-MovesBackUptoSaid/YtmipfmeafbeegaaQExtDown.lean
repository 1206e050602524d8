/- Contracts: the library's heap over a queue's pile: down. -/
import Derived.Test.YtmipfmeafbeegaaQExtUp
namespace Go.Proofs.Ytmipfmeafbeegaa
open Go.RowKit
set_option linter.unusedVariables false

set_option maxRecDepth 100000 in
set_option maxHeartbeats 8000000 in
theorem qExt_down (base : Nat) (less : Ext → Ext → Bool) (fn : Nat) (R : RanksExt less fn) (w : World) (q : Nat) (v : Value) (l : List (Ext × Nat)) (tn n : Nat) (h : QAtExt base w q v (.func (.func fn) #[] #[]) l tn) (hn : n ≤ l.length) (hcap : l.length ≤ 4000000000) :
    Calls Try.prog 56 #[.iface 74 (.pointer (some ⟨q, 0, none⟩)), .int .i64 0, .int .i64 (n : Int)] w fun e w' => (∃ b, e = .returned (.bool b)) ∧ QAtExt base w' q v (.func (.func fn) #[] #[]) (downL zeroExt (ltT less) l 0 n) tn ∧ Chg (QBlk q v) w w' := by
  have H := Lib.hid h
  clear h
  go_enter Try.func56, Try.ntmps56
  go_wp2_with fail
  go_loopw [7] (fun s7 wr => ∃ (i : Nat) (m : List (Ext × Nat)), i ≤ n ∧ s7 = .int .i64 i ∧ m.length = l.length ∧ downL zeroExt (ltT less) m i n = downL zeroExt (ltT less) l 0 n ∧ QAtExt base wr q v (.func (.func fn) #[] #[]) m tn ∧ Chg (QBlk q v) w wr) (fun i _ => n - (intOf i).toNat)
  case atStart => exact ⟨0, l, by omega, rfl, rfl, rfl, H.out, Chg.refl _ _⟩
  case round =>
    obtain ⟨i, m, him, rfl, hml, hup, hq, hc⟩ := hrel
    have HM := Lib.hid hml
    have HU := Lib.hid hup
    have HQ := Lib.hid hq
    have HC := Lib.hid hc
    have hib : i ≤ 4000000000 := by omega
    have hnl : n ≤ m.length := by omega
    clear hml hup hq hc
    by_cases h1 : 2 * i + 1 < n
    · have ml := mExt_less
      have ms := mExt_swap
      have CL := Lib.hid (fun (w1 : World) (a b : Nat) (ha : a < n) (hb : b < n) (hq : QAtExt base w1 q v (.func (.func fn) #[] #[]) m tn) => qExt_less base less fn w1 q v m tn a b hq (by omega) (by omega) R.enter R.calls)
      have CS := Lib.hid (fun (w1 : World) (a b : Nat) (ha : a < n) (hb : b < n) (hab : a ≠ b) (hq : QAtExt base w1 q v (.func (.func fn) #[] #[]) m tn) => qExt_swap base w1 q v (.func (.func fn) #[] #[]) m tn a b hq (by omega) (by omega) hab)
      have hun : downL zeroExt (ltT less) m i n = if ltT less (m.getD (kid zeroExt (ltT less) m i n) zeroExt) (m.getD i zeroExt) then downL zeroExt (ltT less) (swapL zeroExt m i (kid zeroExt (ltT less) m i n)) (kid zeroExt (ltT less) m i n) n else m := by
        conv => lhs; unfold downL
        rw [dif_pos h1]
      by_cases h2 : 2 * i + 2 < n
      · have h2' : 2 * (i : Int) + 1 + 1 < (n : Int) := by omega
        cases hk : ltT less (m.getD (2 * i + 2) zeroExt) (m.getD (2 * i + 1) zeroExt) with
        | true =>
          have hkid : kid zeroExt (ltT less) m i n = 2 * i + 2 := by unfold kid; rw [if_pos ⟨h2, hk⟩]
          rw [hkid] at hun
          have CK : Hid (Calls Try.prog 73 #[.pointer (some ⟨q, 0, none⟩), .int .i64 ((2 * i + 2 : Nat) : Int), .int .i64 ((2 * i + 1 : Nat) : Int)] wr fun e w' => e = .returned (.bool true) ∧ Below wr.heap.size wr w') := by
            have := CL.out wr (2 * i + 2) (2 * i + 1) (by omega) (by omega) HQ.out
            rw [hk] at this; exact Lib.hid this
          clear hk hkid
          obtain ⟨J, hJ⟩ : ∃ J : Nat, J = 2 * i + 2 := ⟨_, rfl⟩
          have eJ : 2 * (i : Int) + 1 + 1 = (J : Int) := by omega
          have eK : ((2 * i + 1 : Nat) : Int) = 2 * (i : Int) + 1 := by omega
          rw [← hJ] at hun CK
          rw [eK] at CK
          have HJ := Lib.hid hJ
          have bJ : J < n := by omega
          have bJ2 : i < J := by omega
          clear hJ eK h2'
          have hbJ : J ≤ 4000000000 := by omega
          have hnJ : i ≠ J := by omega
          cases hlt : ltT less (m.getD J zeroExt) (m.getD i zeroExt) with
          | true =>
            have CM : Hid (∀ w1, QAtExt base w1 q v (.func (.func fn) #[] #[]) m tn → Calls Try.prog 73 #[.pointer (some ⟨q, 0, none⟩), .int .i64 (J : Int), .int .i64 (i : Int)] w1 fun e w' => e = .returned (.bool true) ∧ Below w1.heap.size w1 w') := by
              refine Lib.hid (fun w1 hq => ?_)
              have := CL.out w1 J i bJ (by omega) hq
              rw [hlt] at this; exact this
            have CS2 := Lib.hid (fun w1 hq => CS.out w1 i J (by omega) bJ hnJ hq)
            rw [hlt, if_pos rfl] at hun
            have HUN := Lib.hid hun
            clear hlt hun hnJ
            go_wp2_with fail
            refine CK.out.mono ?_
            rintro e w2 ⟨rfl, hb2⟩
            have HQ2 := Lib.hid (HQ.out.kept hb2)
            have HC2 := Lib.hid (HC.out.trans ((Chg.of_below hb2).mono_new))
            clear hb2
            go_wp2_with fail
            refine (CM.out _ HQ2.out).mono ?_
            rintro e w3 ⟨rfl, hb3⟩
            have HQ3 := Lib.hid (HQ2.out.kept hb3)
            have HC3 := Lib.hid (HC2.out.trans ((Chg.of_below hb3).mono_new))
            clear hb3
            go_wp2_with fail
            refine (CS2.out _ HQ3.out).mono ?_
            rintro e w4 ⟨rfl, hq4, hc4⟩
            have HQ4 := Lib.hid hq4
            have HC4 := Lib.hid (HC3.out.trans' hc4 (fun k _ h => h))
            clear hq4 hc4
            go_wp2_with fail
            go_roundw
            case rel => exact ⟨J, _, by omega, rfl, by rw [swapL_len]; exact HM.out, by rw [← HUN.out]; exact HU.out, HQ4.out, HC4.out⟩
            case measure => simp [intOf]; omega
          | false =>
            have CM : Hid (∀ w1, QAtExt base w1 q v (.func (.func fn) #[] #[]) m tn → Calls Try.prog 73 #[.pointer (some ⟨q, 0, none⟩), .int .i64 (J : Int), .int .i64 (i : Int)] w1 fun e w' => e = .returned (.bool false) ∧ Below w1.heap.size w1 w') := by
              refine Lib.hid (fun w1 hq => ?_)
              have := CL.out w1 J i bJ (by omega) hq
              rw [hlt] at this; exact this
            rw [hlt, if_neg (by simp)] at hun
            have HUN := Lib.hid hun
            clear hlt hun hnJ
            go_wp2_with fail
            refine CK.out.mono ?_
            rintro e w2 ⟨rfl, hb2⟩
            have HQ2 := Lib.hid (HQ.out.kept hb2)
            have HC2 := Lib.hid (HC.out.trans ((Chg.of_below hb2).mono_new))
            clear hb2
            go_wp2_with fail
            refine (CM.out _ HQ2.out).mono ?_
            rintro e w3 ⟨rfl, hb3⟩
            have HQ3 := Lib.hid (HQ2.out.kept hb3)
            have HC3 := Lib.hid (HC2.out.trans ((Chg.of_below hb3).mono_new))
            clear hb3
            go_wp2_with fail
            go_ret
            exact ⟨⟨_, rfl⟩, by rw [← HU.out, HUN.out]; exact HQ3.out, HC3.out⟩
        | false =>
          have hkid : kid zeroExt (ltT less) m i n = 2 * i + 1 := by unfold kid; rw [if_neg (by rw [hk]; simp)]
          rw [hkid] at hun
          have CK : Hid (Calls Try.prog 73 #[.pointer (some ⟨q, 0, none⟩), .int .i64 ((2 * i + 2 : Nat) : Int), .int .i64 ((2 * i + 1 : Nat) : Int)] wr fun e w' => e = .returned (.bool false) ∧ Below wr.heap.size wr w') := by
            have := CL.out wr (2 * i + 2) (2 * i + 1) (by omega) (by omega) HQ.out
            rw [hk] at this; exact Lib.hid this
          clear hk hkid
          obtain ⟨J, hJ⟩ : ∃ J : Nat, J = 2 * i + 1 := ⟨_, rfl⟩
          have eJ : 2 * (i : Int) + 1 = (J : Int) := by omega
          have eK : ((2 * i + 2 : Nat) : Int) = (J : Int) + 1 := by omega
          have eK2 : ((2 * i + 1 : Nat) : Int) = (J : Int) := by omega
          rw [← hJ] at hun
          rw [eK, eK2] at CK
          have HJ := Lib.hid hJ
          have bJ : J < n := by omega
          have bJ2 : i < J := by omega
          have h2'' : (J : Int) + 1 < (n : Int) := by omega
          clear hJ eK eK2 h2'
          have hbJ : J ≤ 4000000000 := by omega
          have hnJ : i ≠ J := by omega
          cases hlt : ltT less (m.getD J zeroExt) (m.getD i zeroExt) with
          | true =>
            have CM : Hid (∀ w1, QAtExt base w1 q v (.func (.func fn) #[] #[]) m tn → Calls Try.prog 73 #[.pointer (some ⟨q, 0, none⟩), .int .i64 (J : Int), .int .i64 (i : Int)] w1 fun e w' => e = .returned (.bool true) ∧ Below w1.heap.size w1 w') := by
              refine Lib.hid (fun w1 hq => ?_)
              have := CL.out w1 J i bJ (by omega) hq
              rw [hlt] at this; exact this
            have CS2 := Lib.hid (fun w1 hq => CS.out w1 i J (by omega) bJ hnJ hq)
            rw [hlt, if_pos rfl] at hun
            have HUN := Lib.hid hun
            clear hlt hun hnJ
            go_wp2_with fail
            refine CK.out.mono ?_
            rintro e w2 ⟨rfl, hb2⟩
            have HQ2 := Lib.hid (HQ.out.kept hb2)
            have HC2 := Lib.hid (HC.out.trans ((Chg.of_below hb2).mono_new))
            clear hb2
            go_wp2_with fail
            refine (CM.out _ HQ2.out).mono ?_
            rintro e w3 ⟨rfl, hb3⟩
            have HQ3 := Lib.hid (HQ2.out.kept hb3)
            have HC3 := Lib.hid (HC2.out.trans ((Chg.of_below hb3).mono_new))
            clear hb3
            go_wp2_with fail
            refine (CS2.out _ HQ3.out).mono ?_
            rintro e w4 ⟨rfl, hq4, hc4⟩
            have HQ4 := Lib.hid hq4
            have HC4 := Lib.hid (HC3.out.trans' hc4 (fun k _ h => h))
            clear hq4 hc4
            go_wp2_with fail
            go_roundw
            case rel => exact ⟨J, _, by omega, rfl, by rw [swapL_len]; exact HM.out, by rw [← HUN.out]; exact HU.out, HQ4.out, HC4.out⟩
            case measure => simp [intOf]; omega
          | false =>
            have CM : Hid (∀ w1, QAtExt base w1 q v (.func (.func fn) #[] #[]) m tn → Calls Try.prog 73 #[.pointer (some ⟨q, 0, none⟩), .int .i64 (J : Int), .int .i64 (i : Int)] w1 fun e w' => e = .returned (.bool false) ∧ Below w1.heap.size w1 w') := by
              refine Lib.hid (fun w1 hq => ?_)
              have := CL.out w1 J i bJ (by omega) hq
              rw [hlt] at this; exact this
            rw [hlt, if_neg (by simp)] at hun
            have HUN := Lib.hid hun
            clear hlt hun hnJ
            go_wp2_with fail
            refine CK.out.mono ?_
            rintro e w2 ⟨rfl, hb2⟩
            have HQ2 := Lib.hid (HQ.out.kept hb2)
            have HC2 := Lib.hid (HC.out.trans ((Chg.of_below hb2).mono_new))
            clear hb2
            go_wp2_with fail
            refine (CM.out _ HQ2.out).mono ?_
            rintro e w3 ⟨rfl, hb3⟩
            have HQ3 := Lib.hid (HQ2.out.kept hb3)
            have HC3 := Lib.hid (HC2.out.trans ((Chg.of_below hb3).mono_new))
            clear hb3
            go_wp2_with fail
            go_ret
            exact ⟨⟨_, rfl⟩, by rw [← HU.out, HUN.out]; exact HQ3.out, HC3.out⟩
      · have h2' : (n : Int) ≤ 2 * (i : Int) + 1 + 1 := by omega
        have hkid : kid zeroExt (ltT less) m i n = 2 * i + 1 := by unfold kid; rw [if_neg (by intro hh; exact h2 hh.1)]
        rw [hkid] at hun
        clear hkid
        obtain ⟨J, hJ⟩ : ∃ J : Nat, J = 2 * i + 1 := ⟨_, rfl⟩
        have eJ : 2 * (i : Int) + 1 = (J : Int) := by omega
        rw [← hJ] at hun
        have HJ := Lib.hid hJ
        have bJ : J < n := by omega
        have bJ2 : i < J := by omega
        have h2'' : (n : Int) ≤ (J : Int) + 1 := by omega
        clear hJ h2'
        have hbJ : J ≤ 4000000000 := by omega
        have hnJ : i ≠ J := by omega
        cases hlt : ltT less (m.getD J zeroExt) (m.getD i zeroExt) with
        | true =>
          have CM : Hid (∀ w1, QAtExt base w1 q v (.func (.func fn) #[] #[]) m tn → Calls Try.prog 73 #[.pointer (some ⟨q, 0, none⟩), .int .i64 (J : Int), .int .i64 (i : Int)] w1 fun e w' => e = .returned (.bool true) ∧ Below w1.heap.size w1 w') := by
            refine Lib.hid (fun w1 hq => ?_)
            have := CL.out w1 J i bJ (by omega) hq
            rw [hlt] at this; exact this
          have CS2 := Lib.hid (fun w1 hq => CS.out w1 i J (by omega) bJ hnJ hq)
          rw [hlt, if_pos rfl] at hun
          have HUN := Lib.hid hun
          clear hlt hun hnJ
          go_wp2_with fail
          have HQ2 := HQ
          have HC2 := HC
          refine (CM.out _ HQ2.out).mono ?_
          rintro e w3 ⟨rfl, hb3⟩
          have HQ3 := Lib.hid (HQ2.out.kept hb3)
          have HC3 := Lib.hid (HC2.out.trans ((Chg.of_below hb3).mono_new))
          clear hb3
          go_wp2_with fail
          refine (CS2.out _ HQ3.out).mono ?_
          rintro e w4 ⟨rfl, hq4, hc4⟩
          have HQ4 := Lib.hid hq4
          have HC4 := Lib.hid (HC3.out.trans' hc4 (fun k _ h => h))
          clear hq4 hc4
          go_wp2_with fail
          go_roundw
          case rel => exact ⟨J, _, by omega, rfl, by rw [swapL_len]; exact HM.out, by rw [← HUN.out]; exact HU.out, HQ4.out, HC4.out⟩
          case measure => simp [intOf]; omega
        | false =>
          have CM : Hid (∀ w1, QAtExt base w1 q v (.func (.func fn) #[] #[]) m tn → Calls Try.prog 73 #[.pointer (some ⟨q, 0, none⟩), .int .i64 (J : Int), .int .i64 (i : Int)] w1 fun e w' => e = .returned (.bool false) ∧ Below w1.heap.size w1 w') := by
            refine Lib.hid (fun w1 hq => ?_)
            have := CL.out w1 J i bJ (by omega) hq
            rw [hlt] at this; exact this
          rw [hlt, if_neg (by simp)] at hun
          have HUN := Lib.hid hun
          clear hlt hun hnJ
          go_wp2_with fail
          have HQ2 := HQ
          have HC2 := HC
          refine (CM.out _ HQ2.out).mono ?_
          rintro e w3 ⟨rfl, hb3⟩
          have HQ3 := Lib.hid (HQ2.out.kept hb3)
          have HC3 := Lib.hid (HC2.out.trans ((Chg.of_below hb3).mono_new))
          clear hb3
          go_wp2_with fail
          go_ret
          exact ⟨⟨_, rfl⟩, by rw [← HU.out, HUN.out]; exact HQ3.out, HC3.out⟩
    · have e : downL zeroExt (ltT less) m i n = m := by unfold downL; rw [dif_neg h1]
      have h1' : (n : Int) ≤ 2 * (i : Int) + 1 := by omega
      have HE := Lib.hid e
      clear e h1
      go_wp2_with fail
      go_ret
      exact ⟨⟨_, rfl⟩, by rw [← HU.out, HE.out]; exact HQ.out, HC.out⟩
end Go.Proofs.Ytmipfmeafbeegaa
