/- Contracts: the library's heap over a queue's pile: up. -/
import Derived.Test.YtmipfmeafbeegaaQExtTake
namespace Go.Proofs.Ytmipfmeafbeegaa
open Go.RowKit
set_option linter.unusedVariables false

theorem mExt_less (n : Nat) (a : Addr) (w : World) : (method (n + 1) 74 (.pointer (some a)) "Less").run Try.prog w = .ok (73, .pointer (some a)) w := by kernel_rfl
theorem mExt_swap (n : Nat) (a : Addr) (w : World) : (method (n + 1) 74 (.pointer (some a)) "Swap").run Try.prog w = .ok (76, .pointer (some a)) w := by kernel_rfl
theorem mExt_len (n : Nat) (a : Addr) (w : World) : (method (n + 1) 74 (.pointer (some a)) "Len").run Try.prog w = .ok (53, .pointer (some a)) w := by kernel_rfl
theorem mExt_push (n : Nat) (a : Addr) (w : World) : (method (n + 1) 74 (.pointer (some a)) "Push").run Try.prog w = .ok (75, .pointer (some a)) w := by kernel_rfl
theorem mExt_pop (n : Nat) (a : Addr) (w : World) : (method (n + 1) 74 (.pointer (some a)) "Pop").run Try.prog w = .ok (74, .pointer (some a)) w := by kernel_rfl
/-- What the ranks are told by. -/
structure RanksExt (less : Ext → Ext → Bool) (fn : Nat) : Prop where
  enter : ∀ args (w1 : World), (callFunc fn args).run Try.prog w1 = .ok (.enter fn args) w1
  calls : ∀ (x y : Ext) (w1 : World), Calls Try.prog fn #[.agg #[.int .u64 x.1, .int .i64 x.2.1, .int .i64 x.2.2], .agg #[.int .u64 y.1, .int .i64 y.2.1, .int .i64 y.2.2]] w1 fun e w' => e = .returned (.bool (less x y)) ∧ Below w1.heap.size w1 w'
theorem Chg.mono_new {B : Nat} {S : Nat → Prop} {w w' : World} (h : Chg (fun k => B ≤ k) w w') (hB : w.heap.size ≤ B := by exact Nat.le_refl _) : Chg S w w' := h.mono (fun i hi hs => absurd hs (by omega))
theorem qExt_blk_below {base : Nat} {w w' : World} {q : Nat} {v lf : Value} {l : List (Ext × Nat)} {tn : Nat} (h : QAtExt base w q v lf l tn) (hc : Chg (QBlk q v) w w') (hbase : base ≤ w.heap.size) : Below base w w' :=
  hc.below (fun k hk hq => by
    rcases hq with rfl | hq
    · have := h.ge; omega
    · have := (h.own.lt k hq).1; omega) hbase
set_option maxRecDepth 100000 in
set_option maxHeartbeats 4000000 in
theorem qExt_up (base : Nat) (less : Ext → Ext → Bool) (fn : Nat) (R : RanksExt less fn) (w : World) (q : Nat) (v : Value) (l : List (Ext × Nat)) (tn : Nat) (j0 : Nat) (h : QAtExt base w q v (.func (.func fn) #[] #[]) l tn) (hj : j0 < l.length) (hcap : l.length ≤ 4000000000) :
    Calls Try.prog 52 #[.iface 74 (.pointer (some ⟨q, 0, none⟩)), .int .i64 (j0 : Int)] w fun e w' => e = .returned (.tuple #[]) ∧ QAtExt base w' q v (.func (.func fn) #[] #[]) (upL zeroExt (ltT less) l j0) tn ∧ Chg (QBlk q v) w w' := by
  have H := Lib.hid h
  clear h
  go_enter Try.func52, Try.ntmps52
  go_wp2_with fail
  go_loopw [1] (fun s1 wr => ∃ (j : Nat) (m : List (Ext × Nat)), j < m.length ∧ s1 = .int .i64 j ∧ m.length = l.length ∧ upL zeroExt (ltT less) m j = upL zeroExt (ltT less) l j0 ∧ QAtExt base wr q v (.func (.func fn) #[] #[]) m tn ∧ Chg (QBlk q v) w wr) (fun i _ => (intOf i).toNat)
  case atStart => exact ⟨j0, l, hj, rfl, rfl, rfl, H.out, Chg.refl _ _⟩
  case round =>
    obtain ⟨j, m, hjm, rfl, hml, hup, hq, hc⟩ := hrel
    have HM := Lib.hid hml
    have HU := Lib.hid hup
    have HQ := Lib.hid hq
    have HC := Lib.hid hc
    have hjb : j ≤ 4000000000 := by omega
    clear hml hup hq hc
    by_cases h0 : j = 0
    · subst h0
      go_wp2_with fail
      go_end0
      have e : upL zeroExt (ltT less) m 0 = m := by unfold upL; simp
      exact ⟨rfl, by rw [← HU.out, e]; exact HQ.out, HC.out⟩
    · have hpos : 0 < j := by omega
      obtain ⟨i, hi⟩ : ∃ i, i = (j - 1) / 2 := ⟨_, rfl⟩
      have HI := Lib.hid hi
      have hij : i < j := by omega
      have e1 : ((j : Int) - 1) / 2 = (i : Int) := by omega
      have q1 : ((i : Int) == (j : Int)) = false := by rw [beq_eq_false_iff_ne]; omega
      clear hi
      have ml := mExt_less
      have ms := mExt_swap
      have CL := Lib.hid (qExt_less base less fn wr q v m tn j i HQ.out hjm (by omega) R.enter R.calls)
      have CS := Lib.hid (fun (w1 : World) (hb : QAtExt base w1 q v (.func (.func fn) #[] #[]) m tn) => qExt_swap base w1 q v (.func (.func fn) #[] #[]) m tn i j hb (by omega) hjm (by omega))
      have hun : upL zeroExt (ltT less) m j = if ltT less (m.getD j zeroExt) (m.getD i zeroExt) then upL zeroExt (ltT less) (swapL zeroExt m i j) i else m := by
        conv => lhs; unfold upL
        rw [dif_neg h0, ← HI.out]
      cases hlt : ltT less (m.getD j zeroExt) (m.getD i zeroExt) with
      | true =>
        rw [hlt] at CL hun
        rw [if_pos rfl] at hun
        have HUN := Lib.hid hun
        clear hlt hun h0
        go_wp2_with fail
        refine CL.out.mono ?_
        rintro e w2 ⟨rfl, hb2⟩
        have HQ2 := Lib.hid (HQ.out.kept hb2)
        have HC2 := Lib.hid (HC.out.trans ((Chg.of_below hb2).mono_new))
        clear hb2
        go_wp2_with fail
        refine (CS.out _ HQ2.out).mono ?_
        rintro e w3 ⟨rfl, hq3, hc3⟩
        have HQ3 := Lib.hid hq3
        have HC3 := Lib.hid (HC2.out.trans' hc3 (fun k _ h => h))
        clear hq3 hc3
        go_wp2_with fail
        go_roundw
        case rel => exact ⟨i, _, by rw [swapL_len]; omega, rfl, by rw [swapL_len]; exact HM.out, by rw [← HUN.out]; exact HU.out, HQ3.out, HC3.out⟩
        case measure => simp [intOf]; omega
      | false =>
        rw [hlt] at CL hun
        rw [if_neg (by simp)] at hun
        have HUN := Lib.hid hun
        clear hlt hun h0
        go_wp2_with fail
        refine CL.out.mono ?_
        rintro e w2 ⟨rfl, hb2⟩
        have HQ2 := Lib.hid (HQ.out.kept hb2)
        have HC2 := Lib.hid (HC.out.trans ((Chg.of_below hb2).mono_new))
        clear hb2
        go_wp2_with fail
        go_end0
        exact ⟨rfl, by rw [← HU.out, HUN.out]; exact HQ2.out, HC2.out⟩
end Go.Proofs.Ytmipfmeafbeegaa
