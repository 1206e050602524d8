/- Contracts: the library's heap over a queue's pile: Push, Pop; the queue's own calls: New, Len, Push, Pop. -/
import Derived.Test.YtmipfmeafbeegaaQExtDown
namespace Go.Proofs.Ytmipfmeafbeegaa
open Go.RowKit
set_option linter.unusedVariables false

theorem LeftExt.then {base : Nat} {w w1 w2 : World} {q : Nat} {v v1 lf : Value} {l : List (Ext × Nat)} {tn : Nat} (hs : w.heap.size ≤ w1.heap.size) (hc : Chg (QBlk q v) w w1) (hv : ∀ j, v1.ownBlock = some j → v.ownBlock = some j ∨ w.heap.size ≤ j) (h : LeftExt base w1 q v1 lf l tn w2) : LeftExt base w q v lf l tn w2 := by
  obtain ⟨v2, h1, h2, h3⟩ := h
  refine ⟨v2, h1, hc.trans' h2 ?_, ?_⟩
  · intro k hk hq
    rcases hq with rfl | hq
    · exact .inl rfl
    · rcases hv k hq with e | e
      · exact .inr e
      · omega
  · intro j hj
    rcases h3 j hj with e | e
    · exact hv j e
    · exact .inr (by omega)
set_option maxRecDepth 100000 in
set_option maxHeartbeats 4000000 in
theorem qExt_hpush (base : Nat) (less : Ext → Ext → Bool) (fn : Nat) (R : RanksExt less fn) (w : World) (q : Nat) (v : Value) (l : List (Ext × Nat)) (tn : Nat) (x : Ext × Nat) (h : QAtExt base w q v (.func (.func fn) #[] #[]) l tn) (hcap : l.length + 1 ≤ 4000000000) (hbase : base ≤ w.heap.size) :
    Calls Try.prog 44 #[.iface 74 (.pointer (some ⟨q, 0, none⟩)), .iface 76 (.agg #[.int .u64 x.1.1, .int .i64 x.1.2.1, .int .i64 x.1.2.2, .int .i64 (x.2 : Int)])] w fun e w' => e = .returned (.tuple #[]) ∧ LeftExt base w q v (.func (.func fn) #[] #[]) (pushL zeroExt (ltT less) l x) tn w' := by
  have mp := mExt_push
  have mn := mExt_len
  have C1 := Lib.hid (qExt_append base w q v (.func (.func fn) #[] #[]) l tn x h hcap hbase)
  have hs0 := h.lt
  clear h
  go_enter Try.func44, Try.ntmps44
  go_wp2_with fail
  refine C1.out.mono ?_
  rintro e w1 ⟨rfl, hL⟩
  obtain ⟨v1, hq1, hc1, hn1⟩ := hL
  have HC1 := Lib.hid hc1
  have HN1 := Lib.hid hn1
  have hlen : (l ++ [x]).length = l.length + 1 := by simp
  have C2 := Lib.hid (by have := qExt_len base w1 q v1 _ _ tn hq1; rw [hlen] at this; exact this)
  have C3 := Lib.hid (qExt_up base less fn R w1 q v1 (l ++ [x]) tn l.length hq1 (by simp) (by simpa using hcap))
  have hs1 := hc1.size
  clear hq1 hc1 hn1 hlen
  go_wp2_with fail
  refine C2.out.mono ?_
  rintro e w2 ⟨rfl, rfl⟩
  go_wp2_with fail
  refine C3.out.mono ?_
  rintro e w3 ⟨rfl, hq3, hc3⟩
  have HQ3 := Lib.hid hq3
  have HC3 := Lib.hid hc3
  clear hq3 hc3
  go_wp2_with fail
  go_end0
  exact ⟨rfl, LeftExt.then hs1 HC1.out HN1.out ⟨v1, HQ3.out, HC3.out, fun j hj => .inl hj⟩⟩

theorem swapL_00 (l : List (Ext × Nat)) (h : l.length = 1) : swapL zeroExt l 0 0 = l := by
  match l, h with
  | [x], _ => rfl
set_option maxRecDepth 100000 in
set_option maxHeartbeats 4000000 in
theorem qExt_hpop (base : Nat) (less : Ext → Ext → Bool) (fn : Nat) (R : RanksExt less fn) (w : World) (q g c m : Nat) (l : List (Ext × Nat)) (tn : Nat) (h : QAtExt base w q (.slice (some ⟨g, 0, none⟩) (m + 1) c) (.func (.func fn) #[] #[]) l tn) (hl : l.length = m + 1) (hcap : l.length ≤ 4000000000) :
    Calls Try.prog 54 #[.iface 74 (.pointer (some ⟨q, 0, none⟩))] w fun e w' => e = .returned (.iface 76 (.agg #[.int .u64 ((popL zeroExt (ltT less) l).getD m zeroExt).1.1, .int .i64 ((popL zeroExt (ltT less) l).getD m zeroExt).1.2.1, .int .i64 ((popL zeroExt (ltT less) l).getD m zeroExt).1.2.2, .int .i64 (((popL zeroExt (ltT less) l).getD m zeroExt).2 : Int)])) ∧ LeftAtExt base w q (.slice (some ⟨g, 0, none⟩) (m + 1) c) (.slice (some ⟨g, 0, none⟩) m c) (.func (.func fn) #[] #[]) ((popL zeroExt (ltT less) l).take m) tn w' := by
  have ms := mExt_swap
  have mn := mExt_len
  have mp := mExt_pop
  have hpop : popL zeroExt (ltT less) l = downL zeroExt (ltT less) (swapL zeroExt l 0 m) 0 m := by unfold popL; rw [hl]; rfl
  have CL := Lib.hid (by have := qExt_len base w q _ _ _ tn h; rw [hl] at this; exact this)
  have CS : Hid (Calls Try.prog 76 #[.pointer (some ⟨q, 0, none⟩), .int .i64 0, .int .i64 (m : Int)] w fun e w' => e = .returned (.tuple #[]) ∧ QAtExt base w' q (.slice (some ⟨g, 0, none⟩) (m + 1) c) (.func (.func fn) #[] #[]) (swapL zeroExt l 0 m) tn ∧ Chg (QBlk q (.slice (some ⟨g, 0, none⟩) (m + 1) c)) w w') := by
    by_cases h0 : m = 0
    · subst h0
      rw [swapL_00 l hl]
      exact Lib.hid (qExt_swap_same base w q _ _ l tn 0 h (by omega))
    · exact Lib.hid (qExt_swap base w q _ _ l tn 0 m h (by omega) (by omega) (by omega))
  have CD := Lib.hid (fun (w1 : World) hq => qExt_down base less fn R w1 q (.slice (some ⟨g, 0, none⟩) (m + 1) c) (swapL zeroExt l 0 m) tn m hq (by rw [swapL_len]; omega) (by rw [swapL_len]; exact hcap))
  have hlp : (downL zeroExt (ltT less) (swapL zeroExt l 0 m) 0 m).length = m + 1 := by
    have := (downL_perm (d := zeroExt) (lt := ltT less) (swapL zeroExt l 0 m) 0 m (by rw [swapL_len]; omega)).length_eq
    rw [this, swapL_len]; exact hl
  rw [← hpop] at CD hlp
  have CT := Lib.hid (fun (w1 : World) hq => qExt_take base w1 q g c m (.func (.func fn) #[] #[]) (popL zeroExt (ltT less) l) tn hq hlp)
  have hm : m ≤ 4000000000 := by omega
  have hs0 := h.lt
  clear h hl hpop hlp
  generalize popL zeroExt (ltT less) l = P at *
  go_enter Try.func54, Try.ntmps54
  go_wp2_with fail
  refine CL.out.mono ?_
  rintro e w1 ⟨rfl, rfl⟩
  go_wp2_with fail
  refine CS.out.mono ?_
  rintro e w2 ⟨rfl, hq2, hc2⟩
  have HQ2 := Lib.hid hq2
  have HC2 := Lib.hid hc2
  clear hq2 hc2
  go_wp2_with fail
  refine (CD.out _ HQ2.out).mono ?_
  rintro e w3 ⟨⟨b, rfl⟩, hq3, hc3⟩
  have HQ3 := Lib.hid hq3
  have HC3 := Lib.hid (HC2.out.trans' hc3 (fun k _ h => h))
  clear hq3 hc3
  go_wp2_with fail
  refine (CT.out _ HQ3.out).mono ?_
  rintro e w4 ⟨rfl, hL⟩
  have HL1 := Lib.hid hL.1
  have HL2 := Lib.hid (HC3.out.trans' hL.2 (fun k _ h => h))
  clear hL
  go_wp2
  go_ret
  exact ⟨rfl, HL1.out, HL2.out⟩

theorem qExt_new (fn : Nat) (w : World) :
    Calls Try.prog 25 #[.func (.func fn) #[] #[]] w fun e w' => e = .returned (.pointer (some ⟨w.heap.size, 0, none⟩)) ∧ QAtExt w.heap.size w' w.heap.size (.slice none 0 0) (.func (.func fn) #[] #[]) [] 0 ∧ Below w.heap.size w w' := by
  go_enter Try.func25, Try.ntmps25
  go_wp2
  go_ret
  exact ⟨rfl, ⟨heap_alloc_new _ _, World.ownsRow_nil _ _ _ _, Nat.le_refl _, fun j hj => by simp [Value.ownBlock] at hj⟩, below1 _ _⟩
theorem qExt_qlen (base : Nat) (w : World) (q : Nat) (v lf : Value) (l : List (Ext × Nat)) (tn : Nat) (h : QAtExt base w q v lf l tn) :
    Calls Try.prog 46 #[.pointer (some ⟨q, 0, none⟩)] w fun e w' => e = .returned (.int .i64 (l.length : Int)) ∧ w = w' := by
  have C := Lib.hid (qExt_len base w q v lf l tn h)
  clear h
  go_enter Try.func46, Try.ntmps46
  go_wp2_with fail
  refine C.out.mono ?_
  rintro e w1 ⟨rfl, rfl⟩
  go_wp2
  go_ret
  exact ⟨rfl, rfl⟩
end Go.Proofs.Ytmipfmeafbeegaa
