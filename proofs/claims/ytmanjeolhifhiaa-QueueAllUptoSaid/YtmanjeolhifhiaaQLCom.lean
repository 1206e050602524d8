/- What the laws over queues use: below ranks items by their numbers; law.awake answers true. -/
import Derived.Test.YtmanjeolhifhiaaQItmUse
namespace Go.Proofs.Ytmanjeolhifhiaa
open Go.RowKit
set_option linter.unusedVariables false

def lessI (x y : Itm) : Bool := decide (x.1 < y.1)
theorem swoI : Swo lessI := by
  refine ⟨?_, ?_⟩
  · intro x y h; simp [lessI] at *; omega
  · intro x y z h1 h2; simp [lessI] at *; omega
theorem below_any (x y : Itm) (w : World) :
    Calls Try.prog 22 #[.agg #[.int .i64 x.1, .string x.2], .agg #[.int .i64 y.1, .string y.2]] w fun e w' => e = .returned (.bool (lessI x y)) ∧ Below w.heap.size w w' := by
  go_enter Try.func22, Try.ntmps22
  go_wp2
  go_ret
  exact ⟨rfl, below2 _ _ _⟩
theorem ranksI : RanksItm lessI 22 :=
  ⟨enters_of Try.func22 (by kernel_rfl) rfl, fun x y w1 => below_any x y w1⟩
def itmB : Itm := (2, ⟨#[98]⟩)
def itmA : Itm := (1, ⟨#[97]⟩)
set_option maxRecDepth 100000 in
set_option maxHeartbeats 2000000 in
theorem awake08 (w : World) : Calls Try.prog 15 #[] w fun e w' => e = .returned (.bool true) ∧ Below w.heap.size w w' := by
  have C1 := Lib.hid (fun w1 => qItm_new2 lessI 22 w1)
  have C2 : Hid (∀ (base : Nat) (w1 : World) (q : Nat) (v : Value) (S : List (Itm × Nat)) (tn : Nat), QIsItm base lessI 22 q v S tn w1 → S.length + 1 ≤ 4000000000 → tn ≤ 4000000000 → base ≤ w1.heap.size → Calls Try.prog 18 #[.pointer (some ⟨q, 0, none⟩), .agg #[.int .i64 2, .string ⟨#[98]⟩]] w1 fun e w' => e = .returned (.int .i64 0) ∧ ∃ v', QIsItm base lessI 22 q v' (insT lessI (itmB, tn) S) (tn + 1) w' ∧ Chg (QBlk q v) w1 w' ∧ FreshItm w1 v v') := Lib.hid (fun base w1 q v S tn h1 h2 h3 h4 => qItm_push2 base lessI swoI _ ranksI w1 q v S tn itmB h1 h2 h3 h4)
  have C3 : Hid (∀ (base : Nat) (w1 : World) (q : Nat) (v : Value) (S : List (Itm × Nat)) (tn : Nat), QIsItm base lessI 22 q v S tn w1 → S.length + 1 ≤ 4000000000 → tn ≤ 4000000000 → base ≤ w1.heap.size → Calls Try.prog 18 #[.pointer (some ⟨q, 0, none⟩), .agg #[.int .i64 1, .string ⟨#[97]⟩]] w1 fun e w' => e = .returned (.int .i64 0) ∧ ∃ v', QIsItm base lessI 22 q v' (insT lessI (itmA, tn) S) (tn + 1) w' ∧ Chg (QBlk q v) w1 w' ∧ FreshItm w1 v v') := Lib.hid (fun base w1 q v S tn h1 h2 h3 h4 => qItm_push2 base lessI swoI _ ranksI w1 q v S tn itmA h1 h2 h3 h4)
  have C4 : Hid (∀ (base : Nat) (w1 : World) (q : Nat) (v : Value) (tn : Nat), QIsItm base lessI 22 q v [(itmA, 1), (itmB, 0)] tn w1 → Calls Try.prog 21 #[.pointer (some ⟨q, 0, none⟩)] w1 fun e w' => e = .returned (.tuple #[.agg #[.int .i64 1, .string ⟨#[97]⟩], .bool true]) ∧ ∃ v', QIsItm base lessI 22 q v' [(itmB, 0)] tn w' ∧ Chg (QBlk q v) w1 w' ∧ FreshItm w1 v v') := Lib.hid (fun base w1 q v tn h1 => qItm_pop2 base lessI swoI _ ranksI w1 q v (itmA, 1) [(itmB, 0)] tn h1 (by decide))
  have C5 : Hid (∀ (base : Nat) (w1 : World) (q : Nat) (v : Value) (tn : Nat), QIsItm base lessI 22 q v [(itmB, 0)] tn w1 → Calls Try.prog 23 #[.pointer (some ⟨q, 0, none⟩)] w1 fun e w' => e = .returned (.int .i64 1) ∧ w1 = w') := Lib.hid (fun base w1 q v tn h1 => qItm_qlen2 base lessI _ w1 q v _ tn h1)
  go_enter Try.func15, Try.ntmps15
  go_wp2_with fail
  refine (C1.out _).mono ?_
  rintro e w1 ⟨rfl, hq1, hb1⟩
  have hz1 := hb1.size
  have HQ1 := Lib.hid hq1
  have HB1 := Lib.hid hb1
  clear hq1 hb1
  go_wp2_with fail
  refine (C2.out _ _ _ _ _ _ HQ1.out (by decide) (by decide) hz1).mono ?_
  rintro e w2 ⟨rfl, v2, hq2, hc2, hf2⟩
  have hz2 := hc2.size
  have HQ2 := Lib.hid hq2
  have HB2 := Lib.hid (HB1.out.trans (hc2.below (fun k hk hS => by have := (HQ1.out.lt k hS).1; omega) hz1))
  clear hq2 hc2 hf2
  go_wp2_with fail
  refine (C3.out _ _ _ _ _ _ HQ2.out (by decide) (by decide) (by omega)).mono ?_
  rintro e w3 ⟨rfl, v3, hq3, hc3, hf3⟩
  have hz3 := hc3.size
  have HQ3 : Hid (QIsItm w.heap.size lessI 22 w.heap.size v3 [(itmA, 1), (itmB, 0)] (0 + 1 + 1) w3) := Lib.hid hq3
  have HB3 := Lib.hid (HB2.out.trans (hc3.below (fun k hk hS => by have := (HQ2.out.lt k hS).1; omega) (by omega)))
  clear hq3 hc3 hf3
  go_wp2_with fail
  refine (C4.out _ _ _ _ _ HQ3.out).mono ?_
  rintro e w4 ⟨rfl, v4, hq4, hc4, hf4⟩
  have hz4 := hc4.size
  have HQ4 := Lib.hid hq4
  have HB4 := Lib.hid (HB3.out.trans (hc4.below (fun k hk hS => by have := (HQ3.out.lt k hS).1; omega) (by omega)))
  clear hq4 hc4 hf4
  go_wp2_with fail
  refine (C5.out w.heap.size (w4.alloc (.cells #[.int .i64 1, .string ⟨#[97]⟩] 33)) w.heap.size v4 _ (HQ4.out.kept (below1 _ _))).mono ?_
  rintro e w5 ⟨rfl, rfl⟩
  go_wp2
  go_ret
  exact ⟨rfl, HB4.out.alloc (by omega) _⟩
end Go.Proofs.Ytmanjeolhifhiaa
