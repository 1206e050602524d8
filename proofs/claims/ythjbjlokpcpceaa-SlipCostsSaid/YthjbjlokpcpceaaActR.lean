/- Contracts: two lists of acts, held against each other; two acts. -/
import Derived.Test.YthjbjlokpcpceaaStr
import Derived.Test.YthjbjlokpcpceaaMay
import Derived.StillTailTactics
namespace Go.Proofs.Ythjbjlokpcpceaa
open Go.RowKit
set_option linter.unusedVariables false

/-- An act as cells. -/
def actR (k f t : Int) (b : Bool) (s f' t' n : Int) : List Value := [.int .i64 k, .int .i64 f, .int .i64 t, .bool b, .int .u64 s, .int .i64 f', .int .i64 t', .int .i64 n]
def IsAct (r : List Value) : Prop := ∃ k f t b s f' t' n, r = actR k f t b s f' t' n
theorem IsAct.len {r : List Value} (h : IsAct r) : r.length = 8 := by obtain ⟨k, f, t, b, s, f', t', n, rfl⟩ := h; rfl

set_option maxRecDepth 100000 in
set_option maxHeartbeats 1000000 in
theorem act_same (k f t : Int) (b : Bool) (s f' t' n : Int) (w : World) :
    Calls Try.prog 36 #[.agg #[.int .i64 k, .int .i64 f, .int .i64 t, .bool b, .int .u64 s, .int .i64 f', .int .i64 t', .int .i64 n], .agg #[.int .i64 k, .int .i64 f, .int .i64 t, .bool b, .int .u64 s, .int .i64 f', .int .i64 t', .int .i64 n]] w fun e w' => e = .returned (.bool true) ∧ Below w.heap.size w w' := by
  go_enter Try.func36, Try.ntmps36
  go_wp2
  go_ret
  exact ⟨rfl, below2 _ _ _⟩

theorem act_srow {w : World} {A : Option Addr} {rows : List (List Value)} (h : Rd w A rows.flatten) (hk : ∀ r ∈ rows, IsAct r) {j : Nat} (hj : j < rows.length) : ∃ b o, A = some ⟨b, o, none⟩ ∧ b < w.heap.size ∧ w.rangeAt b (o + j * 8) rows[j] := by
  have hk' : ∀ r ∈ rows, r.length = 8 := fun r hr => (hk r hr).len
  obtain ⟨b, o, hA, hr⟩ := h.at_row hk' (by decide) (List.getElem?_eq_getElem hj)
  refine ⟨b, o, hA, ?_, hr⟩
  have hl := hk' _ (List.getElem_mem hj)
  exact World.block_lt_of_cell? w ⟨b, o + j * 8 + 0, none⟩ (hr 0 (rows[j][0]'(by omega)) (List.getElem?_eq_getElem (by omega)))
set_option maxRecDepth 100000 in
set_option maxHeartbeats 2000000 in
theorem act_sameL (A : Option Addr) (n c : Nat) (rows : List (List Value)) (B : Option Addr) (d : Nat) (w : World) (hn : rows.length = n) (h : Rd w A rows.flatten) (h' : Rd w B rows.flatten) (hk : ∀ r ∈ rows, IsAct r) (hnb : n ≤ 4611686018427387904) :
    Calls Try.prog 35 #[.slice A n c, .slice B n d, .func (.func 36) #[] #[]] w fun e w' => e = .returned (.bool true) ∧ Below w.heap.size w w' := by
  have q1 : ((n : Int) != (n : Int)) = false := by simp
  have HN := Lib.hid hn
  have HK := Lib.hid hk
  have HR := Lib.hid h
  have HR' := Lib.hid h'
  clear hn hk h h'
  go_enter Try.func35, Try.ntmps35
  go_wp2_with fail
  go_loopw [7] (fun i wr => ∃ j : Nat, j ≤ n ∧ i = .int .i64 j ∧ Below w.heap.size w wr) (fun i _ => n - (intOf i).toNat)
  case atStart => exact ⟨0, by omega, rfl, Below.refl _ _⟩
  case round =>
    obtain ⟨j, hj, rfl, hb⟩ := hrel
    by_cases hlt : j < n
    · have hjv : j < rows.length := by have := HN.out; omega
      obtain ⟨b, o, rfl, hbl, hr⟩ := act_srow (HR.out.kept hb) HK.out hjv
      obtain ⟨b', o', rfl, hbl', hr'⟩ := act_srow (HR'.out.kept hb) HK.out hjv
      have hsh := HK.out _ (List.getElem_mem hjv)
      have HB := Lib.hid hb
      clear hb
      generalize rows[j] = r at *
      clear hjv
      obtain ⟨x0, x1, x2, x3, x4, x5, x6, x7, rfl⟩ := hsh
      have c0 := hr 0 _ rfl
      have d0 := hr' 0 _ rfl
      have c1 := hr 1 _ rfl
      have d1 := hr' 1 _ rfl
      have c2 := hr 2 _ rfl
      have d2 := hr' 2 _ rfl
      have c3 := hr 3 _ rfl
      have d3 := hr' 3 _ rfl
      have c4 := hr 4 _ rfl
      have d4 := hr' 4 _ rfl
      have c5 := hr 5 _ rfl
      have d5 := hr' 5 _ rfl
      have c6 := hr 6 _ rfl
      have d6 := hr' 6 _ rfl
      have c7 := hr 7 _ rfl
      have d7 := hr' 7 _ rfl
      simp only [Nat.add_zero] at c0 d0
      have C := Lib.hid (fun w1 => act_same x0 x1 x2 x3 x4 x5 x6 x7 w1)
      clear hr hr'
      have b1 : (0 : Int) ≤ (j : Int) ∧ (j : Int) < (n : Int) := by omega
      go_wp2_with fail
      go_still_tail 9, (by kernel_rfl)
      change wpList _ _ _ _ _ wr.drew
      go_wp2_with fail
      refine (C.out _).mono ?_
      rintro e w2 ⟨rfl, hb2⟩
      have HB2 := Lib.hid (HB.out.drew.trans (hb2.mono HB.out.drew.size))
      clear hb2 c0 d0 c1 d1 c2 d2 c3 d3 c4 d4 c5 d5 c6 d6 c7 d7
      go_wp2
      go_roundw
      case rel => exact ⟨j + 1, by omega, by go_num, HB2.out⟩
      case measure => simp [intOf]; omega
    · obtain rfl : j = n := by omega
      go_wp2
      go_ret
      exact ⟨rfl, hb⟩
theorem act_plain (A : Option Addr) (n c : Nat) (rows : List (List Value)) (B : Option Addr) (d : Nat) (w : World) (hn : rows.length = n) (h : Rd w A rows.flatten) (h' : Rd w B rows.flatten) (hk : ∀ r ∈ rows, IsAct r) (hnb : n ≤ 4611686018427387904) :
    Calls Try.prog 12 #[.slice A n c, .slice B n d] w fun e w' => e = .returned (.bool true) ∧ Below w.heap.size w w' := by
  have C := Lib.hid (act_sameL A n c rows B d w hn h h' hk hnb)
  clear h h' hn hk
  go_enter Try.func12, Try.ntmps12
  go_wp2_with fail
  refine C.out.mono ?_
  rintro e w1 ⟨rfl, hb⟩
  go_wp2
  go_ret
  exact ⟨rfl, hb⟩

end Go.Proofs.Ythjbjlokpcpceaa
