/- Contracts: which moves may be, the program's and the reference's; whatever is handed in. -/
import Derived.Test.YthjbjlokpcpceaaLay
namespace Go.Proofs.Ythjbjlokpcpceaa
open Go.RowKit
set_option linter.unusedVariables false

def oneB (C s a n : Int) : Bool := decide (0 ≤ C ∧ C ≤ 65536 ∧ 1 ≤ s ∧ 1 ≤ n ∧ n ≤ 9 ∧ 0 ≤ a ∧ a ≤ C - n)
def mayB (C s f t n : Int) : Bool := decide (f ≠ t) && oneB C s f n && oneB C s t n
theorem mayB_iff (C s f t n : Int) : mayB C s f t n = true ↔ (f ≠ t ∧ 0 ≤ C ∧ C ≤ 65536 ∧ 1 ≤ s ∧ 1 ≤ n ∧ n ≤ 9 ∧ 0 ≤ f ∧ f ≤ C - n ∧ 0 ≤ t ∧ t ≤ C - n) := by
  unfold mayB oneB
  simp only [Bool.and_eq_true, decide_eq_true_eq]
  omega
theorem bool_ {a b : Bool} (h : a = true ↔ b = true) : Ending.returned (.bool a) = .returned (.bool b) := by rw [Bool.eq_iff_iff.2 h]

set_option maxHeartbeats 2000000 in
theorem may_true (C s f t n : Int) (w : World) (h : mayB C s f t n = true) :
    Calls Try.prog 23 #[.int .i64 C, .agg #[.int .u64 s, .int .i64 f, .int .i64 t, .int .i64 n]] w fun e w' => e = .returned (.bool true) ∧ Below w.heap.size w w' := by
  obtain ⟨h0, h1, h2, h3, h4, h5, h6, h7, h8, h9⟩ := (mayB_iff C s f t n).1 h
  have q : (f == t) = false := by simpa using h0
  clear h h0
  go_enter Try.func23, Try.ntmps23
  go_wp2
  go_ret
  exact ⟨rfl, below1 _ _⟩
set_option maxHeartbeats 2000000 in
theorem may_false (C s f t n : Int) (w : World) (hC : 0 ≤ C) (hC2 : C ≤ 65536) (h : mayB C s f t n = false) :
    Calls Try.prog 23 #[.int .i64 C, .agg #[.int .u64 s, .int .i64 f, .int .i64 t, .int .i64 n]] w fun e w' => e = .returned (.bool false) ∧ Below w.heap.size w w' := by
  have hn : ¬ (f ≠ t ∧ 0 ≤ C ∧ C ≤ 65536 ∧ 1 ≤ s ∧ 1 ≤ n ∧ n ≤ 9 ∧ 0 ≤ f ∧ f ≤ C - n ∧ 0 ≤ t ∧ t ≤ C - n) := by
    rw [← mayB_iff, h]; simp
  clear h
  by_cases hs : 1 ≤ s
  · by_cases hn1 : 1 ≤ n
    · by_cases hn2 : n ≤ 9
      · by_cases hft : f = t
        · have q : (f == t) = true := by simpa using hft
          have hft' := Lib.hid hft
          clear hft hn
          go_enter Try.func23, Try.ntmps23
          go_wp2
          go_ret
          exact ⟨rfl, below1 _ _⟩
        · have q : (f == t) = false := by simpa using hft
          by_cases c1 : 0 ≤ f
          · by_cases c2 : f ≤ C - n
            · by_cases c3 : 0 ≤ t
              · have c4 : C - n < t := by omega
                clear hn hft
                go_enter Try.func23, Try.ntmps23
                go_wp2
                go_ret
                exact ⟨bool_ (by simp; omega), below1 _ _⟩
              · have c3' : t < 0 := by omega
                clear hn hft c3
                go_enter Try.func23, Try.ntmps23
                go_wp2
                go_ret
                exact ⟨rfl, below1 _ _⟩
            · have c3' : C - n < f := by omega
              clear hn hft c2
              go_enter Try.func23, Try.ntmps23
              go_wp2
              go_ret
              exact ⟨rfl, below1 _ _⟩
          · have c3' : f < 0 := by omega
            clear hn hft c1
            go_enter Try.func23, Try.ntmps23
            go_wp2
            go_ret
            exact ⟨rfl, below1 _ _⟩
      · have c3' : 9 < n := by omega
        clear hn hn2
        go_enter Try.func23, Try.ntmps23
        go_wp2
        go_ret
        exact ⟨rfl, below1 _ _⟩
    · have c3' : n < 1 := by omega
      clear hn hn1
      go_enter Try.func23, Try.ntmps23
      go_wp2
      go_ret
      exact ⟨rfl, below1 _ _⟩
  · have c3' : s < 1 := by omega
    clear hn hs
    go_enter Try.func23, Try.ntmps23
    go_wp2
    go_ret
    exact ⟨rfl, below1 _ _⟩

set_option maxHeartbeats 2000000 in
theorem one_any (C s a n : Int) (w : World) (hC : 0 ≤ C) (hC2 : C ≤ 65536) :
    Calls Try.prog 51 #[.int .i64 C, .agg #[.int .u64 s, .int .i64 a, .int .i64 n]] w fun e w' => e = .returned (.bool (oneB C s a n)) ∧ Below w.heap.size w w' := by
  by_cases hs : 1 ≤ s
  · by_cases hn1 : 1 ≤ n
    · by_cases hn2 : n ≤ 9
      · by_cases c1 : 0 ≤ a
        · by_cases c2 : a ≤ C
          · go_enter Try.func51, Try.ntmps51
            go_wp2
            go_ret
            exact ⟨bool_ (by unfold oneB; simp; omega), below1 _ _⟩
          · have c3' : C < a := by omega
            clear c2
            go_enter Try.func51, Try.ntmps51
            go_wp2
            go_ret
            exact ⟨bool_ (by unfold oneB; simp; omega), below1 _ _⟩
        · have c3' : a < 0 := by omega
          clear c1
          go_enter Try.func51, Try.ntmps51
          go_wp2
          go_ret
          exact ⟨bool_ (by unfold oneB; simp; omega), below1 _ _⟩
      · have c3' : 9 < n := by omega
        clear hn2
        go_enter Try.func51, Try.ntmps51
        go_wp2
        go_ret
        exact ⟨bool_ (by unfold oneB; simp; omega), below1 _ _⟩
    · have c3' : n < 1 := by omega
      clear hn1
      go_enter Try.func51, Try.ntmps51
      go_wp2
      go_ret
      exact ⟨bool_ (by unfold oneB; simp; omega), below1 _ _⟩
  · have c3' : s < 1 := by omega
    clear hs
    go_enter Try.func51, Try.ntmps51
    go_wp2
    go_ret
    exact ⟨bool_ (by unfold oneB; simp; omega), below1 _ _⟩

set_option maxHeartbeats 2000000 in
theorem refmay_any (C s f t n : Int) (w : World) (hC : 0 ≤ C) (hC2 : C ≤ 65536) :
    Calls Try.prog 28 #[.int .i64 C, .agg #[.int .u64 s, .int .i64 f, .int .i64 t, .int .i64 n]] w fun e w' => e = .returned (.bool (mayB C s f t n)) ∧ Below w.heap.size w w' := by
  have C1 := Lib.hid (fun w1 => one_any C s f n w1 hC hC2)
  have C2 := Lib.hid (fun w1 => one_any C s t n w1 hC hC2)
  by_cases hft : f = t
  · have q : (f != t) = false := by simpa using hft
    have hm : mayB C s f t n = false := by unfold mayB; simp [hft]
    have HM := Lib.hid hm
    clear hft hm
    go_enter Try.func28, Try.ntmps28
    go_wp2
    go_ret
    exact ⟨by rw [HM.out]; rfl, below1 _ _⟩
  · have q : (f != t) = true := by simpa using hft
    have hm : mayB C s f t n = (oneB C s f n && oneB C s t n) := by unfold mayB; simp [hft]
    have HM := Lib.hid hm
    clear hft hm
    cases ho : oneB C s f n with
    | false =>
      rw [ho] at C1
      have HO := Lib.hid ho
      clear ho
      go_enter Try.func28, Try.ntmps28
      go_wp2_with fail
      refine (C1.out _).mono ?_
      rintro e w1 ⟨rfl, hb⟩
      have HB := Lib.hid ((below1 w _).trans (hb.mono (by simp)))
      clear hb
      go_wp2
      go_ret
      exact ⟨by rw [HM.out, HO.out]; rfl, HB.out⟩
    | true =>
      rw [ho] at C1
      have HO := Lib.hid ho
      clear ho
      go_enter Try.func28, Try.ntmps28
      go_wp2_with fail
      refine (C1.out _).mono ?_
      rintro e w1 ⟨rfl, hb⟩
      have HB := Lib.hid ((below1 w _).trans (hb.mono (by simp)))
      have hc := fun i => hb.cell (p := ⟨w.heap.size, i, none⟩) (by simp)
      have hz : w.heap.size < w1.heap.size := by have := hb.size; simp at this; omega
      clear hb
      go_wp2_with fail
      refine (C2.out _).mono ?_
      rintro e w2 ⟨rfl, hb⟩
      have HB2 := Lib.hid (HB.out.trans (hb.mono HB.out.size))
      clear hb
      generalize oneB C s t n = o2 at *
      go_wp2
      go_ret
      exact ⟨by rw [HM.out, HO.out]; rfl, HB2.out⟩
end Go.Proofs.Ythjbjlokpcpceaa
