/- Contracts: dunnageref05.in, Region, Logic: of what region a sector is, and which place. -/
import Derived.Test.YthjbjlokpcpceaaRedo
namespace Go.Proofs.Ythjbjlokpcpceaa
open Go.RowKit
set_option linter.unusedVariables false

theorem in_true (a f k : Int) (w : World) (h1 : f ≤ a) (h2 : a < f + k) (h3 : 0 ≤ f) (h4 : f ≤ 1000000) (h5 : 0 ≤ k) (h6 : k ≤ 10000000) :
    Calls Try.prog 37 #[.int .i64 a, .int .i64 f, .int .i64 k] w fun e w' => e = .returned (.bool true) ∧ w = w' := by
  go_enter Try.func37, Try.ntmps37
  go_wp2
  go_ret
  exact ⟨bool_ (by first | omega | (simp; done) | (simp; omega)), rfl⟩
theorem in_false (a f k : Int) (w : World) (h1 : a < f ∨ f + k ≤ a) (h3 : 0 ≤ f) (h4 : f ≤ 1000000) (h5 : 0 ≤ k) (h6 : k ≤ 10000000) :
    Calls Try.prog 37 #[.int .i64 a, .int .i64 f, .int .i64 k] w fun e w' => e = .returned (.bool false) ∧ w = w' := by
  by_cases h : a < f
  · clear h1
    go_enter Try.func37, Try.ntmps37
    go_wp2
    go_ret
    exact ⟨rfl, rfl⟩
  · have h2 : f + k ≤ a := by omega
    have h3 : f ≤ a := by omega
    clear h1 h
    go_enter Try.func37, Try.ntmps37
    go_wp2
    go_ret
    exact ⟨bool_ (by first | omega | (simp; done) | (simp; omega)), rfl⟩
set_option maxHeartbeats 2000000 in
theorem region_bounce (n s g k : Int) (w : World) (hs : 0 ≤ s) (hs2 : s ≤ 65536) (hg : 0 ≤ g) (hg2 : g ≤ 65536) (h1 : 0 ≤ k) (h2 : k ≤ 9) :
    Calls Try.prog 14 #[.agg #[.int .i64 n, .int .i64 3, .int .i64 13, .int .i64 s, .int .i64 (13 + s), .int .i64 (13 + 2 * s), .int .i64 s, .int .i64 (13 + 3 * s), .int .i64 g], .int .i64 (3 + k)] w fun e w' => e = .returned (.int .i64 3) ∧ Below w.heap.size w w' := by
  have C1 := Lib.hid (fun w1 => in_false (3 + k) 0 2 w1 (by omega) (by omega) (by omega) (by omega) (by omega))
  have C2 := Lib.hid (fun w1 => in_true (3 + k) 3 10 w1 (by omega) (by omega) (by omega) (by omega) (by omega) (by omega))
  have q : ((3 + k : Int) == 2) = false := by rw [beq_eq_false_iff_ne]; omega
  go_enter Try.func14, Try.ntmps14
  go_wp2_with fail
  refine (C1.out _).mono ?_
  rintro e w1 ⟨rfl, rfl⟩
  go_wp2_with fail
  refine (C2.out _).mono ?_
  rintro e w1 ⟨rfl, rfl⟩
  go_wp2
  go_ret
  exact ⟨rfl, below1 _ _⟩
set_option maxHeartbeats 2000000 in
theorem region_seg (n s g at' : Int) (w : World) (hs : 0 ≤ s) (hs2 : s ≤ 65536) (hg : 0 ≤ g) (hg2 : g ≤ 65536) (h1 : 13 + 3 * s ≤ at') (h2 : at' < 13 + 3 * s + g * 32) :
    Calls Try.prog 14 #[.agg #[.int .i64 n, .int .i64 3, .int .i64 13, .int .i64 s, .int .i64 (13 + s), .int .i64 (13 + 2 * s), .int .i64 s, .int .i64 (13 + 3 * s), .int .i64 g], .int .i64 at'] w fun e w' => e = .returned (.int .i64 7) ∧ Below w.heap.size w w' := by
  have C1 := Lib.hid (fun w1 => in_false at' 0 2 w1 (by omega) (by omega) (by omega) (by omega) (by omega))
  have C2 := Lib.hid (fun w1 => in_false at' 3 10 w1 (by omega) (by omega) (by omega) (by omega) (by omega))
  have C3 := Lib.hid (fun w1 => in_false at' 13 s w1 (by omega) (by omega) (by omega) (by omega) (by omega))
  have C4 := Lib.hid (fun w1 => in_false at' (13 + s) s w1 (by omega) (by omega) (by omega) (by omega) (by omega))
  have C5 := Lib.hid (fun w1 => in_false at' (13 + 2 * s) s w1 (by omega) (by omega) (by omega) (by omega) (by omega))
  have C6 := Lib.hid (fun w1 => in_true at' (13 + 3 * s) (g * 32) w1 (by omega) (by omega) (by omega) (by omega) (by omega) (by omega))
  have q : ((at' : Int) == 2) = false := by rw [beq_eq_false_iff_ne]; omega
  go_enter Try.func14, Try.ntmps14
  go_wp2_with fail
  refine (C1.out _).mono ?_
  rintro e w1 ⟨rfl, rfl⟩
  go_wp2_with fail
  refine (C2.out _).mono ?_
  rintro e w1 ⟨rfl, rfl⟩
  go_wp2_with fail
  refine (C3.out _).mono ?_
  rintro e w1 ⟨rfl, rfl⟩
  go_wp2_with fail
  refine (C4.out _).mono ?_
  rintro e w1 ⟨rfl, rfl⟩
  go_wp2_with fail
  refine (C5.out _).mono ?_
  rintro e w1 ⟨rfl, rfl⟩
  go_wp2_with fail
  refine (C6.out _).mono ?_
  rintro e w1 ⟨rfl, rfl⟩
  go_wp2
  go_ret
  exact ⟨rfl, below1 _ _⟩
set_option maxHeartbeats 2000000 in
theorem logic_bounce (n s g k : Int) (w : World) (hs : 0 ≤ s) (hs2 : s ≤ 65536) (hg : 0 ≤ g) (hg2 : g ≤ 65536) (h1 : 0 ≤ k) (h2 : k ≤ 9) :
    Calls Try.prog 13 #[.agg #[.int .i64 n, .int .i64 3, .int .i64 13, .int .i64 s, .int .i64 (13 + s), .int .i64 (13 + 2 * s), .int .i64 s, .int .i64 (13 + 3 * s), .int .i64 g], .int .i64 (3 + k)] w fun e w' => e = .returned (.tuple #[.int .i64 0, .bool false]) ∧ Below w.heap.size w w' := by
  have C1 := Lib.hid (fun w1 => region_bounce n s g k w1 hs hs2 hg hg2 h1 h2)
  go_enter Try.func13, Try.ntmps13
  go_wp2_with fail
  refine (C1.out _).mono ?_
  rintro e w1 ⟨rfl, hb⟩
  have HB := Lib.hid ((below1 w _).trans (hb.mono (by simp)))
  clear hb
  go_wp2
  go_ret2
  exact ⟨rfl, HB.out⟩
set_option maxHeartbeats 2000000 in
theorem logic_seg (n s g a : Int) (w : World) (hs : 0 ≤ s) (hs2 : s ≤ 65536) (hg : 0 ≤ g) (hg2 : g ≤ 65536) (h1 : 0 ≤ a) (h2 : a < g * 31) :
    Calls Try.prog 13 #[.agg #[.int .i64 n, .int .i64 3, .int .i64 13, .int .i64 s, .int .i64 (13 + s), .int .i64 (13 + 2 * s), .int .i64 s, .int .i64 (13 + 3 * s), .int .i64 g], .int .i64 (phI (13 + 3 * s) a)] w fun e w' => e = .returned (.tuple #[.int .i64 a, .bool true]) ∧ Below w.heap.size w w' := by
  have hp : phI (13 + 3 * s) a = 13 + 3 * s + a / 31 * 32 + 1 + a % 31 := rfl
  obtain ⟨x, hx⟩ : ∃ x, x = phI (13 + 3 * s) a := ⟨_, rfl⟩
  have C1 := Lib.hid (fun w1 => region_seg n s g x w1 hs hs2 hg hg2 (by omega) (by omega))
  have b1 : 13 + 3 * s ≤ x := by omega
  have b2 : x < 13 + 3 * s + g * 32 := by omega
  have b3 : (x - (13 + 3 * s)) % 32 ≠ 0 := by omega
  have q : (((x - (13 + 3 * s)) % 32 : Int) == 0) = false := by rw [beq_eq_false_iff_ne]; exact b3
  have b4 : (x - (13 + 3 * s)) / 32 * 31 + (x - (13 + 3 * s)) % 32 - 1 = a := by omega
  rw [← hx]
  clear hp hx b3
  have B4 := Lib.hid b4
  clear b4
  go_enter Try.func13, Try.ntmps13
  go_wp2_with fail
  refine (C1.out _).mono ?_
  rintro e w1 ⟨rfl, hb⟩
  have HB := Lib.hid ((below1 w _).trans (hb.mono (by simp)))
  have hc := fun i => hb.cell (p := ⟨w.heap.size, i, none⟩) (by simp)
  have hz : w.heap.size < w1.heap.size := by have := hb.size; simp at this; omega
  clear hb
  go_wp2
  go_ret2
  exact ⟨by rw [← B4.out]; rfl, HB.out⟩
end Go.Proofs.Ythjbjlokpcpceaa
