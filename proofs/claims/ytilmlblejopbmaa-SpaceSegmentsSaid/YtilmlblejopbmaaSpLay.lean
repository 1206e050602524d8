/- Contracts: the layout of a device, the program's and the reference's; Capacity. -/
import Derived.Test.YtilmlblejopbmaaSpVoc
import Derived.IntWalk
import Derived.Laws.StructEq
import Derived.ChangeKeysEq
namespace Go.Proofs.Ytilmlblejopbmaa
open Go.RowKit
set_option linter.unusedVariables false

theorem info_int : (Try.prog.info? 3).map (fun i => (i.zero, i.size, i.bytes)) = some (some (.int .i64 0), 1, 8) := by kernel_rfl
/-- Two pairs of numbers. -/
theorem arr2_eq (d : Nat) (w : World) (a b a' b' : Int) : (Op.equalIn (d + 2) 36 (.agg #[.int .i64 a, .int .i64 b]) (.agg #[.int .i64 a', .int .i64 b'])).run Try.prog w = .ok (a == a' && b == b') w := by
  have h1 : Try.prog.underlying 36 = some (.array 2 3) := by kernel_rfl
  obtain ⟨i0, hi, hz0, hz1, hz2⟩ := info_parts info_int
  have hc : Try.prog.cellsOf 3 = 1 := by kernel_rfl
  rw [run_equalIn_array w (d + 1) _ _ h1 hi, hc]
  have hr : List.range 2 = [0, 1] := rfl
  rw [hr]
  simp only [Op.eqItems]
  by_cases h : a = a' <;> by_cases h' : b = b' <;> simp [go_sem, h, h']
/-- A layout is alike itself. -/
theorem lay_eq (w : World) (a0 a1 a2 a3 a4 a5 a6 a7 a8 : Int) : (binOp .eql 38 (.agg #[.int .i64 a0, .int .i64 a1, .int .i64 a2, .int .i64 a3, .int .i64 a4, .int .i64 a5, .int .i64 a6, .int .i64 a7, .int .i64 a8]) (.agg #[.int .i64 a0, .int .i64 a1, .int .i64 a2, .int .i64 a3, .int .i64 a4, .int .i64 a5, .int .i64 a6, .int .i64 a7, .int .i64 a8])).run Try.prog w = .ok (.bool true) w := by
  have h := arr2_eq
  simp [go_sem, h]

theorem lay_neq (w : World) (a0 a1 a2 a3 a4 a5 a6 a7 a8 : Int) : (binOp .neq 38 (.agg #[.int .i64 a0, .int .i64 a1, .int .i64 a2, .int .i64 a3, .int .i64 a4, .int .i64 a5, .int .i64 a6, .int .i64 a7, .int .i64 a8]) (.agg #[.int .i64 a0, .int .i64 a1, .int .i64 a2, .int .i64 a3, .int .i64 a4, .int .i64 a5, .int .i64 a6, .int .i64 a7, .int .i64 a8])).run Try.prog w = .ok (.bool false) w := by
  have h := arr2_eq
  simp [go_sem, h]
set_option maxHeartbeats 1000000 in
theorem refplan_ok (n s g : Int) (w : World) (h1 : 256 ≤ n) (h2 : n ≤ 65536) (hs : s = (n - 13) / 8) (hg : g = (n - (13 + 3 * s)) / 32) :
    Calls Try.prog 18 #[.int .i64 n] w fun e w' => e = .returned (.tuple #[.agg #[.int .i64 n, .int .i64 3, .int .i64 13, .int .i64 s, .int .i64 (13 + s), .int .i64 (13 + 2 * s), .int .i64 s, .int .i64 (13 + 3 * s), .int .i64 g], .int .i64 0]) ∧ Below w.heap.size w w' := by
  have b1 : 0 ≤ s := by omega
  have b2 : s ≤ 8191 := by omega
  have e1 : (n - 13) / 8 = s := hs.symm
  have e2 : (n - (13 + 3 * s)) / 32 = g := hg.symm
  clear hs hg
  go_enter Try.func18, Try.ntmps18
  go_wp2
  refine bodyPost_ret (v := .tuple #[.agg #[.int .i64 n, .int .i64 3, .int .i64 13, .int .i64 s, .int .i64 (13 + s), .int .i64 (13 + 2 * s), .int .i64 s, .int .i64 (13 + 3 * s), .int .i64 g], .int .i64 0]) (by simp [results, Try.results18, go_sem]) rfl ⟨rfl, below2 _ _ _⟩

set_option maxHeartbeats 1000000 in
theorem refplan_bad (n : Int) (w : World) (h : n < 256 ∨ 65536 < n) :
    Calls Try.prog 18 #[.int .i64 n] w fun e w' => e = .returned (.tuple #[.agg #[.int .i64 0, .int .i64 0, .int .i64 0, .int .i64 0, .int .i64 0, .int .i64 0, .int .i64 0, .int .i64 0, .int .i64 0], .int .i64 1]) ∧ Below w.heap.size w w' := by
  rcases h with h | h
  · go_enter Try.func18, Try.ntmps18
    go_wp2
    refine bodyPost_ret (v := .tuple #[.agg #[.int .i64 0, .int .i64 0, .int .i64 0, .int .i64 0, .int .i64 0, .int .i64 0, .int .i64 0, .int .i64 0, .int .i64 0], .int .i64 1]) (by simp [results, Try.results18, go_sem]) rfl ⟨rfl, below1 _ _⟩
  · have h' : 256 ≤ n := by omega
    go_enter Try.func18, Try.ntmps18
    go_wp2
    refine bodyPost_ret (v := .tuple #[.agg #[.int .i64 0, .int .i64 0, .int .i64 0, .int .i64 0, .int .i64 0, .int .i64 0, .int .i64 0, .int .i64 0, .int .i64 0], .int .i64 1]) (by simp [results, Try.results18, go_sem]) rfl ⟨rfl, below1 _ _⟩

set_option maxHeartbeats 1000000 in
theorem plan_ok (n s g : Int) (w : World) (h1 : 256 ≤ n) (h2 : n ≤ 65536) (hs : s = (n - 13) / 8) (hg : g = (n - (13 + 3 * s)) / 32) :
    Calls Try.prog 47 #[.int .i64 n] w fun e w' => e = .returned (.tuple #[.agg #[.int .i64 n, .int .i64 3, .int .i64 13, .int .i64 s, .int .i64 (13 + s), .int .i64 (13 + 2 * s), .int .i64 s, .int .i64 (13 + 3 * s), .int .i64 g], .int .i64 0]) ∧ Below w.heap.size w w' := by
  have b1 : 0 ≤ s := by omega
  have b2 : s ≤ 8191 := by omega
  have e1 : (n - 13) / 8 = s := hs.symm
  have e2 : (n - (13 + 3 * s)) / 32 = g := hg.symm
  clear hs hg
  go_enter Try.func47, Try.ntmps47
  go_wp2
  refine bodyPost_ret (v := .tuple #[.agg #[.int .i64 n, .int .i64 3, .int .i64 13, .int .i64 s, .int .i64 (13 + s), .int .i64 (13 + 2 * s), .int .i64 s, .int .i64 (13 + 3 * s), .int .i64 g], .int .i64 0]) (by simp [results, Try.results47, go_sem]) rfl ⟨rfl, below1 _ _⟩

theorem capacity_any (a0 a1 a2 a3 a4 a5 a6 a7 g : Int) (w : World) (h : 0 ≤ g) (h2 : g ≤ 65536) :
    Calls Try.prog 48 #[.agg #[.int .i64 a0, .int .i64 a1, .int .i64 a2, .int .i64 a3, .int .i64 a4, .int .i64 a5, .int .i64 a6, .int .i64 a7, .int .i64 g]] w fun e w' => e = .returned (.int .i64 (g * 31)) ∧ Below w.heap.size w w' := by
  go_enter Try.func48, Try.ntmps48
  go_wp2
  go_ret
  exact ⟨rfl, below1 _ _⟩
theorem refcapacity_any (a0 a1 a2 a3 a4 a5 a6 a7 g : Int) (w : World) (h : 0 ≤ g) (h2 : g ≤ 65536) :
    Calls Try.prog 19 #[.agg #[.int .i64 a0, .int .i64 a1, .int .i64 a2, .int .i64 a3, .int .i64 a4, .int .i64 a5, .int .i64 a6, .int .i64 a7, .int .i64 g]] w fun e w' => e = .returned (.int .i64 (g * 31)) ∧ Below w.heap.size w w' := by
  go_enter Try.func19, Try.ntmps19
  go_wp2
  go_ret
  exact ⟨rfl, below1 _ _⟩
end Go.Proofs.Ytilmlblejopbmaa
