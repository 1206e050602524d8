/- Contracts: the layout of a device and the places on it, the program's and the reference's; whatever is handed in. -/
import Derived.Test.YthjbjlokpcpceaaVoc
import Derived.Test.YthjbjlokpcpceaaProg
import Derived.IntWalk
import Derived.Laws.StructEq
import Derived.ChangeKeysEq
namespace Go.Proofs.Ythjbjlokpcpceaa
open Go.RowKit
set_option linter.unusedVariables false

theorem ret_ { a b : Value} (h : a = b) : Ending.returned a = .returned b := by rw [h]
theorem below_of_drew {B : Nat} {a w : World} (h : Below B a.drew w) : Below B a w := ⟨h.os, h.tape, h.output, h.size, h.block⟩
theorem below1 (w : World) (o : Obj) : Below w.heap.size w (w.alloc o) := (Below.refl _ _).alloc (Nat.le_refl _) _
theorem below2 (w : World) (o p : Obj) : Below w.heap.size w ((w.alloc o).alloc p) := ((Below.refl _ _).alloc (Nat.le_refl _) _).alloc (by simp) _
theorem below3 (w : World) (o p q : Obj) : Below w.heap.size w (((w.alloc o).alloc p).alloc q) := (((Below.refl _ _).alloc (Nat.le_refl _) _).alloc (by simp) _).alloc (by simp; omega) _

theorem info_int : (Try.prog.info? 3).map (fun i => (i.zero, i.size, i.bytes)) = some (some (.int .i64 0), 1, 8) := by kernel_rfl
/-- Two pairs of numbers. -/
theorem arr2_eq (d : Nat) (w : World) (a b a' b' : Int) : (Op.equalIn (d + 2) 27 (.agg #[.int .i64 a, .int .i64 b]) (.agg #[.int .i64 a', .int .i64 b'])).run Try.prog w = .ok (a == a' && b == b') w := by
  have h1 : Try.prog.underlying 27 = some (.array 2 3) := by kernel_rfl
  obtain ⟨i0, hi, hz0, hz1, hz2⟩ := info_parts info_int
  have hc : Try.prog.cellsOf 3 = 1 := by kernel_rfl
  rw [run_equalIn_array w (d + 1) _ _ h1 hi, hc]
  have hr : List.range 2 = [0, 1] := rfl
  rw [hr]
  simp only [Op.eqItems]
  by_cases h : a = a' <;> by_cases h' : b = b' <;> simp [go_sem, h, h']
/-- A layout is alike itself. -/
theorem lay_eq (w : World) (a0 a1 a2 a3 a4 a5 a6 a7 a8 : Int) : (binOp .eql 29 (.agg #[.int .i64 a0, .int .i64 a1, .int .i64 a2, .int .i64 a3, .int .i64 a4, .int .i64 a5, .int .i64 a6, .int .i64 a7, .int .i64 a8]) (.agg #[.int .i64 a0, .int .i64 a1, .int .i64 a2, .int .i64 a3, .int .i64 a4, .int .i64 a5, .int .i64 a6, .int .i64 a7, .int .i64 a8])).run Try.prog w = .ok (.bool true) w := by
  have h := arr2_eq
  simp [go_sem, h]

set_option maxHeartbeats 1000000 in
theorem refplan_ok (n s g : Int) (w : World) (h1 : 256 ≤ n) (h2 : n ≤ 65536) (hs : s = (n - 13) / 8) (hg : g = (n - (13 + 3 * s)) / 32) :
    Calls Try.prog 6 #[.int .i64 n] w fun e w' => e = .returned (.tuple #[.agg #[.int .i64 n, .int .i64 3, .int .i64 13, .int .i64 s, .int .i64 (13 + s), .int .i64 (13 + 2 * s), .int .i64 s, .int .i64 (13 + 3 * s), .int .i64 g], .int .i64 0]) ∧ Below w.heap.size w w' := by
  have b1 : 0 ≤ s := by omega
  have b2 : s ≤ 8191 := by omega
  have e1 : (n - 13) / 8 = s := hs.symm
  have e2 : (n - (13 + 3 * s)) / 32 = g := hg.symm
  clear hs hg
  go_enter Try.func6, Try.ntmps6
  go_wp2
  refine bodyPost_ret (v := .tuple #[.agg #[.int .i64 n, .int .i64 3, .int .i64 13, .int .i64 s, .int .i64 (13 + s), .int .i64 (13 + 2 * s), .int .i64 s, .int .i64 (13 + 3 * s), .int .i64 g], .int .i64 0]) (by simp [results, Try.results6, go_sem]) rfl ⟨rfl, below2 _ _ _⟩

set_option maxHeartbeats 1000000 in
theorem refplan_bad (n : Int) (w : World) (h : n < 256 ∨ 65536 < n) :
    Calls Try.prog 6 #[.int .i64 n] w fun e w' => e = .returned (.tuple #[.agg #[.int .i64 0, .int .i64 0, .int .i64 0, .int .i64 0, .int .i64 0, .int .i64 0, .int .i64 0, .int .i64 0, .int .i64 0], .int .i64 1]) ∧ Below w.heap.size w w' := by
  rcases h with h | h
  · go_enter Try.func6, Try.ntmps6
    go_wp2
    refine bodyPost_ret (v := .tuple #[.agg #[.int .i64 0, .int .i64 0, .int .i64 0, .int .i64 0, .int .i64 0, .int .i64 0, .int .i64 0, .int .i64 0, .int .i64 0], .int .i64 1]) (by simp [results, Try.results6, go_sem]) rfl ⟨rfl, below1 _ _⟩
  · have h' : 256 ≤ n := by omega
    go_enter Try.func6, Try.ntmps6
    go_wp2
    refine bodyPost_ret (v := .tuple #[.agg #[.int .i64 0, .int .i64 0, .int .i64 0, .int .i64 0, .int .i64 0, .int .i64 0, .int .i64 0, .int .i64 0, .int .i64 0], .int .i64 1]) (by simp [results, Try.results6, go_sem]) rfl ⟨rfl, below1 _ _⟩

set_option maxHeartbeats 1000000 in
theorem plan_ok (n s g : Int) (w : World) (h1 : 256 ≤ n) (h2 : n ≤ 65536) (hs : s = (n - 13) / 8) (hg : g = (n - (13 + 3 * s)) / 32) :
    Calls Try.prog 49 #[.int .i64 n] w fun e w' => e = .returned (.tuple #[.agg #[.int .i64 n, .int .i64 3, .int .i64 13, .int .i64 s, .int .i64 (13 + s), .int .i64 (13 + 2 * s), .int .i64 s, .int .i64 (13 + 3 * s), .int .i64 g], .int .i64 0]) ∧ Below w.heap.size w w' := by
  have b1 : 0 ≤ s := by omega
  have b2 : s ≤ 8191 := by omega
  have e1 : (n - 13) / 8 = s := hs.symm
  have e2 : (n - (13 + 3 * s)) / 32 = g := hg.symm
  clear hs hg
  go_enter Try.func49, Try.ntmps49
  go_wp2
  refine bodyPost_ret (v := .tuple #[.agg #[.int .i64 n, .int .i64 3, .int .i64 13, .int .i64 s, .int .i64 (13 + s), .int .i64 (13 + 2 * s), .int .i64 s, .int .i64 (13 + 3 * s), .int .i64 g], .int .i64 0]) (by simp [results, Try.results49, go_sem]) rfl ⟨rfl, below1 _ _⟩

set_option maxHeartbeats 1000000 in
theorem plan_bad (n : Int) (w : World) (h : n < 256 ∨ 65536 < n) :
    Calls Try.prog 49 #[.int .i64 n] w fun e w' => e = .returned (.tuple #[.agg #[.int .i64 0, .int .i64 0, .int .i64 0, .int .i64 0, .int .i64 0, .int .i64 0, .int .i64 0, .int .i64 0, .int .i64 0], .int .i64 1]) ∧ Below w.heap.size w w' := by
  rcases h with h | h
  · go_enter Try.func49, Try.ntmps49
    go_wp2
    refine bodyPost_ret (v := .tuple #[.agg #[.int .i64 0, .int .i64 0, .int .i64 0, .int .i64 0, .int .i64 0, .int .i64 0, .int .i64 0, .int .i64 0, .int .i64 0], .int .i64 1]) (by simp [results, Try.results49, go_sem]) rfl ⟨rfl, below1 _ _⟩
  · have h' : 256 ≤ n := by omega
    go_enter Try.func49, Try.ntmps49
    go_wp2
    refine bodyPost_ret (v := .tuple #[.agg #[.int .i64 0, .int .i64 0, .int .i64 0, .int .i64 0, .int .i64 0, .int .i64 0, .int .i64 0, .int .i64 0, .int .i64 0], .int .i64 1]) (by simp [results, Try.results49, go_sem]) rfl ⟨rfl, below1 _ _⟩

set_option maxRecDepth 100000 in
set_option maxHeartbeats 1000000 in
theorem right_ok (n s g : Int) (w : World) (h1 : 256 ≤ n) (h2 : n ≤ 65536) (hs : s = (n - 13) / 8) (hg : g = (n - (13 + 3 * s)) / 32) :
    Calls Try.prog 27 #[.agg #[.int .i64 n, .int .i64 3, .int .i64 13, .int .i64 s, .int .i64 (13 + s), .int .i64 (13 + 2 * s), .int .i64 s, .int .i64 (13 + 3 * s), .int .i64 g]] w fun e w' => e = .returned (.bool true) ∧ Below w.heap.size w w' := by
  have C := Lib.hid (fun w1 => refplan_ok n s g w1 h1 h2 hs hg)
  clear h1 h2 hs hg
  have hle := lay_eq
  go_enter Try.func27, Try.ntmps27
  go_wp2_with fail
  refine (C.out _).mono ?_
  rintro e w1 ⟨rfl, hb⟩
  have HB := Lib.hid ((below1 w _).trans (hb.mono (by simp)))
  have hc := fun i => hb.cell (p := ⟨w.heap.size, i, none⟩) (by simp)
  have hz : w.heap.size < w1.heap.size := by have := hb.size; simp at this; omega
  clear hb
  go_wp2
  go_ret
  exact ⟨rfl, HB.out.alloc HB.out.size _⟩
set_option maxHeartbeats 1000000 in
theorem right_bad (w : World) :
    Calls Try.prog 27 #[.agg #[.int .i64 0, .int .i64 0, .int .i64 0, .int .i64 0, .int .i64 0, .int .i64 0, .int .i64 0, .int .i64 0, .int .i64 0]] w fun e w' => e = .returned (.bool false) ∧ Below w.heap.size w w' := by
  have C := Lib.hid (fun w1 => refplan_bad 0 w1 (by omega))
  go_enter Try.func27, Try.ntmps27
  go_wp2_with fail
  refine (C.out _).mono ?_
  rintro e w1 ⟨rfl, hb⟩
  have HB := Lib.hid ((below1 w _).trans (hb.mono (by simp)))
  have hc := fun i => hb.cell (p := ⟨w.heap.size, i, none⟩) (by simp)
  have hz : w.heap.size < w1.heap.size := by have := hb.size; simp at this; omega
  clear hb
  go_wp2
  go_ret
  exact ⟨rfl, HB.out.alloc HB.out.size _⟩
set_option maxRecDepth 100000 in
set_option maxHeartbeats 1000000 in
theorem planned_ok (n s g : Int) (w : World) (h1 : 256 ≤ n) (h2 : n ≤ 65536) (hs : s = (n - 13) / 8) (hg : g = (n - (13 + 3 * s)) / 32) :
    Calls Try.prog 22 #[.agg #[.int .i64 n, .int .i64 3, .int .i64 13, .int .i64 s, .int .i64 (13 + s), .int .i64 (13 + 2 * s), .int .i64 s, .int .i64 (13 + 3 * s), .int .i64 g]] w fun e w' => e = .returned (.bool true) ∧ Below w.heap.size w w' := by
  have C := Lib.hid (fun w1 => plan_ok n s g w1 h1 h2 hs hg)
  clear h1 h2 hs hg
  have hle := lay_eq
  go_enter Try.func22, Try.ntmps22
  go_wp2_with fail
  refine (C.out _).mono ?_
  rintro e w1 ⟨rfl, hb⟩
  have HB := Lib.hid ((below1 w _).trans (hb.mono (by simp)))
  have hc := fun i => hb.cell (p := ⟨w.heap.size, i, none⟩) (by simp)
  have hz : w.heap.size < w1.heap.size := by have := hb.size; simp at this; omega
  clear hb
  go_wp2
  go_ret
  exact ⟨rfl, HB.out.alloc HB.out.size _⟩
set_option maxHeartbeats 1000000 in
theorem planned_bad (w : World) :
    Calls Try.prog 22 #[.agg #[.int .i64 0, .int .i64 0, .int .i64 0, .int .i64 0, .int .i64 0, .int .i64 0, .int .i64 0, .int .i64 0, .int .i64 0]] w fun e w' => e = .returned (.bool false) ∧ Below w.heap.size w w' := by
  have C := Lib.hid (fun w1 => plan_bad 0 w1 (by omega))
  go_enter Try.func22, Try.ntmps22
  go_wp2_with fail
  refine (C.out _).mono ?_
  rintro e w1 ⟨rfl, hb⟩
  have HB := Lib.hid ((below1 w _).trans (hb.mono (by simp)))
  have hc := fun i => hb.cell (p := ⟨w.heap.size, i, none⟩) (by simp)
  have hz : w.heap.size < w1.heap.size := by have := hb.size; simp at this; omega
  clear hb
  go_wp2
  go_ret
  exact ⟨rfl, HB.out.alloc HB.out.size _⟩

theorem capacity_any (a0 a1 a2 a3 a4 a5 a6 a7 g : Int) (w : World) (h : 0 ≤ g) (h2 : g ≤ 65536) :
    Calls Try.prog 24 #[.agg #[.int .i64 a0, .int .i64 a1, .int .i64 a2, .int .i64 a3, .int .i64 a4, .int .i64 a5, .int .i64 a6, .int .i64 a7, .int .i64 g]] w fun e w' => e = .returned (.int .i64 (g * 31)) ∧ Below w.heap.size w w' := by
  go_enter Try.func24, Try.ntmps24
  go_wp2
  go_ret
  exact ⟨rfl, below1 _ _⟩
theorem refcapacity_any (a0 a1 a2 a3 a4 a5 a6 a7 g : Int) (w : World) (h : 0 ≤ g) (h2 : g ≤ 65536) :
    Calls Try.prog 29 #[.agg #[.int .i64 a0, .int .i64 a1, .int .i64 a2, .int .i64 a3, .int .i64 a4, .int .i64 a5, .int .i64 a6, .int .i64 a7, .int .i64 g]] w fun e w' => e = .returned (.int .i64 (g * 31)) ∧ Below w.heap.size w w' := by
  go_enter Try.func29, Try.ntmps29
  go_wp2
  go_ret
  exact ⟨rfl, below1 _ _⟩
theorem segment_in (a0 a1 a2 a3 a4 a5 a6 p g k : Int) (w : World) (h : 0 ≤ g) (h2 : g ≤ 65536) (h3 : 0 ≤ p) (h4 : p ≤ 65536) (h5 : 0 ≤ k) (h6 : k < g) :
    Calls Try.prog 69 #[.agg #[.int .i64 a0, .int .i64 a1, .int .i64 a2, .int .i64 a3, .int .i64 a4, .int .i64 a5, .int .i64 a6, .int .i64 p, .int .i64 g], .int .i64 k] w fun e w' => e = .returned (.int .i64 (p + k * 32)) ∧ Below w.heap.size w w' := by
  go_enter Try.func69, Try.ntmps69
  go_wp2
  go_ret
  exact ⟨rfl, below1 _ _⟩
set_option maxHeartbeats 1000000 in
theorem phys_in (a0 a1 a2 a3 a4 a5 a6 p g k : Int) (w : World) (h : 0 ≤ g) (h2 : g ≤ 65536) (h3 : 0 ≤ p) (h4 : p ≤ 65536) (h5 : 0 ≤ k) (h6 : k < g * 31) :
    Calls Try.prog 50 #[.agg #[.int .i64 a0, .int .i64 a1, .int .i64 a2, .int .i64 a3, .int .i64 a4, .int .i64 a5, .int .i64 a6, .int .i64 p, .int .i64 g], .int .i64 k] w fun e w' => e = .returned (.tuple #[.int .i64 (p + k / 31 * 32 + 1 + k % 31), .bool true]) ∧ Below w.heap.size w w' := by
  have C1 := Lib.hid (fun w1 => capacity_any a0 a1 a2 a3 a4 a5 a6 p g w1 h h2)
  have C2 := Lib.hid (fun w1 => segment_in a0 a1 a2 a3 a4 a5 a6 p g (k / 31) w1 h h2 h3 h4 (by omega) (by omega))
  have b1 : 0 ≤ k / 31 := by omega
  have b2 : k / 31 ≤ 65536 := by omega
  have b3 : 0 ≤ k % 31 := by omega
  have b4 : k % 31 < 31 := by omega
  go_enter Try.func50, Try.ntmps50
  go_wp2_with fail
  refine (C1.out _).mono ?_
  rintro e w1 ⟨rfl, hb⟩
  have HB := Lib.hid ((below1 w _).trans (hb.mono (by simp)))
  have hc := fun i => hb.cell (p := ⟨w.heap.size, i, none⟩) (by simp)
  have hz : w.heap.size < w1.heap.size := by have := hb.size; simp at this; omega
  clear hb
  go_wp2_with fail
  refine (C2.out _).mono ?_
  rintro e w2 ⟨rfl, hb⟩
  have HB2 := Lib.hid (HB.out.trans (hb.mono HB.out.size))
  clear hb
  go_wp2
  go_ret2
  exact ⟨rfl, HB2.out⟩
set_option maxHeartbeats 1000000 in
theorem refphys_in (a0 a1 a2 a3 a4 a5 a6 p g k : Int) (w : World) (h : 0 ≤ g) (h2 : g ≤ 65536) (h3 : 0 ≤ p) (h4 : p ≤ 65536) (h5 : 0 ≤ k) (h6 : k < g * 31) :
    Calls Try.prog 30 #[.agg #[.int .i64 a0, .int .i64 a1, .int .i64 a2, .int .i64 a3, .int .i64 a4, .int .i64 a5, .int .i64 a6, .int .i64 p, .int .i64 g], .int .i64 k] w fun e w' => e = .returned (.tuple #[.int .i64 (p + k / 31 * 32 + 1 + k % 31), .bool true]) ∧ Below w.heap.size w w' := by
  have C1 := Lib.hid (fun w1 => refcapacity_any a0 a1 a2 a3 a4 a5 a6 p g w1 h h2)
  have b1 : 0 ≤ k / 31 := by omega
  have b2 : k / 31 ≤ 65536 := by omega
  have b3 : 0 ≤ k % 31 := by omega
  have b4 : k % 31 < 31 := by omega
  go_enter Try.func30, Try.ntmps30
  go_wp2_with fail
  refine (C1.out _).mono ?_
  rintro e w1 ⟨rfl, hb⟩
  have HB := Lib.hid ((below1 w _).trans (hb.mono (by simp)))
  have hc := fun i => hb.cell (p := ⟨w.heap.size, i, none⟩) (by simp)
  have hz : w.heap.size < w1.heap.size := by have := hb.size; simp at this; omega
  clear hb
  go_wp2
  go_ret2
  exact ⟨rfl, HB.out⟩
end Go.Proofs.Ythjbjlokpcpceaa
