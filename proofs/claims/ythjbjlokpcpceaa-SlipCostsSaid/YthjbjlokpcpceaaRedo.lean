/- Contracts: slip.Redo, dunnageref25.Redo, and which journals may be. -/
import Derived.Test.YthjbjlokpcpceaaActs4
namespace Go.Proofs.Ythjbjlokpcpceaa
open Go.RowKit
set_option linter.unusedVariables false

def jmayB (a : Bool) (s f t N : Int) : Bool := if a then mayB 65536 s f t N else (s == 0 && f == 0 && t == 0 && N == 0)
theorem mayB_more {C s f t n : Int} (h : mayB C s f t n = true) : mayB 65536 s f t n = true := by
  rw [mayB_iff] at *; omega
/-- A move against the zero one. -/
theorem move_eq0 (s f t N : Int) (w : World) : (binOp .eql 24 (.agg #[.int .u64 s, .int .i64 f, .int .i64 t, .int .i64 N]) (.agg #[.int .u64 0, .int .i64 0, .int .i64 0, .int .i64 0])).run Try.prog w = .ok (.bool (s == 0 && f == 0 && t == 0 && N == 0)) w := by
  by_cases h1 : s = 0 <;> by_cases h2 : f = 0 <;> by_cases h3 : t = 0 <;> by_cases h4 : N = 0 <;> simp [go_sem, h1, h2, h3, h4]

set_option maxHeartbeats 2000000 in
theorem jmay_any (a : Bool) (s f t N : Int) (w : World) :
    Calls Try.prog 32 #[.agg #[.bool a, .int .u64 s, .int .i64 f, .int .i64 t, .int .i64 N]] w fun e w' => e = .returned (.bool (jmayB a s f t N)) ∧ Below w.heap.size w w' := by
  cases a with
  | false =>
    have hme := move_eq0 s f t N
    have hj : jmayB false s f t N = (s == 0 && f == 0 && t == 0 && N == 0) := rfl
    rw [hj]
    clear hj
    generalize (s == 0 && f == 0 && t == 0 && N == 0) = b at *
    cases b with
    | false =>
      go_enter Try.func32, Try.ntmps32
      go_wp2
      go_ret
      exact ⟨rfl, below1 _ _⟩
    | true =>
      go_enter Try.func32, Try.ntmps32
      go_wp2
      go_ret
      exact ⟨rfl, below1 _ _⟩
  | true =>
    have C : Hid (∀ w1, Calls Try.prog 23 #[.int .i64 65536, .agg #[.int .u64 s, .int .i64 f, .int .i64 t, .int .i64 N]] w1 fun e w' => e = .returned (.bool (mayB 65536 s f t N)) ∧ Below w1.heap.size w1 w') := Lib.hid (fun w1 => by 
    cases hb : mayB 65536 s f t N with
    | true => exact may_true 65536 s f t N w1 hb
    | false => exact may_false 65536 s f t N w1 (by omega) (by omega) hb)
    have hj : jmayB true s f t N = mayB 65536 s f t N := rfl
    rw [hj]
    clear hj
    generalize mayB 65536 s f t N = b at *
    go_enter Try.func32, Try.ntmps32
    go_wp2_with fail
    refine (C.out _).mono ?_
    rintro e w1 ⟨rfl, hb⟩
    have HB := Lib.hid ((below1 w _).trans (hb.mono (by simp)))
    clear hb
    go_wp2
    go_ret
    exact ⟨rfl, HB.out⟩

set_option maxHeartbeats 2000000 in
theorem refjmay_any (a : Bool) (s f t N : Int) (w : World) :
    Calls Try.prog 33 #[.agg #[.bool a, .int .u64 s, .int .i64 f, .int .i64 t, .int .i64 N]] w fun e w' => e = .returned (.bool (jmayB a s f t N)) ∧ Below w.heap.size w w' := by
  cases a with
  | false =>
    have hme := move_eq0 s f t N
    have hj : jmayB false s f t N = (s == 0 && f == 0 && t == 0 && N == 0) := rfl
    rw [hj]
    clear hj
    generalize (s == 0 && f == 0 && t == 0 && N == 0) = b at *
    cases b with
    | false =>
      go_enter Try.func33, Try.ntmps33
      go_wp2
      go_ret
      exact ⟨rfl, below1 _ _⟩
    | true =>
      go_enter Try.func33, Try.ntmps33
      go_wp2
      go_ret
      exact ⟨rfl, below1 _ _⟩
  | true =>
    have C : Hid (∀ w1, Calls Try.prog 28 #[.int .i64 65536, .agg #[.int .u64 s, .int .i64 f, .int .i64 t, .int .i64 N]] w1 fun e w' => e = .returned (.bool (mayB 65536 s f t N)) ∧ Below w1.heap.size w1 w') := Lib.hid (fun w1 => by exact refmay_any 65536 s f t N w1 (by omega) (by omega))
    have hj : jmayB true s f t N = mayB 65536 s f t N := rfl
    rw [hj]
    clear hj
    generalize mayB 65536 s f t N = b at *
    go_enter Try.func33, Try.ntmps33
    go_wp2_with fail
    refine (C.out _).mono ?_
    rintro e w1 ⟨rfl, hb⟩
    have HB := Lib.hid ((below1 w _).trans (hb.mono (by simp)))
    clear hb
    go_wp2
    go_ret
    exact ⟨rfl, HB.out⟩

set_option maxRecDepth 100000 in
set_option maxHeartbeats 8000000 in
theorem redo_zero (a : Bool) (s f t N : Int) (w : World) :
    Calls Try.prog 9 #[.agg #[.int .i64 0, .int .i64 0, .int .i64 0, .int .i64 0, .int .i64 0, .int .i64 0, .int .i64 0, .int .i64 0, .int .i64 0], .agg #[.bool a, .int .u64 s, .int .i64 f, .int .i64 t, .int .i64 N]] w fun e w' => e = .returned (.tuple #[.slice none 0 0, .int .i64 1]) ∧ Below w.heap.size w w' := by
  have C1 := Lib.hid (fun w1 => planned_bad w1)
  go_enter Try.func9, Try.ntmps9
  go_wp2_with fail
  refine (C1.out _).mono ?_
  rintro e w3 ⟨rfl, hb3⟩
  have HB3 := Lib.hid ((below2 w _ _).trans (hb3.mono (below2 w _ _).size))
  clear hb3
  go_wp2
  go_ret2
  exact ⟨rfl, HB3.out⟩
set_option maxRecDepth 100000 in
set_option maxHeartbeats 8000000 in
theorem redo_form (a0 s0 g : Int) (a : Bool) (s f t N : Int) (w : World) (h1 : 256 ≤ a0) (h2 : a0 ≤ 65536) (hs : s0 = (a0 - 13) / 8) (hg : g = (a0 - (13 + 3 * s0)) / 32) (hj : jmayB a s f t N = false) :
    Calls Try.prog 9 #[.agg #[.int .i64 a0, .int .i64 3, .int .i64 13, .int .i64 s0, .int .i64 (13 + s0), .int .i64 (13 + 2 * s0), .int .i64 s0, .int .i64 (13 + 3 * s0), .int .i64 g], .agg #[.bool a, .int .u64 s, .int .i64 f, .int .i64 t, .int .i64 N]] w fun e w' => e = .returned (.tuple #[.slice none 0 0, .int .i64 11]) ∧ Below w.heap.size w w' := by
  have C1 := Lib.hid (fun w1 => planned_ok a0 s0 g w1 h1 h2 hs hg)
  have C2 : Hid (∀ w1, Calls Try.prog 32 #[.agg #[.bool a, .int .u64 s, .int .i64 f, .int .i64 t, .int .i64 N]] w1 fun e w' => e = .returned (.bool false) ∧ Below w1.heap.size w1 w') := Lib.hid (fun w1 => by have h := jmay_any a s f t N w1; rw [hj] at h; exact h)
  clear hj h1 h2 hs hg
  go_enter Try.func9, Try.ntmps9
  go_wp2_with fail
  refine (C1.out _).mono ?_
  rintro e w3 ⟨rfl, hb3⟩
  have hBB := fun o q => below2 w o q
  obtain ⟨W2, hW2⟩ : ∃ W2 : World, W2 = (w.alloc (.cells #[.int .i64 a0, .int .i64 3, .int .i64 13, .int .i64 s0, .int .i64 (13 + s0), .int .i64 (13 + 2 * s0), .int .i64 s0, .int .i64 (13 + 3 * s0), .int .i64 g] 29)).alloc (.cells #[.bool a, .int .u64 s, .int .i64 f, .int .i64 t, .int .i64 N] 26) := ⟨_, rfl⟩
  have hb2 : Below w.heap.size w W2 := by rw [hW2]; exact below2 _ _ _
  have hs2 : W2.heap.size = w.heap.size + 2 := by rw [hW2]; simp
  have hK0 : ∀ w' : World, Below W2.heap.size W2 w' → (w'.cell? ⟨w.heap.size, 0, none⟩ = some (.int .i64 a0) ∧ w'.cell? ⟨w.heap.size, 1, none⟩ = some (.int .i64 3) ∧ w'.cell? ⟨w.heap.size, 2, none⟩ = some (.int .i64 13) ∧ w'.cell? ⟨w.heap.size, 3, none⟩ = some (.int .i64 s0) ∧ w'.cell? ⟨w.heap.size, 4, none⟩ = some (.int .i64 (13 + s0)) ∧ w'.cell? ⟨w.heap.size, 5, none⟩ = some (.int .i64 (13 + 2 * s0)) ∧ w'.cell? ⟨w.heap.size, 6, none⟩ = some (.int .i64 s0) ∧ w'.cell? ⟨w.heap.size, 7, none⟩ = some (.int .i64 (13 + 3 * s0)) ∧ w'.cell? ⟨w.heap.size, 8, none⟩ = some (.int .i64 g) ∧ w'.cell? ⟨w.heap.size + 1, 0, none⟩ = some (.bool a) ∧ w'.cell? ⟨w.heap.size + 1, 1, none⟩ = some (.int .u64 s) ∧ w'.cell? ⟨w.heap.size + 1, 2, none⟩ = some (.int .i64 f) ∧ w'.cell? ⟨w.heap.size + 1, 3, none⟩ = some (.int .i64 t) ∧ w'.cell? ⟨w.heap.size + 1, 4, none⟩ = some (.int .i64 N)) := by
    intro w' hb
    have e : ∀ b i, b < w.heap.size + 2 → w'.cell? ⟨b, i, none⟩ = W2.cell? ⟨b, i, none⟩ := fun b i h => hb.cell (p := ⟨b, i, none⟩) (by simp only [hs2]; exact h)
    have l1 : w.heap.size < w.heap.size + 2 := by omega
    have l2 : w.heap.size + 1 < w.heap.size + 2 := by omega
    simp only [e _ _ l1, e _ _ l2, hW2]
    refine ⟨?_, ?_, ?_, ?_, ?_, ?_, ?_, ?_, ?_, ?_, ?_, ?_, ?_, ?_⟩ <;> go_simp
  rw [← hW2] at hb3
  have HK := Lib.hid hK0
  have HS := Lib.hid hs2
  have HW := Lib.hid hb2
  have HB3 := Lib.hid hb3
  clear hK0 hb2 hW2 hs2 hBB hb3
  obtain ⟨k0, k1, k2, k3, k4, k5, k6, k7, k8, m0, m1, m2, m3, m4⟩ := HK.out w3 HB3.out
  go_wp2_with fail
  refine (C2.out _).mono ?_
  rintro e w4 ⟨rfl, hb4⟩
  have HB4 := Lib.hid (HB3.out.trans (hb4.mono HB3.out.size))
  have HK4 := Lib.hid (HK.out w4 HB4.out)
  clear k0 k1 k2 k3 k4 k5 k6 k7 k8 m0 m1 m2 m3 m4 hb4
  obtain ⟨k0, k1, k2, k3, k4, k5, k6, k7, k8, m0, m1, m2, m3, m4⟩ := HK.out w4 HB4.out
  go_wp2
  go_ret2
  exact ⟨rfl, HW.out.trans (HB4.out.mono HW.out.size)⟩
set_option maxRecDepth 100000 in
set_option maxHeartbeats 8000000 in
theorem redo_none (a0 s0 g : Int) (s f t N : Int) (w : World) (h1 : 256 ≤ a0) (h2 : a0 ≤ 65536) (hs : s0 = (a0 - 13) / 8) (hg : g = (a0 - (13 + 3 * s0)) / 32) (hj : jmayB false s f t N = true) :
    Calls Try.prog 9 #[.agg #[.int .i64 a0, .int .i64 3, .int .i64 13, .int .i64 s0, .int .i64 (13 + s0), .int .i64 (13 + 2 * s0), .int .i64 s0, .int .i64 (13 + 3 * s0), .int .i64 g], .agg #[.bool false, .int .u64 s, .int .i64 f, .int .i64 t, .int .i64 N]] w fun e w' => e = .returned (.tuple #[.slice none 0 0, .int .i64 0]) ∧ Below w.heap.size w w' := by
  have C1 := Lib.hid (fun w1 => planned_ok a0 s0 g w1 h1 h2 hs hg)
  have C2 : Hid (∀ w1, Calls Try.prog 32 #[.agg #[.bool false, .int .u64 s, .int .i64 f, .int .i64 t, .int .i64 N]] w1 fun e w' => e = .returned (.bool true) ∧ Below w1.heap.size w1 w') := Lib.hid (fun w1 => by have h := jmay_any false s f t N w1; rw [hj] at h; exact h)
  clear hj h1 h2 hs hg
  go_enter Try.func9, Try.ntmps9
  go_wp2_with fail
  refine (C1.out _).mono ?_
  rintro e w3 ⟨rfl, hb3⟩
  have hBB := fun o q => below2 w o q
  obtain ⟨W2, hW2⟩ : ∃ W2 : World, W2 = (w.alloc (.cells #[.int .i64 a0, .int .i64 3, .int .i64 13, .int .i64 s0, .int .i64 (13 + s0), .int .i64 (13 + 2 * s0), .int .i64 s0, .int .i64 (13 + 3 * s0), .int .i64 g] 29)).alloc (.cells #[.bool false, .int .u64 s, .int .i64 f, .int .i64 t, .int .i64 N] 26) := ⟨_, rfl⟩
  have hb2 : Below w.heap.size w W2 := by rw [hW2]; exact below2 _ _ _
  have hs2 : W2.heap.size = w.heap.size + 2 := by rw [hW2]; simp
  have hK0 : ∀ w' : World, Below W2.heap.size W2 w' → (w'.cell? ⟨w.heap.size, 0, none⟩ = some (.int .i64 a0) ∧ w'.cell? ⟨w.heap.size, 1, none⟩ = some (.int .i64 3) ∧ w'.cell? ⟨w.heap.size, 2, none⟩ = some (.int .i64 13) ∧ w'.cell? ⟨w.heap.size, 3, none⟩ = some (.int .i64 s0) ∧ w'.cell? ⟨w.heap.size, 4, none⟩ = some (.int .i64 (13 + s0)) ∧ w'.cell? ⟨w.heap.size, 5, none⟩ = some (.int .i64 (13 + 2 * s0)) ∧ w'.cell? ⟨w.heap.size, 6, none⟩ = some (.int .i64 s0) ∧ w'.cell? ⟨w.heap.size, 7, none⟩ = some (.int .i64 (13 + 3 * s0)) ∧ w'.cell? ⟨w.heap.size, 8, none⟩ = some (.int .i64 g) ∧ w'.cell? ⟨w.heap.size + 1, 0, none⟩ = some (.bool false) ∧ w'.cell? ⟨w.heap.size + 1, 1, none⟩ = some (.int .u64 s) ∧ w'.cell? ⟨w.heap.size + 1, 2, none⟩ = some (.int .i64 f) ∧ w'.cell? ⟨w.heap.size + 1, 3, none⟩ = some (.int .i64 t) ∧ w'.cell? ⟨w.heap.size + 1, 4, none⟩ = some (.int .i64 N)) := by
    intro w' hb
    have e : ∀ b i, b < w.heap.size + 2 → w'.cell? ⟨b, i, none⟩ = W2.cell? ⟨b, i, none⟩ := fun b i h => hb.cell (p := ⟨b, i, none⟩) (by simp only [hs2]; exact h)
    have l1 : w.heap.size < w.heap.size + 2 := by omega
    have l2 : w.heap.size + 1 < w.heap.size + 2 := by omega
    simp only [e _ _ l1, e _ _ l2, hW2]
    refine ⟨?_, ?_, ?_, ?_, ?_, ?_, ?_, ?_, ?_, ?_, ?_, ?_, ?_, ?_⟩ <;> go_simp
  rw [← hW2] at hb3
  have HK := Lib.hid hK0
  have HS := Lib.hid hs2
  have HW := Lib.hid hb2
  have HB3 := Lib.hid hb3
  clear hK0 hb2 hW2 hs2 hBB hb3
  obtain ⟨k0, k1, k2, k3, k4, k5, k6, k7, k8, m0, m1, m2, m3, m4⟩ := HK.out w3 HB3.out
  go_wp2_with fail
  refine (C2.out _).mono ?_
  rintro e w4 ⟨rfl, hb4⟩
  have HB4 := Lib.hid (HB3.out.trans (hb4.mono HB3.out.size))
  have HK4 := Lib.hid (HK.out w4 HB4.out)
  clear k0 k1 k2 k3 k4 k5 k6 k7 k8 m0 m1 m2 m3 m4 hb4
  obtain ⟨k0, k1, k2, k3, k4, k5, k6, k7, k8, m0, m1, m2, m3, m4⟩ := HK.out w4 HB4.out
  go_wp2
  go_ret2
  exact ⟨rfl, HW.out.trans (HB4.out.mono HW.out.size)⟩
set_option maxRecDepth 100000 in
set_option maxHeartbeats 8000000 in
theorem redo_far (a0 s0 g : Int) (s f t N : Int) (w : World) (h1 : 256 ≤ a0) (h2 : a0 ≤ 65536) (hs : s0 = (a0 - 13) / 8) (hg : g = (a0 - (13 + 3 * s0)) / 32) (hj : jmayB true s f t N = true) (hm : mayB (g * 31) s f t N = false) :
    Calls Try.prog 9 #[.agg #[.int .i64 a0, .int .i64 3, .int .i64 13, .int .i64 s0, .int .i64 (13 + s0), .int .i64 (13 + 2 * s0), .int .i64 s0, .int .i64 (13 + 3 * s0), .int .i64 g], .agg #[.bool true, .int .u64 s, .int .i64 f, .int .i64 t, .int .i64 N]] w fun e w' => e = .returned (.tuple #[.slice none 0 0, .int .i64 1]) ∧ Below w.heap.size w w' := by
  have C1 := Lib.hid (fun w1 => planned_ok a0 s0 g w1 h1 h2 hs hg)
  have C2 : Hid (∀ w1, Calls Try.prog 32 #[.agg #[.bool true, .int .u64 s, .int .i64 f, .int .i64 t, .int .i64 N]] w1 fun e w' => e = .returned (.bool true) ∧ Below w1.heap.size w1 w') := Lib.hid (fun w1 => by have h := jmay_any true s f t N w1; rw [hj] at h; exact h)
  have C3 := Lib.hid (fun w1 => capacity_any a0 3 13 s0 (13 + s0) (13 + 2 * s0) s0 (13 + 3 * s0) g w1 (by omega) (by omega))
  have C4 : Hid (∀ w1, Calls Try.prog 23 #[.int .i64 (g * 31), .agg #[.int .u64 s, .int .i64 f, .int .i64 t, .int .i64 N]] w1 fun e w' => e = .returned (.bool false) ∧ Below w1.heap.size w1 w') := Lib.hid (fun w1 => by exact may_false (g * 31) s f t N w1 (by omega) (by omega) hm)
  clear hj h1 h2 hs hg hm
  go_enter Try.func9, Try.ntmps9
  go_wp2_with fail
  refine (C1.out _).mono ?_
  rintro e w3 ⟨rfl, hb3⟩
  have hBB := fun o q => below2 w o q
  obtain ⟨W2, hW2⟩ : ∃ W2 : World, W2 = (w.alloc (.cells #[.int .i64 a0, .int .i64 3, .int .i64 13, .int .i64 s0, .int .i64 (13 + s0), .int .i64 (13 + 2 * s0), .int .i64 s0, .int .i64 (13 + 3 * s0), .int .i64 g] 29)).alloc (.cells #[.bool true, .int .u64 s, .int .i64 f, .int .i64 t, .int .i64 N] 26) := ⟨_, rfl⟩
  have hb2 : Below w.heap.size w W2 := by rw [hW2]; exact below2 _ _ _
  have hs2 : W2.heap.size = w.heap.size + 2 := by rw [hW2]; simp
  have hK0 : ∀ w' : World, Below W2.heap.size W2 w' → (w'.cell? ⟨w.heap.size, 0, none⟩ = some (.int .i64 a0) ∧ w'.cell? ⟨w.heap.size, 1, none⟩ = some (.int .i64 3) ∧ w'.cell? ⟨w.heap.size, 2, none⟩ = some (.int .i64 13) ∧ w'.cell? ⟨w.heap.size, 3, none⟩ = some (.int .i64 s0) ∧ w'.cell? ⟨w.heap.size, 4, none⟩ = some (.int .i64 (13 + s0)) ∧ w'.cell? ⟨w.heap.size, 5, none⟩ = some (.int .i64 (13 + 2 * s0)) ∧ w'.cell? ⟨w.heap.size, 6, none⟩ = some (.int .i64 s0) ∧ w'.cell? ⟨w.heap.size, 7, none⟩ = some (.int .i64 (13 + 3 * s0)) ∧ w'.cell? ⟨w.heap.size, 8, none⟩ = some (.int .i64 g) ∧ w'.cell? ⟨w.heap.size + 1, 0, none⟩ = some (.bool true) ∧ w'.cell? ⟨w.heap.size + 1, 1, none⟩ = some (.int .u64 s) ∧ w'.cell? ⟨w.heap.size + 1, 2, none⟩ = some (.int .i64 f) ∧ w'.cell? ⟨w.heap.size + 1, 3, none⟩ = some (.int .i64 t) ∧ w'.cell? ⟨w.heap.size + 1, 4, none⟩ = some (.int .i64 N)) := by
    intro w' hb
    have e : ∀ b i, b < w.heap.size + 2 → w'.cell? ⟨b, i, none⟩ = W2.cell? ⟨b, i, none⟩ := fun b i h => hb.cell (p := ⟨b, i, none⟩) (by simp only [hs2]; exact h)
    have l1 : w.heap.size < w.heap.size + 2 := by omega
    have l2 : w.heap.size + 1 < w.heap.size + 2 := by omega
    simp only [e _ _ l1, e _ _ l2, hW2]
    refine ⟨?_, ?_, ?_, ?_, ?_, ?_, ?_, ?_, ?_, ?_, ?_, ?_, ?_, ?_⟩ <;> go_simp
  rw [← hW2] at hb3
  have HK := Lib.hid hK0
  have HS := Lib.hid hs2
  have HW := Lib.hid hb2
  have HB3 := Lib.hid hb3
  clear hK0 hb2 hW2 hs2 hBB hb3
  obtain ⟨k0, k1, k2, k3, k4, k5, k6, k7, k8, m0, m1, m2, m3, m4⟩ := HK.out w3 HB3.out
  go_wp2_with fail
  refine (C2.out _).mono ?_
  rintro e w4 ⟨rfl, hb4⟩
  have HB4 := Lib.hid (HB3.out.trans (hb4.mono HB3.out.size))
  have HK4 := Lib.hid (HK.out w4 HB4.out)
  clear k0 k1 k2 k3 k4 k5 k6 k7 k8 m0 m1 m2 m3 m4 hb4
  obtain ⟨k0, k1, k2, k3, k4, k5, k6, k7, k8, m0, m1, m2, m3, m4⟩ := HK.out w4 HB4.out
  go_wp2_with fail
  go_region_held3 (fun w' => w'.cell? ⟨w.heap.size, 0, none⟩ = some (.int .i64 a0) ∧ w'.cell? ⟨w.heap.size, 1, none⟩ = some (.int .i64 3) ∧ w'.cell? ⟨w.heap.size, 2, none⟩ = some (.int .i64 13) ∧ w'.cell? ⟨w.heap.size, 3, none⟩ = some (.int .i64 s0) ∧ w'.cell? ⟨w.heap.size, 4, none⟩ = some (.int .i64 (13 + s0)) ∧ w'.cell? ⟨w.heap.size, 5, none⟩ = some (.int .i64 (13 + 2 * s0)) ∧ w'.cell? ⟨w.heap.size, 6, none⟩ = some (.int .i64 s0) ∧ w'.cell? ⟨w.heap.size, 7, none⟩ = some (.int .i64 (13 + 3 * s0)) ∧ w'.cell? ⟨w.heap.size, 8, none⟩ = some (.int .i64 g) ∧ w'.cell? ⟨w.heap.size + 1, 0, none⟩ = some (.bool true) ∧ w'.cell? ⟨w.heap.size + 1, 1, none⟩ = some (.int .u64 s) ∧ w'.cell? ⟨w.heap.size + 1, 2, none⟩ = some (.int .i64 f) ∧ w'.cell? ⟨w.heap.size + 1, 3, none⟩ = some (.int .i64 t) ∧ w'.cell? ⟨w.heap.size + 1, 4, none⟩ = some (.int .i64 N))
    (first
      | exact HK4.out
      | exact HK6.out
      | exact HK5.out)
    (first
      | (go_at_call 24; refine (C3.out _).mono ?_; rintro e w5 ⟨rfl, hb5⟩; have HB5 := Lib.hid (HB4.out.trans ((below_of_drew hb5).mono HB4.out.size)); have HK5 := Lib.hid (HK.out w5 HB5.out))
      | (go_at_call 23; refine (C4.out _).mono ?_; rintro e w6 ⟨rfl, hb6⟩; have HB6 := Lib.hid (HB5.out.trans (hb6.mono HB5.out.size)); have HK6 := Lib.hid (HK.out w6 HB6.out)))
  go_wp2
  go_ret2
  exact ⟨rfl, HW.out.trans (HB6.out.mono HW.out.size)⟩
set_option maxRecDepth 100000 in
set_option maxHeartbeats 8000000 in
theorem redo_ok (a0 s0 g s f t : Int) (N : Nat) (w : World) (h1 : 256 ≤ a0) (h2 : a0 ≤ 65536) (hs : s0 = (a0 - 13) / 8) (hg : g = (a0 - (13 + 3 * s0)) / 32) (hm : mayB (g * 31) s f t N = true) :
    Calls Try.prog 9 #[.agg #[.int .i64 a0, .int .i64 3, .int .i64 13, .int .i64 s0, .int .i64 (13 + s0), .int .i64 (13 + 2 * s0), .int .i64 s0, .int .i64 (13 + 3 * s0), .int .i64 g], .agg #[.bool true, .int .u64 s, .int .i64 f, .int .i64 t, .int .i64 N]] w fun e w' => ∃ v, e = .returned (.tuple #[v, .int .i64 0]) ∧ w'.ownsRow w.heap.size 40 8 v (N + 3) (inR (13 + 3 * s0) t N ++ tailR).flatten ∧ Below w.heap.size w w' := by
  have hj := mayB_more hm
  have hm' := (mayB_iff _ _ _ _ _).1 hm
  have C1 := Lib.hid (fun w1 => planned_ok a0 s0 g w1 h1 h2 hs hg)
  have C2 : Hid (∀ w1, Calls Try.prog 32 #[.agg #[.bool true, .int .u64 s, .int .i64 f, .int .i64 t, .int .i64 N]] w1 fun e w' => e = .returned (.bool true) ∧ Below w1.heap.size w1 w') := Lib.hid (fun w1 => by have h := jmay_any true s f t N w1; rw [show jmayB true s f t N = true from hj] at h; exact h)
  have C3 := Lib.hid (fun w1 => capacity_any a0 3 13 s0 (13 + s0) (13 + 2 * s0) s0 (13 + 3 * s0) g w1 (by omega) (by omega))
  have C4 : Hid (∀ w1, Calls Try.prog 23 #[.int .i64 (g * 31), .agg #[.int .u64 s, .int .i64 f, .int .i64 t, .int .i64 N]] w1 fun e w' => e = .returned (.bool true) ∧ Below w1.heap.size w1 w') := Lib.hid (fun w1 => by exact may_true (g * 31) s f t N w1 hm)
  have C5 := Lib.hid (fun w1 => in_any a0 13 s0 (13 + s0) (13 + 2 * s0) s0 (13 + 3 * s0) g s f t N w1 (by omega) (by omega) (by omega) (by omega) (by omega) (by omega) (by omega) (by omega))
  clear hj h1 h2 hs hg hm hm'
  go_enter Try.func9, Try.ntmps9
  go_wp2_with fail
  refine (C1.out _).mono ?_
  rintro e w3 ⟨rfl, hb3⟩
  have hBB := fun o q => below2 w o q
  obtain ⟨W2, hW2⟩ : ∃ W2 : World, W2 = (w.alloc (.cells #[.int .i64 a0, .int .i64 3, .int .i64 13, .int .i64 s0, .int .i64 (13 + s0), .int .i64 (13 + 2 * s0), .int .i64 s0, .int .i64 (13 + 3 * s0), .int .i64 g] 29)).alloc (.cells #[.bool true, .int .u64 s, .int .i64 f, .int .i64 t, .int .i64 N] 26) := ⟨_, rfl⟩
  have hb2 : Below w.heap.size w W2 := by rw [hW2]; exact below2 _ _ _
  have hs2 : W2.heap.size = w.heap.size + 2 := by rw [hW2]; simp
  have hK0 : ∀ w' : World, Below W2.heap.size W2 w' → (w'.cell? ⟨w.heap.size, 0, none⟩ = some (.int .i64 a0) ∧ w'.cell? ⟨w.heap.size, 1, none⟩ = some (.int .i64 3) ∧ w'.cell? ⟨w.heap.size, 2, none⟩ = some (.int .i64 13) ∧ w'.cell? ⟨w.heap.size, 3, none⟩ = some (.int .i64 s0) ∧ w'.cell? ⟨w.heap.size, 4, none⟩ = some (.int .i64 (13 + s0)) ∧ w'.cell? ⟨w.heap.size, 5, none⟩ = some (.int .i64 (13 + 2 * s0)) ∧ w'.cell? ⟨w.heap.size, 6, none⟩ = some (.int .i64 s0) ∧ w'.cell? ⟨w.heap.size, 7, none⟩ = some (.int .i64 (13 + 3 * s0)) ∧ w'.cell? ⟨w.heap.size, 8, none⟩ = some (.int .i64 g) ∧ w'.cell? ⟨w.heap.size + 1, 0, none⟩ = some (.bool true) ∧ w'.cell? ⟨w.heap.size + 1, 1, none⟩ = some (.int .u64 s) ∧ w'.cell? ⟨w.heap.size + 1, 2, none⟩ = some (.int .i64 f) ∧ w'.cell? ⟨w.heap.size + 1, 3, none⟩ = some (.int .i64 t) ∧ w'.cell? ⟨w.heap.size + 1, 4, none⟩ = some (.int .i64 N)) := by
    intro w' hb
    have e : ∀ b i, b < w.heap.size + 2 → w'.cell? ⟨b, i, none⟩ = W2.cell? ⟨b, i, none⟩ := fun b i h => hb.cell (p := ⟨b, i, none⟩) (by simp only [hs2]; exact h)
    have l1 : w.heap.size < w.heap.size + 2 := by omega
    have l2 : w.heap.size + 1 < w.heap.size + 2 := by omega
    simp only [e _ _ l1, e _ _ l2, hW2]
    refine ⟨?_, ?_, ?_, ?_, ?_, ?_, ?_, ?_, ?_, ?_, ?_, ?_, ?_, ?_⟩ <;> go_simp
  rw [← hW2] at hb3
  have HK := Lib.hid hK0
  have HS := Lib.hid hs2
  have HW := Lib.hid hb2
  have HB3 := Lib.hid hb3
  clear hK0 hb2 hW2 hs2 hBB hb3
  obtain ⟨k0, k1, k2, k3, k4, k5, k6, k7, k8, m0, m1, m2, m3, m4⟩ := HK.out w3 HB3.out
  go_wp2_with fail
  refine (C2.out _).mono ?_
  rintro e w4 ⟨rfl, hb4⟩
  have HB4 := Lib.hid (HB3.out.trans (hb4.mono HB3.out.size))
  have HK4 := Lib.hid (HK.out w4 HB4.out)
  clear k0 k1 k2 k3 k4 k5 k6 k7 k8 m0 m1 m2 m3 m4 hb4
  obtain ⟨k0, k1, k2, k3, k4, k5, k6, k7, k8, m0, m1, m2, m3, m4⟩ := HK.out w4 HB4.out
  go_wp2_with fail
  go_region_held3 (fun w' => w'.cell? ⟨w.heap.size, 0, none⟩ = some (.int .i64 a0) ∧ w'.cell? ⟨w.heap.size, 1, none⟩ = some (.int .i64 3) ∧ w'.cell? ⟨w.heap.size, 2, none⟩ = some (.int .i64 13) ∧ w'.cell? ⟨w.heap.size, 3, none⟩ = some (.int .i64 s0) ∧ w'.cell? ⟨w.heap.size, 4, none⟩ = some (.int .i64 (13 + s0)) ∧ w'.cell? ⟨w.heap.size, 5, none⟩ = some (.int .i64 (13 + 2 * s0)) ∧ w'.cell? ⟨w.heap.size, 6, none⟩ = some (.int .i64 s0) ∧ w'.cell? ⟨w.heap.size, 7, none⟩ = some (.int .i64 (13 + 3 * s0)) ∧ w'.cell? ⟨w.heap.size, 8, none⟩ = some (.int .i64 g) ∧ w'.cell? ⟨w.heap.size + 1, 0, none⟩ = some (.bool true) ∧ w'.cell? ⟨w.heap.size + 1, 1, none⟩ = some (.int .u64 s) ∧ w'.cell? ⟨w.heap.size + 1, 2, none⟩ = some (.int .i64 f) ∧ w'.cell? ⟨w.heap.size + 1, 3, none⟩ = some (.int .i64 t) ∧ w'.cell? ⟨w.heap.size + 1, 4, none⟩ = some (.int .i64 N))
    (first
      | exact HK4.out
      | exact HK6.out
      | exact HK5.out)
    (first
      | (go_at_call 24; refine (C3.out _).mono ?_; rintro e w5 ⟨rfl, hb5⟩; have HB5 := Lib.hid (HB4.out.trans ((below_of_drew hb5).mono HB4.out.size)); have HK5 := Lib.hid (HK.out w5 HB5.out))
      | (go_at_call 23; refine (C4.out _).mono ?_; rintro e w6 ⟨rfl, hb6⟩; have HB6 := Lib.hid (HB5.out.trans (hb6.mono HB5.out.size)); have HK6 := Lib.hid (HK.out w6 HB6.out)))
  clear k0 k1 k2 k3 k4 k5 k6 k7 k8 m0 m1 m2 m3 m4
  obtain ⟨k0, k1, k2, k3, k4, k5, k6, k7, k8, m0, m1, m2, m3, m4⟩ := HK6.out
  go_wp2_with fail
  refine (C5.out _).mono ?_
  rintro e w8 ⟨v8, rfl, hown8, hb8⟩
  obtain ⟨A8, c8, rfl, hc8⟩ := own_sh hown8
  have HB8 := Lib.hid (HB6.out.trans (hb8.mono HB6.out.size))
  have HO8 := Lib.hid (own_mono hown8 HB6.out.size)
  clear hown8 hb8
  go_wp2
  go_ret2
  exact ⟨_, rfl, own_mono HO8.out HW.out.size, HW.out.trans (HB8.out.mono HW.out.size)⟩

set_option maxRecDepth 100000 in
set_option maxHeartbeats 8000000 in
theorem refredo_zero (a : Bool) (s f t N : Int) (w : World) :
    Calls Try.prog 10 #[.agg #[.int .i64 0, .int .i64 0, .int .i64 0, .int .i64 0, .int .i64 0, .int .i64 0, .int .i64 0, .int .i64 0, .int .i64 0], .agg #[.bool a, .int .u64 s, .int .i64 f, .int .i64 t, .int .i64 N]] w fun e w' => e = .returned (.tuple #[.slice none 0 0, .int .i64 1]) ∧ Below w.heap.size w w' := by
  have C1 := Lib.hid (fun w1 => right_bad w1)
  go_enter Try.func10, Try.ntmps10
  go_wp2_with fail
  refine (C1.out _).mono ?_
  rintro e w3 ⟨rfl, hb3⟩
  have HB3 := Lib.hid ((below2 w _ _).trans (hb3.mono (below2 w _ _).size))
  clear hb3
  go_wp2
  go_ret2
  exact ⟨rfl, HB3.out⟩
set_option maxRecDepth 100000 in
set_option maxHeartbeats 8000000 in
theorem refredo_form (a0 s0 g : Int) (a : Bool) (s f t N : Int) (w : World) (h1 : 256 ≤ a0) (h2 : a0 ≤ 65536) (hs : s0 = (a0 - 13) / 8) (hg : g = (a0 - (13 + 3 * s0)) / 32) (hj : jmayB a s f t N = false) :
    Calls Try.prog 10 #[.agg #[.int .i64 a0, .int .i64 3, .int .i64 13, .int .i64 s0, .int .i64 (13 + s0), .int .i64 (13 + 2 * s0), .int .i64 s0, .int .i64 (13 + 3 * s0), .int .i64 g], .agg #[.bool a, .int .u64 s, .int .i64 f, .int .i64 t, .int .i64 N]] w fun e w' => e = .returned (.tuple #[.slice none 0 0, .int .i64 11]) ∧ Below w.heap.size w w' := by
  have C1 := Lib.hid (fun w1 => right_ok a0 s0 g w1 h1 h2 hs hg)
  have C2 : Hid (∀ w1, Calls Try.prog 33 #[.agg #[.bool a, .int .u64 s, .int .i64 f, .int .i64 t, .int .i64 N]] w1 fun e w' => e = .returned (.bool false) ∧ Below w1.heap.size w1 w') := Lib.hid (fun w1 => by have h := refjmay_any a s f t N w1; rw [hj] at h; exact h)
  clear hj h1 h2 hs hg
  go_enter Try.func10, Try.ntmps10
  go_wp2_with fail
  refine (C1.out _).mono ?_
  rintro e w3 ⟨rfl, hb3⟩
  have hBB := fun o q => below2 w o q
  obtain ⟨W2, hW2⟩ : ∃ W2 : World, W2 = (w.alloc (.cells #[.int .i64 a0, .int .i64 3, .int .i64 13, .int .i64 s0, .int .i64 (13 + s0), .int .i64 (13 + 2 * s0), .int .i64 s0, .int .i64 (13 + 3 * s0), .int .i64 g] 29)).alloc (.cells #[.bool a, .int .u64 s, .int .i64 f, .int .i64 t, .int .i64 N] 26) := ⟨_, rfl⟩
  have hb2 : Below w.heap.size w W2 := by rw [hW2]; exact below2 _ _ _
  have hs2 : W2.heap.size = w.heap.size + 2 := by rw [hW2]; simp
  have hK0 : ∀ w' : World, Below W2.heap.size W2 w' → (w'.cell? ⟨w.heap.size, 0, none⟩ = some (.int .i64 a0) ∧ w'.cell? ⟨w.heap.size, 1, none⟩ = some (.int .i64 3) ∧ w'.cell? ⟨w.heap.size, 2, none⟩ = some (.int .i64 13) ∧ w'.cell? ⟨w.heap.size, 3, none⟩ = some (.int .i64 s0) ∧ w'.cell? ⟨w.heap.size, 4, none⟩ = some (.int .i64 (13 + s0)) ∧ w'.cell? ⟨w.heap.size, 5, none⟩ = some (.int .i64 (13 + 2 * s0)) ∧ w'.cell? ⟨w.heap.size, 6, none⟩ = some (.int .i64 s0) ∧ w'.cell? ⟨w.heap.size, 7, none⟩ = some (.int .i64 (13 + 3 * s0)) ∧ w'.cell? ⟨w.heap.size, 8, none⟩ = some (.int .i64 g) ∧ w'.cell? ⟨w.heap.size + 1, 0, none⟩ = some (.bool a) ∧ w'.cell? ⟨w.heap.size + 1, 1, none⟩ = some (.int .u64 s) ∧ w'.cell? ⟨w.heap.size + 1, 2, none⟩ = some (.int .i64 f) ∧ w'.cell? ⟨w.heap.size + 1, 3, none⟩ = some (.int .i64 t) ∧ w'.cell? ⟨w.heap.size + 1, 4, none⟩ = some (.int .i64 N)) := by
    intro w' hb
    have e : ∀ b i, b < w.heap.size + 2 → w'.cell? ⟨b, i, none⟩ = W2.cell? ⟨b, i, none⟩ := fun b i h => hb.cell (p := ⟨b, i, none⟩) (by simp only [hs2]; exact h)
    have l1 : w.heap.size < w.heap.size + 2 := by omega
    have l2 : w.heap.size + 1 < w.heap.size + 2 := by omega
    simp only [e _ _ l1, e _ _ l2, hW2]
    refine ⟨?_, ?_, ?_, ?_, ?_, ?_, ?_, ?_, ?_, ?_, ?_, ?_, ?_, ?_⟩ <;> go_simp
  rw [← hW2] at hb3
  have HK := Lib.hid hK0
  have HS := Lib.hid hs2
  have HW := Lib.hid hb2
  have HB3 := Lib.hid hb3
  clear hK0 hb2 hW2 hs2 hBB hb3
  obtain ⟨k0, k1, k2, k3, k4, k5, k6, k7, k8, m0, m1, m2, m3, m4⟩ := HK.out w3 HB3.out
  go_wp2_with fail
  refine (C2.out _).mono ?_
  rintro e w4 ⟨rfl, hb4⟩
  have HB4 := Lib.hid (HB3.out.trans (hb4.mono HB3.out.size))
  have HK4 := Lib.hid (HK.out w4 HB4.out)
  clear k0 k1 k2 k3 k4 k5 k6 k7 k8 m0 m1 m2 m3 m4 hb4
  obtain ⟨k0, k1, k2, k3, k4, k5, k6, k7, k8, m0, m1, m2, m3, m4⟩ := HK.out w4 HB4.out
  go_wp2
  go_ret2
  exact ⟨rfl, HW.out.trans (HB4.out.mono HW.out.size)⟩
set_option maxRecDepth 100000 in
set_option maxHeartbeats 8000000 in
theorem refredo_none (a0 s0 g : Int) (s f t N : Int) (w : World) (h1 : 256 ≤ a0) (h2 : a0 ≤ 65536) (hs : s0 = (a0 - 13) / 8) (hg : g = (a0 - (13 + 3 * s0)) / 32) (hj : jmayB false s f t N = true) :
    Calls Try.prog 10 #[.agg #[.int .i64 a0, .int .i64 3, .int .i64 13, .int .i64 s0, .int .i64 (13 + s0), .int .i64 (13 + 2 * s0), .int .i64 s0, .int .i64 (13 + 3 * s0), .int .i64 g], .agg #[.bool false, .int .u64 s, .int .i64 f, .int .i64 t, .int .i64 N]] w fun e w' => e = .returned (.tuple #[.slice none 0 0, .int .i64 0]) ∧ Below w.heap.size w w' := by
  have C1 := Lib.hid (fun w1 => right_ok a0 s0 g w1 h1 h2 hs hg)
  have C2 : Hid (∀ w1, Calls Try.prog 33 #[.agg #[.bool false, .int .u64 s, .int .i64 f, .int .i64 t, .int .i64 N]] w1 fun e w' => e = .returned (.bool true) ∧ Below w1.heap.size w1 w') := Lib.hid (fun w1 => by have h := refjmay_any false s f t N w1; rw [hj] at h; exact h)
  clear hj h1 h2 hs hg
  go_enter Try.func10, Try.ntmps10
  go_wp2_with fail
  refine (C1.out _).mono ?_
  rintro e w3 ⟨rfl, hb3⟩
  have hBB := fun o q => below2 w o q
  obtain ⟨W2, hW2⟩ : ∃ W2 : World, W2 = (w.alloc (.cells #[.int .i64 a0, .int .i64 3, .int .i64 13, .int .i64 s0, .int .i64 (13 + s0), .int .i64 (13 + 2 * s0), .int .i64 s0, .int .i64 (13 + 3 * s0), .int .i64 g] 29)).alloc (.cells #[.bool false, .int .u64 s, .int .i64 f, .int .i64 t, .int .i64 N] 26) := ⟨_, rfl⟩
  have hb2 : Below w.heap.size w W2 := by rw [hW2]; exact below2 _ _ _
  have hs2 : W2.heap.size = w.heap.size + 2 := by rw [hW2]; simp
  have hK0 : ∀ w' : World, Below W2.heap.size W2 w' → (w'.cell? ⟨w.heap.size, 0, none⟩ = some (.int .i64 a0) ∧ w'.cell? ⟨w.heap.size, 1, none⟩ = some (.int .i64 3) ∧ w'.cell? ⟨w.heap.size, 2, none⟩ = some (.int .i64 13) ∧ w'.cell? ⟨w.heap.size, 3, none⟩ = some (.int .i64 s0) ∧ w'.cell? ⟨w.heap.size, 4, none⟩ = some (.int .i64 (13 + s0)) ∧ w'.cell? ⟨w.heap.size, 5, none⟩ = some (.int .i64 (13 + 2 * s0)) ∧ w'.cell? ⟨w.heap.size, 6, none⟩ = some (.int .i64 s0) ∧ w'.cell? ⟨w.heap.size, 7, none⟩ = some (.int .i64 (13 + 3 * s0)) ∧ w'.cell? ⟨w.heap.size, 8, none⟩ = some (.int .i64 g) ∧ w'.cell? ⟨w.heap.size + 1, 0, none⟩ = some (.bool false) ∧ w'.cell? ⟨w.heap.size + 1, 1, none⟩ = some (.int .u64 s) ∧ w'.cell? ⟨w.heap.size + 1, 2, none⟩ = some (.int .i64 f) ∧ w'.cell? ⟨w.heap.size + 1, 3, none⟩ = some (.int .i64 t) ∧ w'.cell? ⟨w.heap.size + 1, 4, none⟩ = some (.int .i64 N)) := by
    intro w' hb
    have e : ∀ b i, b < w.heap.size + 2 → w'.cell? ⟨b, i, none⟩ = W2.cell? ⟨b, i, none⟩ := fun b i h => hb.cell (p := ⟨b, i, none⟩) (by simp only [hs2]; exact h)
    have l1 : w.heap.size < w.heap.size + 2 := by omega
    have l2 : w.heap.size + 1 < w.heap.size + 2 := by omega
    simp only [e _ _ l1, e _ _ l2, hW2]
    refine ⟨?_, ?_, ?_, ?_, ?_, ?_, ?_, ?_, ?_, ?_, ?_, ?_, ?_, ?_⟩ <;> go_simp
  rw [← hW2] at hb3
  have HK := Lib.hid hK0
  have HS := Lib.hid hs2
  have HW := Lib.hid hb2
  have HB3 := Lib.hid hb3
  clear hK0 hb2 hW2 hs2 hBB hb3
  obtain ⟨k0, k1, k2, k3, k4, k5, k6, k7, k8, m0, m1, m2, m3, m4⟩ := HK.out w3 HB3.out
  go_wp2_with fail
  refine (C2.out _).mono ?_
  rintro e w4 ⟨rfl, hb4⟩
  have HB4 := Lib.hid (HB3.out.trans (hb4.mono HB3.out.size))
  have HK4 := Lib.hid (HK.out w4 HB4.out)
  clear k0 k1 k2 k3 k4 k5 k6 k7 k8 m0 m1 m2 m3 m4 hb4
  obtain ⟨k0, k1, k2, k3, k4, k5, k6, k7, k8, m0, m1, m2, m3, m4⟩ := HK.out w4 HB4.out
  go_wp2
  go_ret2
  exact ⟨rfl, HW.out.trans (HB4.out.mono HW.out.size)⟩
set_option maxRecDepth 100000 in
set_option maxHeartbeats 8000000 in
theorem refredo_far (a0 s0 g : Int) (s f t N : Int) (w : World) (h1 : 256 ≤ a0) (h2 : a0 ≤ 65536) (hs : s0 = (a0 - 13) / 8) (hg : g = (a0 - (13 + 3 * s0)) / 32) (hj : jmayB true s f t N = true) (hm : mayB (g * 31) s f t N = false) :
    Calls Try.prog 10 #[.agg #[.int .i64 a0, .int .i64 3, .int .i64 13, .int .i64 s0, .int .i64 (13 + s0), .int .i64 (13 + 2 * s0), .int .i64 s0, .int .i64 (13 + 3 * s0), .int .i64 g], .agg #[.bool true, .int .u64 s, .int .i64 f, .int .i64 t, .int .i64 N]] w fun e w' => e = .returned (.tuple #[.slice none 0 0, .int .i64 1]) ∧ Below w.heap.size w w' := by
  have C1 := Lib.hid (fun w1 => right_ok a0 s0 g w1 h1 h2 hs hg)
  have C2 : Hid (∀ w1, Calls Try.prog 33 #[.agg #[.bool true, .int .u64 s, .int .i64 f, .int .i64 t, .int .i64 N]] w1 fun e w' => e = .returned (.bool true) ∧ Below w1.heap.size w1 w') := Lib.hid (fun w1 => by have h := refjmay_any true s f t N w1; rw [hj] at h; exact h)
  have C3 := Lib.hid (fun w1 => refcapacity_any a0 3 13 s0 (13 + s0) (13 + 2 * s0) s0 (13 + 3 * s0) g w1 (by omega) (by omega))
  have C4 : Hid (∀ w1, Calls Try.prog 28 #[.int .i64 (g * 31), .agg #[.int .u64 s, .int .i64 f, .int .i64 t, .int .i64 N]] w1 fun e w' => e = .returned (.bool false) ∧ Below w1.heap.size w1 w') := Lib.hid (fun w1 => by have h := refmay_any (g * 31) s f t N w1 (by omega) (by omega); rw [hm] at h; exact h)
  clear hj h1 h2 hs hg hm
  go_enter Try.func10, Try.ntmps10
  go_wp2_with fail
  refine (C1.out _).mono ?_
  rintro e w3 ⟨rfl, hb3⟩
  have hBB := fun o q => below2 w o q
  obtain ⟨W2, hW2⟩ : ∃ W2 : World, W2 = (w.alloc (.cells #[.int .i64 a0, .int .i64 3, .int .i64 13, .int .i64 s0, .int .i64 (13 + s0), .int .i64 (13 + 2 * s0), .int .i64 s0, .int .i64 (13 + 3 * s0), .int .i64 g] 29)).alloc (.cells #[.bool true, .int .u64 s, .int .i64 f, .int .i64 t, .int .i64 N] 26) := ⟨_, rfl⟩
  have hb2 : Below w.heap.size w W2 := by rw [hW2]; exact below2 _ _ _
  have hs2 : W2.heap.size = w.heap.size + 2 := by rw [hW2]; simp
  have hK0 : ∀ w' : World, Below W2.heap.size W2 w' → (w'.cell? ⟨w.heap.size, 0, none⟩ = some (.int .i64 a0) ∧ w'.cell? ⟨w.heap.size, 1, none⟩ = some (.int .i64 3) ∧ w'.cell? ⟨w.heap.size, 2, none⟩ = some (.int .i64 13) ∧ w'.cell? ⟨w.heap.size, 3, none⟩ = some (.int .i64 s0) ∧ w'.cell? ⟨w.heap.size, 4, none⟩ = some (.int .i64 (13 + s0)) ∧ w'.cell? ⟨w.heap.size, 5, none⟩ = some (.int .i64 (13 + 2 * s0)) ∧ w'.cell? ⟨w.heap.size, 6, none⟩ = some (.int .i64 s0) ∧ w'.cell? ⟨w.heap.size, 7, none⟩ = some (.int .i64 (13 + 3 * s0)) ∧ w'.cell? ⟨w.heap.size, 8, none⟩ = some (.int .i64 g) ∧ w'.cell? ⟨w.heap.size + 1, 0, none⟩ = some (.bool true) ∧ w'.cell? ⟨w.heap.size + 1, 1, none⟩ = some (.int .u64 s) ∧ w'.cell? ⟨w.heap.size + 1, 2, none⟩ = some (.int .i64 f) ∧ w'.cell? ⟨w.heap.size + 1, 3, none⟩ = some (.int .i64 t) ∧ w'.cell? ⟨w.heap.size + 1, 4, none⟩ = some (.int .i64 N)) := by
    intro w' hb
    have e : ∀ b i, b < w.heap.size + 2 → w'.cell? ⟨b, i, none⟩ = W2.cell? ⟨b, i, none⟩ := fun b i h => hb.cell (p := ⟨b, i, none⟩) (by simp only [hs2]; exact h)
    have l1 : w.heap.size < w.heap.size + 2 := by omega
    have l2 : w.heap.size + 1 < w.heap.size + 2 := by omega
    simp only [e _ _ l1, e _ _ l2, hW2]
    refine ⟨?_, ?_, ?_, ?_, ?_, ?_, ?_, ?_, ?_, ?_, ?_, ?_, ?_, ?_⟩ <;> go_simp
  rw [← hW2] at hb3
  have HK := Lib.hid hK0
  have HS := Lib.hid hs2
  have HW := Lib.hid hb2
  have HB3 := Lib.hid hb3
  clear hK0 hb2 hW2 hs2 hBB hb3
  obtain ⟨k0, k1, k2, k3, k4, k5, k6, k7, k8, m0, m1, m2, m3, m4⟩ := HK.out w3 HB3.out
  go_wp2_with fail
  refine (C2.out _).mono ?_
  rintro e w4 ⟨rfl, hb4⟩
  have HB4 := Lib.hid (HB3.out.trans (hb4.mono HB3.out.size))
  have HK4 := Lib.hid (HK.out w4 HB4.out)
  clear k0 k1 k2 k3 k4 k5 k6 k7 k8 m0 m1 m2 m3 m4 hb4
  obtain ⟨k0, k1, k2, k3, k4, k5, k6, k7, k8, m0, m1, m2, m3, m4⟩ := HK.out w4 HB4.out
  go_wp2_with fail
  go_region_held3 (fun w' => w'.cell? ⟨w.heap.size, 0, none⟩ = some (.int .i64 a0) ∧ w'.cell? ⟨w.heap.size, 1, none⟩ = some (.int .i64 3) ∧ w'.cell? ⟨w.heap.size, 2, none⟩ = some (.int .i64 13) ∧ w'.cell? ⟨w.heap.size, 3, none⟩ = some (.int .i64 s0) ∧ w'.cell? ⟨w.heap.size, 4, none⟩ = some (.int .i64 (13 + s0)) ∧ w'.cell? ⟨w.heap.size, 5, none⟩ = some (.int .i64 (13 + 2 * s0)) ∧ w'.cell? ⟨w.heap.size, 6, none⟩ = some (.int .i64 s0) ∧ w'.cell? ⟨w.heap.size, 7, none⟩ = some (.int .i64 (13 + 3 * s0)) ∧ w'.cell? ⟨w.heap.size, 8, none⟩ = some (.int .i64 g) ∧ w'.cell? ⟨w.heap.size + 1, 0, none⟩ = some (.bool true) ∧ w'.cell? ⟨w.heap.size + 1, 1, none⟩ = some (.int .u64 s) ∧ w'.cell? ⟨w.heap.size + 1, 2, none⟩ = some (.int .i64 f) ∧ w'.cell? ⟨w.heap.size + 1, 3, none⟩ = some (.int .i64 t) ∧ w'.cell? ⟨w.heap.size + 1, 4, none⟩ = some (.int .i64 N))
    (first
      | exact HK4.out
      | exact HK6.out
      | exact HK5.out)
    (first
      | (go_at_call 29; refine (C3.out _).mono ?_; rintro e w5 ⟨rfl, hb5⟩; have HB5 := Lib.hid (HB4.out.trans ((below_of_drew hb5).mono HB4.out.size)); have HK5 := Lib.hid (HK.out w5 HB5.out))
      | (go_at_call 28; refine (C4.out _).mono ?_; rintro e w6 ⟨rfl, hb6⟩; have HB6 := Lib.hid (HB5.out.trans (hb6.mono HB5.out.size)); have HK6 := Lib.hid (HK.out w6 HB6.out)))
  go_wp2
  go_ret2
  exact ⟨rfl, HW.out.trans (HB6.out.mono HW.out.size)⟩
set_option maxRecDepth 100000 in
set_option maxHeartbeats 8000000 in
theorem refredo_ok (a0 s0 g s f t : Int) (N : Nat) (w : World) (h1 : 256 ≤ a0) (h2 : a0 ≤ 65536) (hs : s0 = (a0 - 13) / 8) (hg : g = (a0 - (13 + 3 * s0)) / 32) (hm : mayB (g * 31) s f t N = true) :
    Calls Try.prog 10 #[.agg #[.int .i64 a0, .int .i64 3, .int .i64 13, .int .i64 s0, .int .i64 (13 + s0), .int .i64 (13 + 2 * s0), .int .i64 s0, .int .i64 (13 + 3 * s0), .int .i64 g], .agg #[.bool true, .int .u64 s, .int .i64 f, .int .i64 t, .int .i64 N]] w fun e w' => ∃ v, e = .returned (.tuple #[v, .int .i64 0]) ∧ w'.ownsRow w.heap.size 40 8 v (N + 3) (inR (13 + 3 * s0) t N ++ tailR).flatten ∧ Below w.heap.size w w' := by
  have hj := mayB_more hm
  have hm' := (mayB_iff _ _ _ _ _).1 hm
  have C1 := Lib.hid (fun w1 => right_ok a0 s0 g w1 h1 h2 hs hg)
  have C2 : Hid (∀ w1, Calls Try.prog 33 #[.agg #[.bool true, .int .u64 s, .int .i64 f, .int .i64 t, .int .i64 N]] w1 fun e w' => e = .returned (.bool true) ∧ Below w1.heap.size w1 w') := Lib.hid (fun w1 => by have h := refjmay_any true s f t N w1; rw [show jmayB true s f t N = true from hj] at h; exact h)
  have C3 := Lib.hid (fun w1 => refcapacity_any a0 3 13 s0 (13 + s0) (13 + 2 * s0) s0 (13 + 3 * s0) g w1 (by omega) (by omega))
  have C4 : Hid (∀ w1, Calls Try.prog 28 #[.int .i64 (g * 31), .agg #[.int .u64 s, .int .i64 f, .int .i64 t, .int .i64 N]] w1 fun e w' => e = .returned (.bool true) ∧ Below w1.heap.size w1 w') := Lib.hid (fun w1 => by have h := refmay_any (g * 31) s f t N w1 (by omega) (by omega); rw [hm] at h; exact h)
  have C5 := Lib.hid (fun w1 => last_any a0 13 s0 (13 + s0) (13 + 2 * s0) s0 (13 + 3 * s0) g s f t N w1 (by omega) (by omega) (by omega) (by omega) (by omega) (by omega) (by omega) (by omega))
  clear hj h1 h2 hs hg hm hm'
  go_enter Try.func10, Try.ntmps10
  go_wp2_with fail
  refine (C1.out _).mono ?_
  rintro e w3 ⟨rfl, hb3⟩
  have hBB := fun o q => below2 w o q
  obtain ⟨W2, hW2⟩ : ∃ W2 : World, W2 = (w.alloc (.cells #[.int .i64 a0, .int .i64 3, .int .i64 13, .int .i64 s0, .int .i64 (13 + s0), .int .i64 (13 + 2 * s0), .int .i64 s0, .int .i64 (13 + 3 * s0), .int .i64 g] 29)).alloc (.cells #[.bool true, .int .u64 s, .int .i64 f, .int .i64 t, .int .i64 N] 26) := ⟨_, rfl⟩
  have hb2 : Below w.heap.size w W2 := by rw [hW2]; exact below2 _ _ _
  have hs2 : W2.heap.size = w.heap.size + 2 := by rw [hW2]; simp
  have hK0 : ∀ w' : World, Below W2.heap.size W2 w' → (w'.cell? ⟨w.heap.size, 0, none⟩ = some (.int .i64 a0) ∧ w'.cell? ⟨w.heap.size, 1, none⟩ = some (.int .i64 3) ∧ w'.cell? ⟨w.heap.size, 2, none⟩ = some (.int .i64 13) ∧ w'.cell? ⟨w.heap.size, 3, none⟩ = some (.int .i64 s0) ∧ w'.cell? ⟨w.heap.size, 4, none⟩ = some (.int .i64 (13 + s0)) ∧ w'.cell? ⟨w.heap.size, 5, none⟩ = some (.int .i64 (13 + 2 * s0)) ∧ w'.cell? ⟨w.heap.size, 6, none⟩ = some (.int .i64 s0) ∧ w'.cell? ⟨w.heap.size, 7, none⟩ = some (.int .i64 (13 + 3 * s0)) ∧ w'.cell? ⟨w.heap.size, 8, none⟩ = some (.int .i64 g) ∧ w'.cell? ⟨w.heap.size + 1, 0, none⟩ = some (.bool true) ∧ w'.cell? ⟨w.heap.size + 1, 1, none⟩ = some (.int .u64 s) ∧ w'.cell? ⟨w.heap.size + 1, 2, none⟩ = some (.int .i64 f) ∧ w'.cell? ⟨w.heap.size + 1, 3, none⟩ = some (.int .i64 t) ∧ w'.cell? ⟨w.heap.size + 1, 4, none⟩ = some (.int .i64 N)) := by
    intro w' hb
    have e : ∀ b i, b < w.heap.size + 2 → w'.cell? ⟨b, i, none⟩ = W2.cell? ⟨b, i, none⟩ := fun b i h => hb.cell (p := ⟨b, i, none⟩) (by simp only [hs2]; exact h)
    have l1 : w.heap.size < w.heap.size + 2 := by omega
    have l2 : w.heap.size + 1 < w.heap.size + 2 := by omega
    simp only [e _ _ l1, e _ _ l2, hW2]
    refine ⟨?_, ?_, ?_, ?_, ?_, ?_, ?_, ?_, ?_, ?_, ?_, ?_, ?_, ?_⟩ <;> go_simp
  rw [← hW2] at hb3
  have HK := Lib.hid hK0
  have HS := Lib.hid hs2
  have HW := Lib.hid hb2
  have HB3 := Lib.hid hb3
  clear hK0 hb2 hW2 hs2 hBB hb3
  obtain ⟨k0, k1, k2, k3, k4, k5, k6, k7, k8, m0, m1, m2, m3, m4⟩ := HK.out w3 HB3.out
  go_wp2_with fail
  refine (C2.out _).mono ?_
  rintro e w4 ⟨rfl, hb4⟩
  have HB4 := Lib.hid (HB3.out.trans (hb4.mono HB3.out.size))
  have HK4 := Lib.hid (HK.out w4 HB4.out)
  clear k0 k1 k2 k3 k4 k5 k6 k7 k8 m0 m1 m2 m3 m4 hb4
  obtain ⟨k0, k1, k2, k3, k4, k5, k6, k7, k8, m0, m1, m2, m3, m4⟩ := HK.out w4 HB4.out
  go_wp2_with fail
  go_region_held3 (fun w' => w'.cell? ⟨w.heap.size, 0, none⟩ = some (.int .i64 a0) ∧ w'.cell? ⟨w.heap.size, 1, none⟩ = some (.int .i64 3) ∧ w'.cell? ⟨w.heap.size, 2, none⟩ = some (.int .i64 13) ∧ w'.cell? ⟨w.heap.size, 3, none⟩ = some (.int .i64 s0) ∧ w'.cell? ⟨w.heap.size, 4, none⟩ = some (.int .i64 (13 + s0)) ∧ w'.cell? ⟨w.heap.size, 5, none⟩ = some (.int .i64 (13 + 2 * s0)) ∧ w'.cell? ⟨w.heap.size, 6, none⟩ = some (.int .i64 s0) ∧ w'.cell? ⟨w.heap.size, 7, none⟩ = some (.int .i64 (13 + 3 * s0)) ∧ w'.cell? ⟨w.heap.size, 8, none⟩ = some (.int .i64 g) ∧ w'.cell? ⟨w.heap.size + 1, 0, none⟩ = some (.bool true) ∧ w'.cell? ⟨w.heap.size + 1, 1, none⟩ = some (.int .u64 s) ∧ w'.cell? ⟨w.heap.size + 1, 2, none⟩ = some (.int .i64 f) ∧ w'.cell? ⟨w.heap.size + 1, 3, none⟩ = some (.int .i64 t) ∧ w'.cell? ⟨w.heap.size + 1, 4, none⟩ = some (.int .i64 N))
    (first
      | exact HK4.out
      | exact HK6.out
      | exact HK5.out)
    (first
      | (go_at_call 29; refine (C3.out _).mono ?_; rintro e w5 ⟨rfl, hb5⟩; have HB5 := Lib.hid (HB4.out.trans ((below_of_drew hb5).mono HB4.out.size)); have HK5 := Lib.hid (HK.out w5 HB5.out))
      | (go_at_call 28; refine (C4.out _).mono ?_; rintro e w6 ⟨rfl, hb6⟩; have HB6 := Lib.hid (HB5.out.trans (hb6.mono HB5.out.size)); have HK6 := Lib.hid (HK.out w6 HB6.out)))
  clear k0 k1 k2 k3 k4 k5 k6 k7 k8 m0 m1 m2 m3 m4
  obtain ⟨k0, k1, k2, k3, k4, k5, k6, k7, k8, m0, m1, m2, m3, m4⟩ := HK6.out
  go_wp2_with fail
  refine (C5.out _).mono ?_
  rintro e w8 ⟨v8, rfl, hown8, hb8⟩
  obtain ⟨A8, c8, rfl, hc8⟩ := own_sh hown8
  have HB8 := Lib.hid (HB6.out.trans (hb8.mono HB6.out.size))
  have HO8 := Lib.hid (own_mono hown8 HB6.out.size)
  clear hown8 hb8
  go_wp2
  go_ret2
  exact ⟨_, rfl, own_mono HO8.out HW.out.size, HW.out.trans (HB8.out.mono HW.out.size)⟩
end Go.Proofs.Ythjbjlokpcpceaa
