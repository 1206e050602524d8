/- Contracts: slip.Acts where the move may not be; dunnageref25.Acts. -/
import Derived.Test.YthjbjlokpcpceaaActs2
namespace Go.Proofs.Ythjbjlokpcpceaa
open Go.RowKit
set_option linter.unusedVariables false

set_option maxRecDepth 100000 in
set_option maxHeartbeats 8000000 in
theorem acts_no (a0 s0 g s f t N : Int) (w : World) (h1 : 256 ≤ a0) (h2 : a0 ≤ 65536) (hs : s0 = (a0 - 13) / 8) (hg : g = (a0 - (13 + 3 * s0)) / 32) (hm : mayB (g * 31) s f t N = false) :
    Calls Try.prog 7 #[.agg #[.int .i64 a0, .int .i64 3, .int .i64 13, .int .i64 s0, .int .i64 (13 + s0), .int .i64 (13 + 2 * s0), .int .i64 s0, .int .i64 (13 + 3 * s0), .int .i64 g], .agg #[.int .u64 s, .int .i64 f, .int .i64 t, .int .i64 N]] w fun e w' => e = .returned (.tuple #[.slice none 0 0, .int .i64 1]) ∧ Below w.heap.size w w' := by
  have C1 := Lib.hid (fun w1 => planned_ok a0 s0 g w1 h1 h2 hs hg)
  have C2 := Lib.hid (fun w1 => capacity_any a0 3 13 s0 (13 + s0) (13 + 2 * s0) s0 (13 + 3 * s0) g w1 (by omega) (by omega))
  have C3 : Hid (∀ w1, Calls Try.prog 23 #[.int .i64 (g * 31), .agg #[.int .u64 s, .int .i64 f, .int .i64 t, .int .i64 N]] w1 fun e w' => e = .returned (.bool false) ∧ Below w1.heap.size w1 w') := Lib.hid (fun w1 => by exact may_false (g * 31) s f t N w1 (by omega) (by omega) hm)
  clear hm h1 h2 hs hg
  go_enter Try.func7, Try.ntmps7
  go_wp2_with fail
  have hBB := fun o q => below2 w o q
  obtain ⟨W2, hW2⟩ : ∃ W2 : World, W2 = (w.alloc (.cells #[.int .i64 a0, .int .i64 3, .int .i64 13, .int .i64 s0, .int .i64 (13 + s0), .int .i64 (13 + 2 * s0), .int .i64 s0, .int .i64 (13 + 3 * s0), .int .i64 g] 29)).alloc (.cells #[.int .u64 s, .int .i64 f, .int .i64 t, .int .i64 N] 24) := ⟨_, rfl⟩
  have hb2 : Below w.heap.size w W2 := by rw [hW2]; exact below2 _ _ _
  have hs2 : W2.heap.size = w.heap.size + 2 := by rw [hW2]; simp
  have hK0 : ∀ w' : World, Below W2.heap.size W2 w' → (w'.cell? ⟨w.heap.size, 0, none⟩ = some (.int .i64 a0) ∧ w'.cell? ⟨w.heap.size, 1, none⟩ = some (.int .i64 3) ∧ w'.cell? ⟨w.heap.size, 2, none⟩ = some (.int .i64 13) ∧ w'.cell? ⟨w.heap.size, 3, none⟩ = some (.int .i64 s0) ∧ w'.cell? ⟨w.heap.size, 4, none⟩ = some (.int .i64 (13 + s0)) ∧ w'.cell? ⟨w.heap.size, 5, none⟩ = some (.int .i64 (13 + 2 * s0)) ∧ w'.cell? ⟨w.heap.size, 6, none⟩ = some (.int .i64 s0) ∧ w'.cell? ⟨w.heap.size, 7, none⟩ = some (.int .i64 (13 + 3 * s0)) ∧ w'.cell? ⟨w.heap.size, 8, none⟩ = some (.int .i64 g) ∧ w'.cell? ⟨w.heap.size + 1, 0, none⟩ = some (.int .u64 s) ∧ w'.cell? ⟨w.heap.size + 1, 1, none⟩ = some (.int .i64 f) ∧ w'.cell? ⟨w.heap.size + 1, 2, none⟩ = some (.int .i64 t) ∧ w'.cell? ⟨w.heap.size + 1, 3, none⟩ = some (.int .i64 N)) := by
    intro w' hb
    have e : ∀ b i, b < w.heap.size + 2 → w'.cell? ⟨b, i, none⟩ = W2.cell? ⟨b, i, none⟩ := fun b i h => hb.cell (p := ⟨b, i, none⟩) (by simp only [hs2]; exact h)
    have l1 : w.heap.size < w.heap.size + 2 := by omega
    have l2 : w.heap.size + 1 < w.heap.size + 2 := by omega
    simp only [e _ _ l1, e _ _ l2, hW2]
    refine ⟨?_, ?_, ?_, ?_, ?_, ?_, ?_, ?_, ?_, ?_, ?_, ?_, ?_⟩ <;> go_simp
  rw [← hW2]
  have HK := Lib.hid hK0
  have HS := Lib.hid hs2
  have HW := Lib.hid hb2
  have HK2 := Lib.hid (HK.out _ (Below.refl _ W2))
  clear hK0 hb2 hW2 hs2 hBB
  go_region_held3 (fun w' => w'.cell? ⟨w.heap.size, 0, none⟩ = some (.int .i64 a0) ∧ w'.cell? ⟨w.heap.size, 1, none⟩ = some (.int .i64 3) ∧ w'.cell? ⟨w.heap.size, 2, none⟩ = some (.int .i64 13) ∧ w'.cell? ⟨w.heap.size, 3, none⟩ = some (.int .i64 s0) ∧ w'.cell? ⟨w.heap.size, 4, none⟩ = some (.int .i64 (13 + s0)) ∧ w'.cell? ⟨w.heap.size, 5, none⟩ = some (.int .i64 (13 + 2 * s0)) ∧ w'.cell? ⟨w.heap.size, 6, none⟩ = some (.int .i64 s0) ∧ w'.cell? ⟨w.heap.size, 7, none⟩ = some (.int .i64 (13 + 3 * s0)) ∧ w'.cell? ⟨w.heap.size, 8, none⟩ = some (.int .i64 g) ∧ w'.cell? ⟨w.heap.size + 1, 0, none⟩ = some (.int .u64 s) ∧ w'.cell? ⟨w.heap.size + 1, 1, none⟩ = some (.int .i64 f) ∧ w'.cell? ⟨w.heap.size + 1, 2, none⟩ = some (.int .i64 t) ∧ w'.cell? ⟨w.heap.size + 1, 3, none⟩ = some (.int .i64 N))
    (first
      | exact HK2.out
      | exact HK5.out
      | exact HK4.out
      | exact HK3.out)
    (first
      | (go_at_call 22; refine (C1.out _).mono ?_; rintro e w3 ⟨rfl, hb3⟩; have HB3 := Lib.hid (below_of_drew hb3); have HK3 := Lib.hid (HK.out w3 HB3.out))
      | (go_at_call 24; refine (C2.out _).mono ?_; rintro e w4 ⟨rfl, hb4⟩; have HB4 := Lib.hid (HB3.out.trans (hb4.mono HB3.out.size)); have HK4 := Lib.hid (HK.out w4 HB4.out))
      | (go_at_call 23; refine (C3.out _).mono ?_; rintro e w5 ⟨rfl, hb5⟩; have HB5 := Lib.hid (HB4.out.trans (hb5.mono HB4.out.size)); have HK5 := Lib.hid (HK.out w5 HB5.out)))
  go_wp2
  go_ret2
  exact ⟨rfl, HW.out.trans (HB5.out.mono HW.out.size)⟩
set_option maxRecDepth 100000 in
set_option maxHeartbeats 4000000 in
theorem acts_zero (s f t N : Int) (w : World) :
    Calls Try.prog 7 #[.agg #[.int .i64 0, .int .i64 0, .int .i64 0, .int .i64 0, .int .i64 0, .int .i64 0, .int .i64 0, .int .i64 0, .int .i64 0], .agg #[.int .u64 s, .int .i64 f, .int .i64 t, .int .i64 N]] w fun e w' => e = .returned (.tuple #[.slice none 0 0, .int .i64 1]) ∧ Below w.heap.size w w' := by
  have C1 := Lib.hid (fun w1 => planned_bad w1)
  go_enter Try.func7, Try.ntmps7
  go_wp2_with fail
  go_region_with (go_at_call 22; refine (C1.out _).mono ?_; rintro e w3 ⟨rfl, hb3⟩; have HB3 := Lib.hid (((below2 w _ _).drew).trans (hb3.mono ((below2 w _ _).drew).size)); clear hb3)
  all_goals go_wp2
  all_goals (go_ret2; exact ⟨rfl, HB3.out⟩)
set_option maxRecDepth 100000 in
set_option maxHeartbeats 8000000 in
theorem refacts_no (a0 s0 g s f t N : Int) (w : World) (h1 : 256 ≤ a0) (h2 : a0 ≤ 65536) (hs : s0 = (a0 - 13) / 8) (hg : g = (a0 - (13 + 3 * s0)) / 32) (hm : mayB (g * 31) s f t N = false) :
    Calls Try.prog 8 #[.agg #[.int .i64 a0, .int .i64 3, .int .i64 13, .int .i64 s0, .int .i64 (13 + s0), .int .i64 (13 + 2 * s0), .int .i64 s0, .int .i64 (13 + 3 * s0), .int .i64 g], .agg #[.int .u64 s, .int .i64 f, .int .i64 t, .int .i64 N]] w fun e w' => e = .returned (.tuple #[.slice none 0 0, .int .i64 1]) ∧ Below w.heap.size w w' := by
  have C1 := Lib.hid (fun w1 => right_ok a0 s0 g w1 h1 h2 hs hg)
  have C2 := Lib.hid (fun w1 => refcapacity_any a0 3 13 s0 (13 + s0) (13 + 2 * s0) s0 (13 + 3 * s0) g w1 (by omega) (by omega))
  have C3 : Hid (∀ w1, Calls Try.prog 28 #[.int .i64 (g * 31), .agg #[.int .u64 s, .int .i64 f, .int .i64 t, .int .i64 N]] w1 fun e w' => e = .returned (.bool false) ∧ Below w1.heap.size w1 w') := Lib.hid (fun w1 => by have h := refmay_any (g * 31) s f t N w1 (by omega) (by omega); rw [hm] at h; exact h)
  clear hm h1 h2 hs hg
  go_enter Try.func8, Try.ntmps8
  go_wp2_with fail
  have hBB := fun o q => below2 w o q
  obtain ⟨W2, hW2⟩ : ∃ W2 : World, W2 = (w.alloc (.cells #[.int .i64 a0, .int .i64 3, .int .i64 13, .int .i64 s0, .int .i64 (13 + s0), .int .i64 (13 + 2 * s0), .int .i64 s0, .int .i64 (13 + 3 * s0), .int .i64 g] 29)).alloc (.cells #[.int .u64 s, .int .i64 f, .int .i64 t, .int .i64 N] 24) := ⟨_, rfl⟩
  have hb2 : Below w.heap.size w W2 := by rw [hW2]; exact below2 _ _ _
  have hs2 : W2.heap.size = w.heap.size + 2 := by rw [hW2]; simp
  have hK0 : ∀ w' : World, Below W2.heap.size W2 w' → (w'.cell? ⟨w.heap.size, 0, none⟩ = some (.int .i64 a0) ∧ w'.cell? ⟨w.heap.size, 1, none⟩ = some (.int .i64 3) ∧ w'.cell? ⟨w.heap.size, 2, none⟩ = some (.int .i64 13) ∧ w'.cell? ⟨w.heap.size, 3, none⟩ = some (.int .i64 s0) ∧ w'.cell? ⟨w.heap.size, 4, none⟩ = some (.int .i64 (13 + s0)) ∧ w'.cell? ⟨w.heap.size, 5, none⟩ = some (.int .i64 (13 + 2 * s0)) ∧ w'.cell? ⟨w.heap.size, 6, none⟩ = some (.int .i64 s0) ∧ w'.cell? ⟨w.heap.size, 7, none⟩ = some (.int .i64 (13 + 3 * s0)) ∧ w'.cell? ⟨w.heap.size, 8, none⟩ = some (.int .i64 g) ∧ w'.cell? ⟨w.heap.size + 1, 0, none⟩ = some (.int .u64 s) ∧ w'.cell? ⟨w.heap.size + 1, 1, none⟩ = some (.int .i64 f) ∧ w'.cell? ⟨w.heap.size + 1, 2, none⟩ = some (.int .i64 t) ∧ w'.cell? ⟨w.heap.size + 1, 3, none⟩ = some (.int .i64 N)) := by
    intro w' hb
    have e : ∀ b i, b < w.heap.size + 2 → w'.cell? ⟨b, i, none⟩ = W2.cell? ⟨b, i, none⟩ := fun b i h => hb.cell (p := ⟨b, i, none⟩) (by simp only [hs2]; exact h)
    have l1 : w.heap.size < w.heap.size + 2 := by omega
    have l2 : w.heap.size + 1 < w.heap.size + 2 := by omega
    simp only [e _ _ l1, e _ _ l2, hW2]
    refine ⟨?_, ?_, ?_, ?_, ?_, ?_, ?_, ?_, ?_, ?_, ?_, ?_, ?_⟩ <;> go_simp
  rw [← hW2]
  have HK := Lib.hid hK0
  have HS := Lib.hid hs2
  have HW := Lib.hid hb2
  have HK2 := Lib.hid (HK.out _ (Below.refl _ W2))
  clear hK0 hb2 hW2 hs2 hBB
  go_region_held3 (fun w' => w'.cell? ⟨w.heap.size, 0, none⟩ = some (.int .i64 a0) ∧ w'.cell? ⟨w.heap.size, 1, none⟩ = some (.int .i64 3) ∧ w'.cell? ⟨w.heap.size, 2, none⟩ = some (.int .i64 13) ∧ w'.cell? ⟨w.heap.size, 3, none⟩ = some (.int .i64 s0) ∧ w'.cell? ⟨w.heap.size, 4, none⟩ = some (.int .i64 (13 + s0)) ∧ w'.cell? ⟨w.heap.size, 5, none⟩ = some (.int .i64 (13 + 2 * s0)) ∧ w'.cell? ⟨w.heap.size, 6, none⟩ = some (.int .i64 s0) ∧ w'.cell? ⟨w.heap.size, 7, none⟩ = some (.int .i64 (13 + 3 * s0)) ∧ w'.cell? ⟨w.heap.size, 8, none⟩ = some (.int .i64 g) ∧ w'.cell? ⟨w.heap.size + 1, 0, none⟩ = some (.int .u64 s) ∧ w'.cell? ⟨w.heap.size + 1, 1, none⟩ = some (.int .i64 f) ∧ w'.cell? ⟨w.heap.size + 1, 2, none⟩ = some (.int .i64 t) ∧ w'.cell? ⟨w.heap.size + 1, 3, none⟩ = some (.int .i64 N))
    (first
      | exact HK2.out
      | exact HK5.out
      | exact HK4.out
      | exact HK3.out)
    (first
      | (go_at_call 27; refine (C1.out _).mono ?_; rintro e w3 ⟨rfl, hb3⟩; have HB3 := Lib.hid (below_of_drew hb3); have HK3 := Lib.hid (HK.out w3 HB3.out))
      | (go_at_call 29; refine (C2.out _).mono ?_; rintro e w4 ⟨rfl, hb4⟩; have HB4 := Lib.hid (HB3.out.trans (hb4.mono HB3.out.size)); have HK4 := Lib.hid (HK.out w4 HB4.out))
      | (go_at_call 28; refine (C3.out _).mono ?_; rintro e w5 ⟨rfl, hb5⟩; have HB5 := Lib.hid (HB4.out.trans (hb5.mono HB4.out.size)); have HK5 := Lib.hid (HK.out w5 HB5.out)))
  go_wp2
  go_ret2
  exact ⟨rfl, HW.out.trans (HB5.out.mono HW.out.size)⟩
set_option maxRecDepth 100000 in
set_option maxHeartbeats 4000000 in
theorem refacts_zero (s f t N : Int) (w : World) :
    Calls Try.prog 8 #[.agg #[.int .i64 0, .int .i64 0, .int .i64 0, .int .i64 0, .int .i64 0, .int .i64 0, .int .i64 0, .int .i64 0, .int .i64 0], .agg #[.int .u64 s, .int .i64 f, .int .i64 t, .int .i64 N]] w fun e w' => e = .returned (.tuple #[.slice none 0 0, .int .i64 1]) ∧ Below w.heap.size w w' := by
  have C1 := Lib.hid (fun w1 => right_bad w1)
  go_enter Try.func8, Try.ntmps8
  go_wp2_with fail
  go_region_with (go_at_call 27; refine (C1.out _).mono ?_; rintro e w3 ⟨rfl, hb3⟩; have HB3 := Lib.hid (((below2 w _ _).drew).trans (hb3.mono ((below2 w _ _).drew).size)); clear hb3)
  all_goals go_wp2
  all_goals (go_ret2; exact ⟨rfl, HB3.out⟩)
end Go.Proofs.Ythjbjlokpcpceaa
