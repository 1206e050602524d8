/- The walk of SlipCosts: whatever is handed in, it answers true and writes nothing that was there. -/
import Derived.Test.YthjbjlokpcpceaaSlipActsWalk
import Derived.Test.YthjbjlokpcpceaaRegion
namespace Go.Proofs.Ythjbjlokpcpceaa
open Go.RowKit
set_option linter.unusedVariables false

set_option maxRecDepth 100000 in
set_option maxHeartbeats 4000000 in
theorem costs_bad (n s f t N l0 l1 l2 l3 l4 l5 l6 l7 l8 er e1 e2 : Int) (rows : List (List Value)) (w : World) (he : er ≠ 0 ∨ (er = 0 ∧ e1 ≠ 0))
    (hP : ∀ w : World, Calls Try.prog 6 #[.int .i64 n] w fun e w' => e = .returned (.tuple #[.agg #[.int .i64 l0, .int .i64 l1, .int .i64 l2, .int .i64 l3, .int .i64 l4, .int .i64 l5, .int .i64 l6, .int .i64 l7, .int .i64 l8], .int .i64 er]) ∧ Below w.heap.size w w')
    (hA : ActsAns 7 (.agg #[.int .i64 l0, .int .i64 l1, .int .i64 l2, .int .i64 l3, .int .i64 l4, .int .i64 l5, .int .i64 l6, .int .i64 l7, .int .i64 l8]) (.agg #[.int .u64 s, .int .i64 f, .int .i64 t, .int .i64 N]) e1 [])
    (hR : ActsAns 9 (.agg #[.int .i64 l0, .int .i64 l1, .int .i64 l2, .int .i64 l3, .int .i64 l4, .int .i64 l5, .int .i64 l6, .int .i64 l7, .int .i64 l8]) (.agg #[.bool true, .int .u64 s, .int .i64 f, .int .i64 t, .int .i64 N]) e2 rows) :
    Calls Try.prog 4 #[.int .i64 n, .agg #[.int .u64 s, .int .i64 f, .int .i64 t, .int .i64 N]] w fun e w' => e = .returned (.bool true) ∧ Below w.heap.size w w' := by
  have P := Lib.hid hP
  have A1 := Lib.hid (fun w1 => ans_calls hA w1)
  have A2 := Lib.hid (fun w1 => ans_calls hR w1)
  have AW := Lib.hid (fun w1 => awake25 w1)
  simp only [List.length_nil, List.flatten_nil] at A1
  generalize rows.flatten = x2 at *
  generalize rows.length = n2 at *
  clear hP hA hR
  rcases he with he | ⟨he, he1⟩
  · have q1 : (er != 0) = true := by simpa using he
    clear he
    go_enter Try.func4, Try.ntmps4
    go_wp2_with fail
    refine (P.out _).mono ?_
    rintro e w1 ⟨rfl, hb1⟩
    go_upto_region 2 with fail
    have hz1 : w.heap.size < w1.heap.size := by have := hb1.size; simp at this; omega
    obtain ⟨W3, hW3⟩ : ∃ W3 : World, W3 = w1.alloc (.cells #[.int .i64 l0, .int .i64 l1, .int .i64 l2, .int .i64 l3, .int .i64 l4, .int .i64 l5, .int .i64 l6, .int .i64 l7, .int .i64 l8] 29) := ⟨_, rfl⟩
    have hb3 : Below w.heap.size w W3 := by rw [hW3]; exact ((below1 w _).trans (hb1.mono (below1 w _).size)).alloc (by omega) _
    have hK0 : ∀ w' : World, Below W3.heap.size W3 w' → (w'.cell? ⟨w1.heap.size, 0, none⟩ = some (.int .i64 l0) ∧ w'.cell? ⟨w1.heap.size, 1, none⟩ = some (.int .i64 l1) ∧ w'.cell? ⟨w1.heap.size, 2, none⟩ = some (.int .i64 l2) ∧ w'.cell? ⟨w1.heap.size, 3, none⟩ = some (.int .i64 l3) ∧ w'.cell? ⟨w1.heap.size, 4, none⟩ = some (.int .i64 l4) ∧ w'.cell? ⟨w1.heap.size, 5, none⟩ = some (.int .i64 l5) ∧ w'.cell? ⟨w1.heap.size, 6, none⟩ = some (.int .i64 l6) ∧ w'.cell? ⟨w1.heap.size, 7, none⟩ = some (.int .i64 l7) ∧ w'.cell? ⟨w1.heap.size, 8, none⟩ = some (.int .i64 l8) ∧ w'.cell? ⟨w.heap.size, 0, none⟩ = some (.int .u64 s) ∧ w'.cell? ⟨w.heap.size, 1, none⟩ = some (.int .i64 f) ∧ w'.cell? ⟨w.heap.size, 2, none⟩ = some (.int .i64 t) ∧ w'.cell? ⟨w.heap.size, 3, none⟩ = some (.int .i64 N)) := by
      intro w' hb
      have hs3 : W3.heap.size = w1.heap.size + 1 := by rw [hW3]; simp
      have e1 : ∀ i, w'.cell? ⟨w1.heap.size, i, none⟩ = W3.cell? ⟨w1.heap.size, i, none⟩ := fun i => hb.cell (p := ⟨w1.heap.size, i, none⟩) (by simp only [hs3]; omega)
      have e2 : ∀ i, w'.cell? ⟨w.heap.size, i, none⟩ = W3.cell? ⟨w.heap.size, i, none⟩ := fun i => hb.cell (p := ⟨w.heap.size, i, none⟩) (by simp only [hs3]; omega)
      have e3 : ∀ i, W3.cell? ⟨w.heap.size, i, none⟩ = w1.cell? ⟨w.heap.size, i, none⟩ := fun i => by rw [hW3]; exact ((Below.refl w1.heap.size w1).alloc (Nat.le_refl _) _).cell (p := ⟨w.heap.size, i, none⟩) (by simp only; omega)
      have e4 := fun i => hb1.cell (p := ⟨w.heap.size, i, none⟩) (by simp only [World.size_alloc]; omega)
      simp only [e1, e2, e3, e4]
      rw [hW3]
      refine ⟨?_, ?_, ?_, ?_, ?_, ?_, ?_, ?_, ?_, ?_, ?_, ?_, ?_⟩ <;> go_simp
    rw [← hW3]
    have HK := Lib.hid hK0
    have HW := Lib.hid hb3
    have HBW3 := Lib.hid (Below.refl W3.heap.size W3)
    clear hK0 hb1 hW3 hb3 hz1
    obtain ⟨k0, k1, k2, k3, k4, k5, k6, k7, k8, m0, m1, m2, m3⟩ := HK.out W3 HBW3.out
    go_wp2_with fail
    refine (A1.out _).mono ?_
    rintro e w4 ⟨v4, rfl, hown, hb⟩
    obtain ⟨Av4, cv4, rfl, _, _, hrd, _⟩ := own_rd hown
    have HBw4 := Lib.hid (HBW3.out.trans (hb.mono HBW3.out.size))
    have Rv4 := Lib.hid hrd
    clear hown hrd hb k0 k1 k2 k3 k4 k5 k6 k7 k8 m0 m1 m2 m3
    obtain ⟨k0, k1, k2, k3, k4, k5, k6, k7, k8, m0, m1, m2, m3⟩ := HK.out w4 HBw4.out
    go_wp2_with fail
    refine (A2.out _).mono ?_
    rintro e w5 ⟨v5, rfl, hown, hb⟩
    obtain ⟨Av5, cv5, rfl, _, _, hrd, _⟩ := own_rd hown
    have HBw5 := Lib.hid (HBw4.out.trans (hb.mono HBw4.out.size))
    have Rv5 := Lib.hid hrd
    clear hown hrd hb k0 k1 k2 k3 k4 k5 k6 k7 k8 m0 m1 m2 m3
    go_wp2_with fail
    refine (AW.out _).mono ?_
    rintro e w6 ⟨rfl, hb⟩
    have HBw6 := Lib.hid (HBw5.out.trans (hb.mono HBw5.out.size))
    clear hb
    go_wp2_with fail
    refine (AW.out _).mono ?_
    rintro e w7 ⟨rfl, hb⟩
    have HBw7 := Lib.hid (HBw6.out.trans (hb.mono HBw6.out.size))
    clear hb
    go_wp2
    go_ret
    exact ⟨rfl, HW.out.trans (HBw7.out.mono HW.out.size)⟩
  · subst he
    have q2 : (e1 != 0) = true := by simpa using he1
    clear he1
    go_enter Try.func4, Try.ntmps4
    go_wp2_with fail
    refine (P.out _).mono ?_
    rintro e w1 ⟨rfl, hb1⟩
    go_upto_region 2 with fail
    have hz1 : w.heap.size < w1.heap.size := by have := hb1.size; simp at this; omega
    obtain ⟨W3, hW3⟩ : ∃ W3 : World, W3 = w1.alloc (.cells #[.int .i64 l0, .int .i64 l1, .int .i64 l2, .int .i64 l3, .int .i64 l4, .int .i64 l5, .int .i64 l6, .int .i64 l7, .int .i64 l8] 29) := ⟨_, rfl⟩
    have hb3 : Below w.heap.size w W3 := by rw [hW3]; exact ((below1 w _).trans (hb1.mono (below1 w _).size)).alloc (by omega) _
    have hK0 : ∀ w' : World, Below W3.heap.size W3 w' → (w'.cell? ⟨w1.heap.size, 0, none⟩ = some (.int .i64 l0) ∧ w'.cell? ⟨w1.heap.size, 1, none⟩ = some (.int .i64 l1) ∧ w'.cell? ⟨w1.heap.size, 2, none⟩ = some (.int .i64 l2) ∧ w'.cell? ⟨w1.heap.size, 3, none⟩ = some (.int .i64 l3) ∧ w'.cell? ⟨w1.heap.size, 4, none⟩ = some (.int .i64 l4) ∧ w'.cell? ⟨w1.heap.size, 5, none⟩ = some (.int .i64 l5) ∧ w'.cell? ⟨w1.heap.size, 6, none⟩ = some (.int .i64 l6) ∧ w'.cell? ⟨w1.heap.size, 7, none⟩ = some (.int .i64 l7) ∧ w'.cell? ⟨w1.heap.size, 8, none⟩ = some (.int .i64 l8) ∧ w'.cell? ⟨w.heap.size, 0, none⟩ = some (.int .u64 s) ∧ w'.cell? ⟨w.heap.size, 1, none⟩ = some (.int .i64 f) ∧ w'.cell? ⟨w.heap.size, 2, none⟩ = some (.int .i64 t) ∧ w'.cell? ⟨w.heap.size, 3, none⟩ = some (.int .i64 N)) := by
      intro w' hb
      have hs3 : W3.heap.size = w1.heap.size + 1 := by rw [hW3]; simp
      have e1 : ∀ i, w'.cell? ⟨w1.heap.size, i, none⟩ = W3.cell? ⟨w1.heap.size, i, none⟩ := fun i => hb.cell (p := ⟨w1.heap.size, i, none⟩) (by simp only [hs3]; omega)
      have e2 : ∀ i, w'.cell? ⟨w.heap.size, i, none⟩ = W3.cell? ⟨w.heap.size, i, none⟩ := fun i => hb.cell (p := ⟨w.heap.size, i, none⟩) (by simp only [hs3]; omega)
      have e3 : ∀ i, W3.cell? ⟨w.heap.size, i, none⟩ = w1.cell? ⟨w.heap.size, i, none⟩ := fun i => by rw [hW3]; exact ((Below.refl w1.heap.size w1).alloc (Nat.le_refl _) _).cell (p := ⟨w.heap.size, i, none⟩) (by simp only; omega)
      have e4 := fun i => hb1.cell (p := ⟨w.heap.size, i, none⟩) (by simp only [World.size_alloc]; omega)
      simp only [e1, e2, e3, e4]
      rw [hW3]
      refine ⟨?_, ?_, ?_, ?_, ?_, ?_, ?_, ?_, ?_, ?_, ?_, ?_, ?_⟩ <;> go_simp
    rw [← hW3]
    have HK := Lib.hid hK0
    have HW := Lib.hid hb3
    have HBW3 := Lib.hid (Below.refl W3.heap.size W3)
    clear hK0 hb1 hW3 hb3 hz1
    obtain ⟨k0, k1, k2, k3, k4, k5, k6, k7, k8, m0, m1, m2, m3⟩ := HK.out W3 HBW3.out
    go_wp2_with fail
    refine (A1.out _).mono ?_
    rintro e w4 ⟨v4, rfl, hown, hb⟩
    obtain ⟨Av4, cv4, rfl, _, _, hrd, _⟩ := own_rd hown
    have HBw4 := Lib.hid (HBW3.out.trans (hb.mono HBW3.out.size))
    have Rv4 := Lib.hid hrd
    clear hown hrd hb k0 k1 k2 k3 k4 k5 k6 k7 k8 m0 m1 m2 m3
    obtain ⟨k0, k1, k2, k3, k4, k5, k6, k7, k8, m0, m1, m2, m3⟩ := HK.out w4 HBw4.out
    go_wp2_with fail
    refine (A2.out _).mono ?_
    rintro e w5 ⟨v5, rfl, hown, hb⟩
    obtain ⟨Av5, cv5, rfl, _, _, hrd, _⟩ := own_rd hown
    have HBw5 := Lib.hid (HBw4.out.trans (hb.mono HBw4.out.size))
    have Rv5 := Lib.hid hrd
    clear hown hrd hb k0 k1 k2 k3 k4 k5 k6 k7 k8 m0 m1 m2 m3
    go_wp2_with fail
    refine (AW.out _).mono ?_
    rintro e w6 ⟨rfl, hb⟩
    have HBw6 := Lib.hid (HBw5.out.trans (hb.mono HBw5.out.size))
    clear hb
    go_wp2_with fail
    refine (AW.out _).mono ?_
    rintro e w7 ⟨rfl, hb⟩
    have HBw7 := Lib.hid (HBw6.out.trans (hb.mono HBw6.out.size))
    clear hb
    go_wp2
    go_ret
    exact ⟨rfl, HW.out.trans (HBw7.out.mono HW.out.size)⟩
end Go.Proofs.Ythjbjlokpcpceaa
