/- Contracts: dunnageref25.Acts where the move may be. -/
import Derived.Test.YthjbjlokpcpceaaActs3
namespace Go.Proofs.Ythjbjlokpcpceaa
open Go.RowKit
set_option linter.unusedVariables false

set_option maxRecDepth 100000 in
set_option maxHeartbeats 8000000 in
theorem refacts_ok (a0 s0 g s f t : Int) (N : Nat) (w : World) (h1 : 256 ≤ a0) (h2 : a0 ≤ 65536) (hs : s0 = (a0 - 13) / 8) (hg : g = (a0 - (13 + 3 * s0)) / 32) (hm : mayB (g * 31) s f t N = true) :
    Calls Try.prog 8 #[.agg #[.int .i64 a0, .int .i64 3, .int .i64 13, .int .i64 s0, .int .i64 (13 + s0), .int .i64 (13 + 2 * s0), .int .i64 s0, .int .i64 (13 + 3 * s0), .int .i64 g], .agg #[.int .u64 s, .int .i64 f, .int .i64 t, .int .i64 N]] w fun e w' => ∃ v, e = .returned (.tuple #[v, .int .i64 0]) ∧ w'.ownsRow w.heap.size 40 8 v (N + 3 + (N + 3)) (outR (13 + 3 * s0) f N ++ midR s f t N ++ (inR (13 + 3 * s0) t N ++ tailR)).flatten ∧ Below w.heap.size w w' := by
  have hm' := (mayB_iff _ _ _ _ _).1 hm
  have C1 := Lib.hid (fun w1 => right_ok a0 s0 g w1 h1 h2 hs hg)
  have C2 := Lib.hid (fun w1 => refcapacity_any a0 3 13 s0 (13 + s0) (13 + 2 * s0) s0 (13 + 3 * s0) g w1 (by omega) (by omega))
  have C3 : Hid (∀ w1, Calls Try.prog 28 #[.int .i64 (g * 31), .agg #[.int .u64 s, .int .i64 f, .int .i64 t, .int .i64 N]] w1 fun e w' => e = .returned (.bool true) ∧ Below w1.heap.size w1 w') := Lib.hid (fun w1 => by have h := refmay_any (g * 31) s f t N w1 (by omega) (by omega); rw [hm] at h; exact h)
  have C := Lib.hid (fun (w1 : World) (k : Nat) (hk : k < N) => refphys_in a0 3 13 s0 (13 + s0) (13 + 2 * s0) s0 (13 + 3 * s0) g (f + k) w1 (by omega) (by omega) (by omega) (by omega) (by omega) (by omega))
  have C5 := Lib.hid (fun w1 => last_any a0 13 s0 (13 + s0) (13 + 2 * s0) s0 (13 + 3 * s0) g s f t N w1 (by omega) (by omega) (by omega) (by omega) (by omega) (by omega) (by omega) (by omega))
  have hN9 : N ≤ 9 := by omega
  have hf0 : 0 ≤ f := by omega
  have hf1 : f ≤ 65536 := by omega
  have hN1 : 1 ≤ N := by omega
  clear hm hm' h1 h2 hs hg
  go_enter Try.func8, Try.ntmps8
  go_wp2_with fail
  have hBB := fun o q => below2 w o q
  obtain ⟨W2, hW2⟩ : ∃ W2 : World, W2 = (w.alloc (.cells #[.int .i64 a0, .int .i64 3, .int .i64 13, .int .i64 s0, .int .i64 (13 + s0), .int .i64 (13 + 2 * s0), .int .i64 s0, .int .i64 (13 + 3 * s0), .int .i64 g] 29)).alloc (.cells #[.int .u64 s, .int .i64 f, .int .i64 t, .int .i64 N] 24) := ⟨_, rfl⟩
  have hb2 : Below w.heap.size w W2 := by rw [hW2]; exact below2 _ _ _
  have hs2 : W2.heap.size = w.heap.size + 2 := by rw [hW2]; simp
  have hK0 : ∀ w' : World, Below W2.heap.size W2 w' → (w'.cell? ⟨w.heap.size, 0, none⟩ = some (.int .i64 a0) ∧ w'.cell? ⟨w.heap.size, 1, none⟩ = some (.int .i64 3) ∧ w'.cell? ⟨w.heap.size, 2, none⟩ = some (.int .i64 13) ∧ w'.cell? ⟨w.heap.size, 3, none⟩ = some (.int .i64 s0) ∧ w'.cell? ⟨w.heap.size, 4, none⟩ = some (.int .i64 (13 + s0)) ∧ w'.cell? ⟨w.heap.size, 5, none⟩ = some (.int .i64 (13 + 2 * s0)) ∧ w'.cell? ⟨w.heap.size, 6, none⟩ = some (.int .i64 s0) ∧ w'.cell? ⟨w.heap.size, 7, none⟩ = some (.int .i64 (13 + 3 * s0)) ∧ w'.cell? ⟨w.heap.size, 8, none⟩ = some (.int .i64 g) ∧ w'.cell? ⟨w.heap.size + 1, 0, none⟩ = some (.int .u64 s) ∧ w'.cell? ⟨w.heap.size + 1, 1, none⟩ = some (.int .i64 f) ∧ w'.cell? ⟨w.heap.size + 1, 2, none⟩ = some (.int .i64 t) ∧ w'.cell? ⟨w.heap.size + 1, 3, none⟩ = some (.int .i64 N)) := by
    intro w' hb
    have e : ∀ b i, b < w.heap.size + 2 → w'.cell? ⟨b, i, none⟩ = W2.cell? ⟨b, i, none⟩ := fun b i h => hb.cell (p := ⟨b, i, none⟩) (by simp only [hs2]; exact h)
    have l1 : w.heap.size < w.heap.size + 2 := by omega
    have l2 : w.heap.size + 1 < w.heap.size + 2 := by omega
    simp only [e _ _ l1, e _ _ l2, hW2]
    refine ⟨?_, ?_, ?_, ?_, ?_, ?_, ?_, ?_, ?_, ?_, ?_, ?_, ?_⟩ <;> go_simp
  rw [← hW2]
  have HK := Lib.hid hK0
  have HS := Lib.hid hs2
  have HW := Lib.hid hb2
  have HK2 := Lib.hid (HK.out _ (Below.refl _ W2))
  clear hK0 hb2 hW2 hs2 hBB
  go_region_held3 (fun w' => w'.cell? ⟨w.heap.size, 0, none⟩ = some (.int .i64 a0) ∧ w'.cell? ⟨w.heap.size, 1, none⟩ = some (.int .i64 3) ∧ w'.cell? ⟨w.heap.size, 2, none⟩ = some (.int .i64 13) ∧ w'.cell? ⟨w.heap.size, 3, none⟩ = some (.int .i64 s0) ∧ w'.cell? ⟨w.heap.size, 4, none⟩ = some (.int .i64 (13 + s0)) ∧ w'.cell? ⟨w.heap.size, 5, none⟩ = some (.int .i64 (13 + 2 * s0)) ∧ w'.cell? ⟨w.heap.size, 6, none⟩ = some (.int .i64 s0) ∧ w'.cell? ⟨w.heap.size, 7, none⟩ = some (.int .i64 (13 + 3 * s0)) ∧ w'.cell? ⟨w.heap.size, 8, none⟩ = some (.int .i64 g) ∧ w'.cell? ⟨w.heap.size + 1, 0, none⟩ = some (.int .u64 s) ∧ w'.cell? ⟨w.heap.size + 1, 1, none⟩ = some (.int .i64 f) ∧ w'.cell? ⟨w.heap.size + 1, 2, none⟩ = some (.int .i64 t) ∧ w'.cell? ⟨w.heap.size + 1, 3, none⟩ = some (.int .i64 N))
    (first
      | exact HK2.out
      | exact HK5.out
      | exact HK4.out
      | exact HK3.out)
    (first
      | (go_at_call 27; refine (C1.out _).mono ?_; rintro e w3 ⟨rfl, hb3⟩; have HB3 := Lib.hid (below_of_drew hb3); have HK3 := Lib.hid (HK.out w3 HB3.out))
      | (go_at_call 29; refine (C2.out _).mono ?_; rintro e w4 ⟨rfl, hb4⟩; have HB4 := Lib.hid (HB3.out.trans (hb4.mono HB3.out.size)); have HK4 := Lib.hid (HK.out w4 HB4.out))
      | (go_at_call 28; refine (C3.out _).mono ?_; rintro e w5 ⟨rfl, hb5⟩; have HB5 := Lib.hid (HB4.out.trans (hb5.mono HB4.out.size)); have HK5 := Lib.hid (HK.out w5 HB5.out)))
  go_wp2_with fail
  go_loopw [6, 7] (fun v i wr => ∃ (k : Nat) (A' : Option Addr) (c' : Nat), k ≤ N ∧ i = .int .i64 k ∧ v = .slice A' k c' ∧ wr.ownsRow W2.heap.size 40 8 (.slice A' k c') k (outR (13 + 3 * s0) f k).flatten ∧ Below W2.heap.size W2 wr) (fun _ i _ => N - (intOf i).toNat)
  case atStart => exact ⟨0, none, 0, by omega, rfl, rfl, World.ownsRow_nil _ _ _ _, HB5.out⟩
  case round =>
    obtain ⟨k, A', c', hk, rfl, rfl, hown, hb⟩ := hrel
    have HO := Lib.hid hown
    have HB := Lib.hid hb
    obtain ⟨k0, k1, k2, k3, k4, k5, k6, k7, k8, m0, m1, m2, m3⟩ := HK.out wr hb
    clear hown hb
    by_cases hlt : k < N
    · have C6 := Lib.hid (fun w1 => C.out w1 k hlt)
      go_wp2_with fail
      refine (C6.out _).mono ?_
      rintro e w6 ⟨rfl, hb6⟩
      have HB6 := Lib.hid (HB.out.trans (hb6.mono HB.out.size))
      have HO6 := Lib.hid (own_kept HO.out hb6)
      clear hb6 k0 k1 k2 k3 k4 k5 k6 k7 k8 m0 m1 m2 m3
      obtain ⟨k0, k1, k2, k3, k4, k5, k6, k7, k8, m0, m1, m2, m3⟩ := HK.out w6 HB6.out
      go_wp2_with (at_builtin; go_must (refine wpList_append_rd rfl _ _ 33 rfl W2.heap.size 40 (.agg #[.int .i64 0, .int .i64 0, .int .i64 0, .bool false, .int .u64 0, .int .i64 0, .int .i64 0, .int .i64 0]) 8 64 Try.underlying33 infoAct rfl (by decide) _ k _ rfl (HO6.out.alloc _) _ 1 1 (actR 1 (phI (13 + 3 * s0) (f + k)) (3 + k) false 0 0 0 0) rfl (by simp) (by rfl) (rd_new _ _ _) (actR_one _ _ _ _ _ _ _ _) (by unfold maxLen; omega) (by omega) (HB6.out.alloc HB6.out.size _).size ?_))
      intro v8 w8 hown8 hg8
      have hb8 := below_app (HB6.out.alloc HB6.out.size _) (HB6.out.alloc HB6.out.size _).size (HO6.out.alloc _) hg8
      have HB8 := Lib.hid hb8
      obtain ⟨A8, c8, rfl, hc8⟩ := own_sh hown8
      rw [← outR_flat] at hown8
      have HO8 := Lib.hid hown8
      clear hown8 hg8 hb8
      go_wp2
      go_roundw
      case rel => exact ⟨k + 1, A8, c8, by omega, by go_num, rfl, HO8.out, HB8.out⟩
      case measure => simp [intOf]; omega
    · obtain rfl : k = N := by omega
      go_wp2_with (at_builtin; go_must (refine wpList_append_rd rfl _ _ 33 rfl W2.heap.size 40 (.agg #[.int .i64 0, .int .i64 0, .int .i64 0, .bool false, .int .u64 0, .int .i64 0, .int .i64 0, .int .i64 0]) 8 64 Try.underlying33 infoAct rfl (by decide) _ k _ rfl (HO.out.alloc _) _ 3 3 (midR s f t k).flatten rfl (by simp) (by rfl) (rd_new _ _ _) (midR_one _ _ _ _) (by unfold maxLen; omega) (by omega) (HB.out.alloc HB.out.size _).size ?_))
      intro v7 w7 hown7 hg7
      have HB7 := Lib.hid (below_app (HB.out.alloc HB.out.size _) (HB.out.alloc HB.out.size _).size (HO.out.alloc _) hg7)
      obtain ⟨A7, c7, rfl, hc7⟩ := own_sh hown7
      have HO7 : Hid (w7.ownsRow W2.heap.size 40 8 (.slice A7 (k + 3) c7) (k + 3) (outR (13 + 3 * s0) f k ++ midR s f t k).flatten) := by
        rw [List.flatten_append]; exact Lib.hid hown7
      clear hown7 hg7 k0 k1 k2 k3 k4 k5 k6 k7 k8 m0 m1 m2 m3
      obtain ⟨k0, k1, k2, k3, k4, k5, k6, k7, k8, m0, m1, m2, m3⟩ := HK.out w7 HB7.out
      go_wp2_with fail
      refine (C5.out _).mono ?_
      rintro e w8 ⟨v8, rfl, hown8, hb8⟩
      obtain ⟨A8, c8, rfl, hnc8, hcm8, hrd8, hlen8⟩ := own_rd hown8
      have HB8 := Lib.hid (HB7.out.trans (hb8.mono HB7.out.size))
      have HO8 := Lib.hid (own_kept HO7.out hb8)
      have HR8 := Lib.hid hrd8
      have hA8 : A8 = none → k + 3 = 0 ∧ c8 = 0 := by
        rintro rfl
        obtain ⟨b, o, h⟩ := hrd8.some_of (by intro e; rw [e] at hlen8; simp at hlen8)
        cases h
      clear hb8 hown8 hrd8 hlen8 k0 k1 k2 k3 k4 k5 k6 k7 k8 m0 m1 m2 m3
      go_wp2_with (at_builtin; go_must (refine wpList_append_rd rfl _ _ 33 rfl W2.heap.size 40 (.agg #[.int .i64 0, .int .i64 0, .int .i64 0, .bool false, .int .u64 0, .int .i64 0, .int .i64 0, .int .i64 0]) 8 64 Try.underlying33 infoAct rfl (by decide) _ (k + 3) _ rfl HO8.out A8 (k + 3) c8 (inR (13 + 3 * s0) t k ++ tailR).flatten rfl hA8 (by rw [flat_len 8 _ (fun r hr => (all_act _ _ _ r hr).len)]; simp [inR_len, tailR]) HR8.out (acts_one _ (all_act _ _ _)) (by unfold maxLen; omega) (by omega) HB8.out.size ?_))
      intro v9 w9 hown9 hg9
      have HB9 := Lib.hid (below_app HB8.out HB8.out.size HO8.out hg9)
      obtain ⟨A9, c9, rfl, hc9⟩ := own_sh hown9
      have HO9 : Hid (w9.ownsRow W2.heap.size 40 8 (.slice A9 (k + 3 + (k + 3)) c9) (k + 3 + (k + 3)) (outR (13 + 3 * s0) f k ++ midR s f t k ++ (inR (13 + 3 * s0) t k ++ tailR)).flatten) := by
        have h := hown9
        try simp only [List.flatten_append, List.append_assoc] at h
        refine Lib.hid ?_
        simp only [List.flatten_append, List.append_assoc]
        exact h
      clear hown9 hg9
      go_wp2
      go_ret2
      exact ⟨_, rfl, own_mono HO9.out (by have := HW.out.size; omega), HW.out.trans (HB9.out.mono HW.out.size)⟩
end Go.Proofs.Ythjbjlokpcpceaa
