/- Contracts: slip.Acts, dunnageref25.Acts. -/
import Derived.Test.YthjbjlokpcpceaaActs
import Derived.Deep.RegionHeld3
import Derived.Deep.DeepCutAuto
namespace Go.Proofs.Ythjbjlokpcpceaa
open Go.RowKit
set_option linter.unusedVariables false

theorem all_act (q u : Int) (N : Nat) : ∀ r ∈ inR q u N ++ tailR, IsAct r := by
  intro r hr
  simp only [List.mem_append, tailR, List.mem_cons, List.not_mem_nil, or_false] at hr
  rcases hr with hr | rfl | rfl | rfl
  · exact inR_act q u N r hr
  all_goals exact isAct _ _ _ _ _ _ _ _
theorem acts_one (rows : List (List Value)) (h : ∀ r ∈ rows, IsAct r) : ∀ u ∈ rows.flatten, u.oneCell' = true := by
  intro u hu
  obtain ⟨r, hr, hur⟩ := List.mem_flatten.1 hu
  obtain ⟨k, f, t, b, s, f', t', n, rfl⟩ := h r hr
  exact actR_one _ _ _ _ _ _ _ _ u hur
set_option maxRecDepth 100000 in
set_option maxHeartbeats 8000000 in
theorem acts_ok (a0 s0 g s f t : Int) (N : Nat) (w : World) (h1 : 256 ≤ a0) (h2 : a0 ≤ 65536) (hs : s0 = (a0 - 13) / 8) (hg : g = (a0 - (13 + 3 * s0)) / 32) (hm : mayB (g * 31) s f t N = true) :
    Calls Try.prog 7 #[.agg #[.int .i64 a0, .int .i64 3, .int .i64 13, .int .i64 s0, .int .i64 (13 + s0), .int .i64 (13 + 2 * s0), .int .i64 s0, .int .i64 (13 + 3 * s0), .int .i64 g], .agg #[.int .u64 s, .int .i64 f, .int .i64 t, .int .i64 N]] w fun e w' => ∃ v, e = .returned (.tuple #[v, .int .i64 0]) ∧ w'.ownsRow w.heap.size 40 8 v (N + 3 + (N + 3)) (outR (13 + 3 * s0) f N ++ midR s f t N ++ (inR (13 + 3 * s0) t N ++ tailR)).flatten ∧ Below w.heap.size w w' := by
  have hm' := (mayB_iff _ _ _ _ _).1 hm
  have C1 := Lib.hid (fun w1 => planned_ok a0 s0 g w1 h1 h2 hs hg)
  have C2 := Lib.hid (fun w1 => capacity_any a0 3 13 s0 (13 + s0) (13 + 2 * s0) s0 (13 + 3 * s0) g w1 (by omega) (by omega))
  have C3 := Lib.hid (fun w1 => may_true (g * 31) s f t N w1 hm)
  have C4 := Lib.hid (fun w1 => out_any a0 13 s0 (13 + s0) (13 + 2 * s0) s0 (13 + 3 * s0) g s f t N w1 (by omega) (by omega) (by omega) (by omega) (by omega) (by omega) (by omega) (by omega))
  have C5 := Lib.hid (fun w1 => in_any a0 13 s0 (13 + s0) (13 + 2 * s0) s0 (13 + 3 * s0) g s f t N w1 (by omega) (by omega) (by omega) (by omega) (by omega) (by omega) (by omega) (by omega))
  have hN9 : N ≤ 9 := by omega
  clear hm hm' h1 h2 hs hg
  go_enter Try.func7, Try.ntmps7
  go_wp2_with fail
  have hBB := fun o q => below2 w o q
  obtain ⟨W2, hW2⟩ : ∃ W2 : World, W2 = (w.alloc (.cells #[.int .i64 a0, .int .i64 3, .int .i64 13, .int .i64 s0, .int .i64 (13 + s0), .int .i64 (13 + 2 * s0), .int .i64 s0, .int .i64 (13 + 3 * s0), .int .i64 g] 29)).alloc (.cells #[.int .u64 s, .int .i64 f, .int .i64 t, .int .i64 N] 24) := ⟨_, rfl⟩
  have hb2 : Below w.heap.size w W2 := by rw [hW2]; exact below2 _ _ _
  have hs2 : W2.heap.size = w.heap.size + 2 := by rw [hW2]; simp
  have hK0 : ∀ w' : World, Below W2.heap.size W2 w' → (w'.cell? ⟨w.heap.size, 0, none⟩ = some (.int .i64 a0) ∧ w'.cell? ⟨w.heap.size, 1, none⟩ = some (.int .i64 3) ∧ w'.cell? ⟨w.heap.size, 2, none⟩ = some (.int .i64 13) ∧ w'.cell? ⟨w.heap.size, 3, none⟩ = some (.int .i64 s0) ∧ w'.cell? ⟨w.heap.size, 4, none⟩ = some (.int .i64 (13 + s0)) ∧ w'.cell? ⟨w.heap.size, 5, none⟩ = some (.int .i64 (13 + 2 * s0)) ∧ w'.cell? ⟨w.heap.size, 6, none⟩ = some (.int .i64 s0) ∧ w'.cell? ⟨w.heap.size, 7, none⟩ = some (.int .i64 (13 + 3 * s0)) ∧ w'.cell? ⟨w.heap.size, 8, none⟩ = some (.int .i64 g) ∧ w'.cell? ⟨w.heap.size + 1, 0, none⟩ = some (.int .u64 s) ∧ w'.cell? ⟨w.heap.size + 1, 1, none⟩ = some (.int .i64 f) ∧ w'.cell? ⟨w.heap.size + 1, 2, none⟩ = some (.int .i64 t) ∧ w'.cell? ⟨w.heap.size + 1, 3, none⟩ = some (.int .i64 N)) := by
    intro w' hb
    have e : ∀ b i, b < w.heap.size + 2 → w'.cell? ⟨b, i, none⟩ = W2.cell? ⟨b, i, none⟩ := fun b i h => hb.cell (p := ⟨b, i, none⟩) (by simp only [hs2]; exact h)
    have l1 : w.heap.size < w.heap.size + 2 := by omega
    have l2 : w.heap.size + 1 < w.heap.size + 2 := by omega
    simp only [e _ _ l1, e _ _ l2, hW2]
    refine ⟨?_, ?_, ?_, ?_, ?_, ?_, ?_, ?_, ?_, ?_, ?_, ?_, ?_⟩ <;> go_simp
  rw [← hW2]
  have HK := Lib.hid hK0
  have HS := Lib.hid hs2
  have HW := Lib.hid hb2
  have HK2 := Lib.hid (HK.out _ (Below.refl _ W2))
  clear hK0 hb2 hW2 hs2 hBB
  go_region_held3 (fun w' => w'.cell? ⟨w.heap.size, 0, none⟩ = some (.int .i64 a0) ∧ w'.cell? ⟨w.heap.size, 1, none⟩ = some (.int .i64 3) ∧ w'.cell? ⟨w.heap.size, 2, none⟩ = some (.int .i64 13) ∧ w'.cell? ⟨w.heap.size, 3, none⟩ = some (.int .i64 s0) ∧ w'.cell? ⟨w.heap.size, 4, none⟩ = some (.int .i64 (13 + s0)) ∧ w'.cell? ⟨w.heap.size, 5, none⟩ = some (.int .i64 (13 + 2 * s0)) ∧ w'.cell? ⟨w.heap.size, 6, none⟩ = some (.int .i64 s0) ∧ w'.cell? ⟨w.heap.size, 7, none⟩ = some (.int .i64 (13 + 3 * s0)) ∧ w'.cell? ⟨w.heap.size, 8, none⟩ = some (.int .i64 g) ∧ w'.cell? ⟨w.heap.size + 1, 0, none⟩ = some (.int .u64 s) ∧ w'.cell? ⟨w.heap.size + 1, 1, none⟩ = some (.int .i64 f) ∧ w'.cell? ⟨w.heap.size + 1, 2, none⟩ = some (.int .i64 t) ∧ w'.cell? ⟨w.heap.size + 1, 3, none⟩ = some (.int .i64 N))
    (first
      | exact HK2.out
      | exact HK5.out
      | exact HK4.out
      | exact HK3.out)
    (first
      | (go_at_call 22; refine (C1.out _).mono ?_; rintro e w3 ⟨rfl, hb3⟩; have HB3 := Lib.hid (below_of_drew hb3); have HK3 := Lib.hid (HK.out w3 HB3.out))
      | (go_at_call 24; refine (C2.out _).mono ?_; rintro e w4 ⟨rfl, hb4⟩; have HB4 := Lib.hid (HB3.out.trans (hb4.mono HB3.out.size)); have HK4 := Lib.hid (HK.out w4 HB4.out))
      | (go_at_call 23; refine (C3.out _).mono ?_; rintro e w5 ⟨rfl, hb5⟩; have HB5 := Lib.hid (HB4.out.trans (hb5.mono HB4.out.size)); have HK5 := Lib.hid (HK.out w5 HB5.out)))
  have C4' : Hid (∀ w1 : World, Below W2.heap.size W2 w1 → Calls Try.prog 25 #[.agg #[.int .i64 a0, .int .i64 3, .int .i64 13, .int .i64 s0, .int .i64 (13 + s0), .int .i64 (13 + 2 * s0), .int .i64 s0, .int .i64 (13 + 3 * s0), .int .i64 g], .agg #[.int .u64 s, .int .i64 f, .int .i64 t, .int .i64 N]] w1 fun e w' => ∃ A c, e = .returned (.slice A N c) ∧ w'.ownsRow W2.heap.size 40 8 (.slice A N c) N (outR (13 + 3 * s0) f N).flatten ∧ Below W2.heap.size W2 w' ∧ Below w1.heap.size w1 w') := by
    refine Lib.hid (fun w1 hb => (C4.out w1).mono ?_)
    rintro e w6 ⟨v6, rfl, hown6, hb6⟩
    obtain ⟨A6, c6, rfl, hc6⟩ := own_sh hown6
    exact ⟨A6, c6, rfl, own_mono hown6 hb.size, hb.trans (hb6.mono hb.size), hb6⟩
  go_upto_region 3 with fail
  go_cut [6] (fun v wx => ∃ A c, v = .slice A (N + 3) c ∧ wx.ownsRow W2.heap.size 40 8 (.slice A (N + 3) c) (N + 3) (outR (13 + 3 * s0) f N ++ midR s f t N).flatten ∧ Below W2.heap.size W2 wx)
  case first =>
    go_region_held3 (fun w' => w'.cell? ⟨w.heap.size, 0, none⟩ = some (.int .i64 a0) ∧ w'.cell? ⟨w.heap.size, 1, none⟩ = some (.int .i64 3) ∧ w'.cell? ⟨w.heap.size, 2, none⟩ = some (.int .i64 13) ∧ w'.cell? ⟨w.heap.size, 3, none⟩ = some (.int .i64 s0) ∧ w'.cell? ⟨w.heap.size, 4, none⟩ = some (.int .i64 (13 + s0)) ∧ w'.cell? ⟨w.heap.size, 5, none⟩ = some (.int .i64 (13 + 2 * s0)) ∧ w'.cell? ⟨w.heap.size, 6, none⟩ = some (.int .i64 s0) ∧ w'.cell? ⟨w.heap.size, 7, none⟩ = some (.int .i64 (13 + 3 * s0)) ∧ w'.cell? ⟨w.heap.size, 8, none⟩ = some (.int .i64 g) ∧ w'.cell? ⟨w.heap.size + 1, 0, none⟩ = some (.int .u64 s) ∧ w'.cell? ⟨w.heap.size + 1, 1, none⟩ = some (.int .i64 f) ∧ w'.cell? ⟨w.heap.size + 1, 2, none⟩ = some (.int .i64 t) ∧ w'.cell? ⟨w.heap.size + 1, 3, none⟩ = some (.int .i64 N))
      (first
        | exact HK5.out
        | exact HK6.out
        | exact HK.out _ (HB6.out.alloc HB6.out.size _)
        | exact HK.out _ (HB5.out.alloc HB5.out.size _).drew
        | exact HK7.out)
      (first
        | (go_at_call 25; refine (C4'.out _ (by first | exact HB5.out.drew | exact (HB5.out.alloc HB5.out.size _).drew)).mono ?_; rintro e w6 ⟨A6, c6, rfl, hown6, hb6, hbk⟩; have HB6 := Lib.hid hb6; have HO6 := Lib.hid hown6; have HBK := Lib.hid hbk; have HK6 := Lib.hid (HK.out w6 HB6.out); clear hb6 hown6 hbk)
        | (refine step_append_sh (by rfl) _ _ _ (by rfl) W2.heap.size 40 (.agg #[.int .i64 0, .int .i64 0, .int .i64 0, .bool false, .int .u64 0, .int .i64 0, .int .i64 0, .int .i64 0]) 8 64 Try.underlying33 infoAct rfl (by decide) _ N _ (by rfl) (HO6.out.alloc _) (some ⟨w6.heap.size, 0, none⟩) 3 3 (midR s f t N).flatten (by rfl) (by simp) (by rfl) (rd_new _ _ _) (midR_one _ _ _ _) (by unfold maxLen; omega) (by omega) (HB6.out.alloc HB6.out.size _).size ?_; intro A7 c7 w7 hown7 hg7; have HB7 := Lib.hid (below_app (HB6.out.alloc HB6.out.size _) (HB6.out.alloc HB6.out.size _).size (HO6.out.alloc _) hg7); rw [← List.flatten_append] at hown7; have HO7 := Lib.hid hown7; have HK7 := Lib.hid (HK.out w7 HB7.out); clear hown7 hg7)
        | (refine step_append_sh (by rfl) _ _ _ (by rfl) W2.heap.size 40 (.agg #[.int .i64 0, .int .i64 0, .int .i64 0, .bool false, .int .u64 0, .int .i64 0, .int .i64 0, .int .i64 0]) 8 64 Try.underlying33 infoAct rfl (by decide) _ N _ (by rfl) HO6.out (some ⟨w5.heap.size, 0, none⟩) 3 3 (midR s f t N).flatten (by rfl) (by simp) (by rfl) (Rd.kept (rd_new w5 (midR s f t N).flatten 40) (below_of_drew HBK.out)) (midR_one _ _ _ _) (by unfold maxLen; omega) (by omega) HB6.out.size ?_; intro A7 c7 w7 hown7 hg7; have HB7 := Lib.hid (below_app HB6.out HB6.out.size HO6.out hg7); rw [← List.flatten_append] at hown7; have HO7 := Lib.hid hown7; have HK7 := Lib.hid (HK.out w7 HB7.out); clear hown7 hg7))
    all_goals (go_wp2_with fail; go_meet; exact ⟨_, _, rfl, HO7.out, HB7.out⟩)
  case rest =>
  obtain ⟨A7, c7, rfl, hown7, hb7⟩ := hcut
  have HB7 := Lib.hid hb7
  have HO7 := Lib.hid hown7
  have HK7 := Lib.hid (HK.out _ HB7.out)
  clear hown7 hb7
  obtain ⟨k0, k1, k2, k3, k4, k5, k6, k7, k8, m0, m1, m2, m3⟩ := HK7.out
  go_wp2_with fail
  refine (C5.out _).mono ?_
  rintro e w8 ⟨v8, rfl, hown8, hb8⟩
  obtain ⟨A8, c8, rfl, hnc8, hcm8, hrd8, hlen8⟩ := own_rd hown8
  have HB8 := Lib.hid (HB7.out.trans (hb8.mono HB7.out.size))
  have HO8 := Lib.hid (own_kept HO7.out hb8)
  have HR8 := Lib.hid hrd8
  have hA8 : A8 = none → N + 3 = 0 ∧ c8 = 0 := by
    rintro rfl
    obtain ⟨b, o, h⟩ := hrd8.some_of (by intro e; rw [e] at hlen8; simp at hlen8)
    cases h
  clear hb8 hown8 hrd8 hlen8
  go_wp2_with (at_builtin; go_must (refine wpList_append_rd rfl _ _ 33 rfl W2.heap.size 40 (.agg #[.int .i64 0, .int .i64 0, .int .i64 0, .bool false, .int .u64 0, .int .i64 0, .int .i64 0, .int .i64 0]) 8 64 Try.underlying33 infoAct rfl (by decide) _ (N + 3) _ rfl HO8.out A8 (N + 3) c8 (inR (13 + 3 * s0) t N ++ tailR).flatten rfl hA8 (by rw [flat_len 8 _ (fun r hr => (all_act _ _ _ r hr).len)]; simp [inR_len, tailR]) HR8.out (acts_one _ (all_act _ _ _)) (by unfold maxLen; omega) (by omega) HB8.out.size ?_))
  intro v9 w9 hown9 hg9
  have HB9 := Lib.hid (below_app HB8.out HB8.out.size HO8.out hg9)
  obtain ⟨A9, c9, rfl, hc9⟩ := own_sh hown9
  have HO9 : Hid (w9.ownsRow W2.heap.size 40 8 (.slice A9 (N + 3 + (N + 3)) c9) (N + 3 + (N + 3)) (outR (13 + 3 * s0) f N ++ midR s f t N ++ (inR (13 + 3 * s0) t N ++ tailR)).flatten) := by
    have h := hown9
    try simp only [List.flatten_append, List.append_assoc] at h
    refine Lib.hid ?_
    simp only [List.flatten_append, List.append_assoc]
    exact h
  clear hown9 hg9
  go_wp2
  go_ret2
  exact ⟨_, rfl, own_mono HO9.out (by have := HW.out.size; omega), HW.out.trans (HB9.out.mono HW.out.size)⟩
end Go.Proofs.Ythjbjlokpcpceaa
