/- The walk of SlipCosts where the move may be. -/
import Derived.Test.YthjbjlokpcpceaaCosts1
import Derived.Test.YthjbjlokpcpceaaCostsPure
import Derived.Deep.RegionHeld3
namespace Go.Proofs.Ythjbjlokpcpceaa
open Go.RowKit
set_option linter.unusedVariables false

set_option maxRecDepth 100000 in
set_option maxHeartbeats 16000000 in
theorem costs_ok (n s0 g s f t : Int) (N : Nat) (w : World) (h1 : 256 ≤ n) (h2 : n ≤ 65536) (hs : s0 = (n - 13) / 8) (hg : g = (n - (13 + 3 * s0)) / 32) (hm : mayB (g * 31) s f t N = true) :
    Calls Try.prog 4 #[.int .i64 n, .agg #[.int .u64 s, .int .i64 f, .int .i64 t, .int .i64 N]] w fun e w' => e = .returned (.bool true) ∧ Below w.heap.size w w' := by
  have hm' := (mayB_iff _ _ _ _ _).1 hm
  have P := Lib.hid (fun w1 => refplan_ok n s0 g w1 h1 h2 hs hg)
  have A1 := Lib.hid (fun w1 => acts_ok n s0 g s f t N w1 h1 h2 hs hg hm)
  have A2 := Lib.hid (fun w1 => redo_ok n s0 g s f t N w1 h1 h2 hs hg hm)
  have AW := Lib.hid (fun w1 => awake25 w1)
  have LB := Lib.hid (fun (k : Int) (hk : 0 ≤ k) (hk2 : k ≤ 9) w1 => logic_bounce n s0 g k w1 (by omega) (by omega) (by omega) (by omega) hk hk2)
  have LS := Lib.hid (fun (a : Int) (ha : 0 ≤ a) (ha2 : a < g * 31) w1 => logic_seg n s0 g a w1 (by omega) (by omega) (by omega) (by omega) ha ha2)
  have RB := Lib.hid (fun (k : Int) (hk : 0 ≤ k) (hk2 : k ≤ 9) w1 => region_bounce n s0 g k w1 (by omega) (by omega) (by omega) (by omega) hk hk2)
  have hN9 : N ≤ 9 := by omega
  have hN1 : 1 ≤ N := by omega
  have hf0 : 0 ≤ f := by omega
  have ht0 : 0 ≤ t := by omega
  have hf1 : f + N ≤ g * 31 := by omega
  have ht1 : t + N ≤ g * 31 := by omega
  have hg1 : g * 31 ≤ 65536 := by omega
  have hrA : ∀ r ∈ outR (13 + 3 * s0) f N ++ midR s f t N ++ (inR (13 + 3 * s0) t N ++ tailR), r.length = 8 := by
    intro r hr
    simp only [List.mem_append] at hr
    rcases hr with (h | h) | h
    · exact (outR_act _ _ _ r h).len
    · exact (mid_act _ _ _ _ r h).len
    · exact (all_act _ _ _ r (by simpa using h)).len
  have hrB : ∀ r ∈ inR (13 + 3 * s0) t N ++ tailR, r.length = 8 := fun r hr => (all_act _ _ _ r hr).len
  have HRA := Lib.hid hrA
  have HRB := Lib.hid hrB
  clear hm hm' h1 h2 hs hg hrA hrB
  go_enter Try.func4, Try.ntmps4
  go_wp2_with fail
  refine (P.out _).mono ?_
  rintro e w1 ⟨rfl, hb1⟩
  go_upto_region 2 with fail
  have hz1 : w.heap.size < w1.heap.size := by have := hb1.size; simp at this; omega
  obtain ⟨W3, hW3⟩ : ∃ W3 : World, W3 = w1.alloc (.cells #[.int .i64 n, .int .i64 3, .int .i64 13, .int .i64 s0, .int .i64 (13 + s0), .int .i64 (13 + 2 * s0), .int .i64 s0, .int .i64 (13 + 3 * s0), .int .i64 g] 29) := ⟨_, rfl⟩
  have hb3 : Below w.heap.size w W3 := by rw [hW3]; exact ((below1 w _).trans (hb1.mono (below1 w _).size)).alloc (by omega) _
  have hK0 : ∀ w' : World, Below W3.heap.size W3 w' → (w'.cell? ⟨w1.heap.size, 0, none⟩ = some (.int .i64 n) ∧ w'.cell? ⟨w1.heap.size, 1, none⟩ = some (.int .i64 3) ∧ w'.cell? ⟨w1.heap.size, 2, none⟩ = some (.int .i64 13) ∧ w'.cell? ⟨w1.heap.size, 3, none⟩ = some (.int .i64 s0) ∧ w'.cell? ⟨w1.heap.size, 4, none⟩ = some (.int .i64 (13 + s0)) ∧ w'.cell? ⟨w1.heap.size, 5, none⟩ = some (.int .i64 (13 + 2 * s0)) ∧ w'.cell? ⟨w1.heap.size, 6, none⟩ = some (.int .i64 s0) ∧ w'.cell? ⟨w1.heap.size, 7, none⟩ = some (.int .i64 (13 + 3 * s0)) ∧ w'.cell? ⟨w1.heap.size, 8, none⟩ = some (.int .i64 g) ∧ w'.cell? ⟨w.heap.size, 0, none⟩ = some (.int .u64 s) ∧ w'.cell? ⟨w.heap.size, 1, none⟩ = some (.int .i64 f) ∧ w'.cell? ⟨w.heap.size, 2, none⟩ = some (.int .i64 t) ∧ w'.cell? ⟨w.heap.size, 3, none⟩ = some (.int .i64 N)) := by
    intro w' hb
    have hs3 : W3.heap.size = w1.heap.size + 1 := by rw [hW3]; simp
    have e1 : ∀ i, w'.cell? ⟨w1.heap.size, i, none⟩ = W3.cell? ⟨w1.heap.size, i, none⟩ := fun i => hb.cell (p := ⟨w1.heap.size, i, none⟩) (by simp only [hs3]; omega)
    have e2 : ∀ i, w'.cell? ⟨w.heap.size, i, none⟩ = W3.cell? ⟨w.heap.size, i, none⟩ := fun i => hb.cell (p := ⟨w.heap.size, i, none⟩) (by simp only [hs3]; omega)
    have e3 : ∀ i, W3.cell? ⟨w.heap.size, i, none⟩ = w1.cell? ⟨w.heap.size, i, none⟩ := fun i => by rw [hW3]; exact ((Below.refl w1.heap.size w1).alloc (Nat.le_refl _) _).cell (p := ⟨w.heap.size, i, none⟩) (by simp only; omega)
    have e4 := fun i => hb1.cell (p := ⟨w.heap.size, i, none⟩) (by simp only [World.size_alloc]; omega)
    simp only [e1, e2, e3, e4]
    rw [hW3]
    refine ⟨?_, ?_, ?_, ?_, ?_, ?_, ?_, ?_, ?_, ?_, ?_, ?_, ?_⟩ <;> go_simp
  rw [← hW3]
  have HK := Lib.hid hK0
  have HW := Lib.hid hb3
  have HBW3 := Lib.hid (Below.refl W3.heap.size W3)
  clear hK0 hb1 hW3 hb3 hz1
  obtain ⟨k0, k1, k2, k3, k4, k5, k6, k7, k8, m0, m1, m2, m3⟩ := HK.out W3 HBW3.out
  go_wp2_with fail
  refine (A1.out _).mono ?_
  rintro e w4 ⟨v4, rfl, hown, hb⟩
  obtain ⟨Av4, cv4, rfl, _, _, hrd, _⟩ := own_rd hown
  have HBw4 := Lib.hid (HBW3.out.trans (hb.mono HBW3.out.size))
  have Rv4 := Lib.hid hrd
  clear hown hrd hb k0 k1 k2 k3 k4 k5 k6 k7 k8 m0 m1 m2 m3
  obtain ⟨k0, k1, k2, k3, k4, k5, k6, k7, k8, m0, m1, m2, m3⟩ := HK.out w4 HBw4.out
  go_wp2_with fail
  refine (A2.out _).mono ?_
  rintro e w5 ⟨v5, rfl, hown, hb⟩
  obtain ⟨Av5, cv5, rfl, _, _, hrd, _⟩ := own_rd hown
  have HBw5 := Lib.hid (HBw4.out.trans (hb.mono HBw4.out.size))
  have Rv5 := Lib.hid hrd
  have R4 := Lib.hid (Rv4.out.kept hb)
  clear hown hrd hb Rv4 k0 k1 k2 k3 k4 k5 k6 k7 k8 m0 m1 m2 m3
  go_wp2_with fail
  refine (AW.out _).mono ?_
  rintro e w6 ⟨rfl, hb⟩
  have HBw6 := Lib.hid (HBw5.out.trans (hb.mono HBw5.out.size))
  have RA := Lib.hid (R4.out.kept hb)
  have RB5 := Lib.hid (Rv5.out.kept hb)
  clear hb R4 Rv5
  go_wp2_with fail
  go_loopw [11, 12, 13] (fun x y i wr => ∃ k : Nat, k ≤ N + 3 + (N + 3) ∧ i = .int .i64 k ∧ x = .int .i64 ((min k N : Nat) : Int) ∧ y = .int .i64 ((min (k - (N + 3)) N : Nat) : Int) ∧ Below w6.heap.size w6 wr) (fun _ _ i _ => N + 3 + (N + 3) - (intOf i).toNat)
  case atStart => exact ⟨0, by omega, rfl, by simp, by simp, Below.refl _ _⟩
  case round =>
    obtain ⟨k, hk, rfl, rfl, rfl, hb⟩ := hrel
    have HB := Lib.hid (HBw6.out.trans (hb.mono HBw6.out.size))
    have HBL := Lib.hid hb
    by_cases hlt : k < N + 3 + (N + 3)
    · obtain ⟨r, hr, hcase⟩ := acts_get (13 + 3 * s0) s f t N k hlt
      obtain ⟨b, o, rfl, hrow⟩ := (RA.out.kept hb).at_row HRA.out (by decide) hr
      obtain ⟨k0, k1, k2, k3, k4, k5, k6, k7, k8, m0, m1, m2, m3⟩ := HK.out wr HB.out
      have b1 : (0 : Int) ≤ (k : Int) ∧ (k : Int) < ((N + 3 + (N + 3) : Nat) : Int) := by omega
      clear hb hr
      rcases hcase with ⟨hc, rfl⟩ | ⟨hc1, hc2, kk, x1, x2, x3, x4, x5, x6, x7, rfl, hkk⟩ | ⟨j, hkj, hj, rfl⟩ | ⟨hc1, kk, x1, x2, x3, x4, x5, x6, x7, rfl, hkk⟩
      · have c0 := hrow 0 _ rfl
        have c1 := hrow 1 _ rfl
        have c2 := hrow 2 _ rfl
        simp only [Nat.add_zero] at c0
        have hbl := World.block_lt_of_cell? wr _ c0
        have e1 : min (k + 1) N = min k N + 1 := by omega
        have e2 : min (k + 1 - (N + 3)) N = min (k - (N + 3)) N := by omega
        have hm1 : min k N ≤ 9 := by omega
        have hm2 : min (k - (N + 3)) N ≤ 9 := by omega
        have E1 := Lib.hid e1
        have E2 := Lib.hid e2
        have C1 := Lib.hid (fun w1 => LS.out (f + k) (by omega) (by omega) w1)
        have C2 := Lib.hid (fun w1 => LB.out k (by omega) (by omega) w1)
        clear hrow e1 e2
        generalize min k N = mk at *
        generalize min (k - (N + 3)) N = mk2 at *
        obtain ⟨x1, hx1⟩ : ∃ x1, x1 = phI (13 + 3 * s0) (f + k) := ⟨_, rfl⟩
        rw [← hx1] at c1 C1
        clear hx1
        have HKr := Lib.hid (HK.out wr HB.out)
        go_wp2_with fail
        go_region_held3 (fun w' => w'.cell? ⟨b, o + k * 8 + 1, none⟩ = some (.int .i64 x1) ∧ w'.cell? ⟨w1.heap.size, 0, none⟩ = some (.int .i64 n) ∧ w'.cell? ⟨w1.heap.size, 1, none⟩ = some (.int .i64 3) ∧ w'.cell? ⟨w1.heap.size, 2, none⟩ = some (.int .i64 13) ∧ w'.cell? ⟨w1.heap.size, 3, none⟩ = some (.int .i64 s0) ∧ w'.cell? ⟨w1.heap.size, 4, none⟩ = some (.int .i64 (13 + s0)) ∧ w'.cell? ⟨w1.heap.size, 5, none⟩ = some (.int .i64 (13 + 2 * s0)) ∧ w'.cell? ⟨w1.heap.size, 6, none⟩ = some (.int .i64 s0) ∧ w'.cell? ⟨w1.heap.size, 7, none⟩ = some (.int .i64 (13 + 3 * s0)) ∧ w'.cell? ⟨w1.heap.size, 8, none⟩ = some (.int .i64 g) ∧ w'.cell? ⟨w.heap.size, 0, none⟩ = some (.int .u64 s) ∧ w'.cell? ⟨w.heap.size, 1, none⟩ = some (.int .i64 f) ∧ w'.cell? ⟨w.heap.size, 2, none⟩ = some (.int .i64 t) ∧ w'.cell? ⟨w.heap.size, 3, none⟩ = some (.int .i64 N))
          (first
            | exact ⟨c1, HKr.out⟩
            | exact ⟨d1, HK7.out⟩)
          ((go_at_call 13; refine (C1.out _).mono ?_; rintro e w7 ⟨rfl, hb7⟩; have hb7' := below_of_drew hb7; have HB7 := Lib.hid (HB.out.trans (hb7'.mono HB.out.size)); have HL7 := Lib.hid (HBL.out.trans (hb7'.mono HBL.out.size)); have d1 := (hb7'.cell (p := ⟨b, o + k * 8 + 1, none⟩) hbl).trans c1; have d2 := (hb7'.cell (p := ⟨b, o + k * 8 + 2, none⟩) hbl).trans c2; have hbl7 : b < w7.heap.size := (by have := hb7'.size; omega); have HK7 := Lib.hid (HK.out w7 HB7.out); clear hb7 hb7'))
        clear c0 c1 c2 k0 k1 k2 k3 k4 k5 k6 k7 k8 m0 m1 m2 m3
        go_wp2_with fail
        go_region_held3 (fun w' => w'.cell? ⟨b, o + k * 8 + 2, none⟩ = some (.int .i64 (3 + k)) ∧ w'.cell? ⟨w1.heap.size, 0, none⟩ = some (.int .i64 n) ∧ w'.cell? ⟨w1.heap.size, 1, none⟩ = some (.int .i64 3) ∧ w'.cell? ⟨w1.heap.size, 2, none⟩ = some (.int .i64 13) ∧ w'.cell? ⟨w1.heap.size, 3, none⟩ = some (.int .i64 s0) ∧ w'.cell? ⟨w1.heap.size, 4, none⟩ = some (.int .i64 (13 + s0)) ∧ w'.cell? ⟨w1.heap.size, 5, none⟩ = some (.int .i64 (13 + 2 * s0)) ∧ w'.cell? ⟨w1.heap.size, 6, none⟩ = some (.int .i64 s0) ∧ w'.cell? ⟨w1.heap.size, 7, none⟩ = some (.int .i64 (13 + 3 * s0)) ∧ w'.cell? ⟨w1.heap.size, 8, none⟩ = some (.int .i64 g) ∧ w'.cell? ⟨w.heap.size, 0, none⟩ = some (.int .u64 s) ∧ w'.cell? ⟨w.heap.size, 1, none⟩ = some (.int .i64 f) ∧ w'.cell? ⟨w.heap.size, 2, none⟩ = some (.int .i64 t) ∧ w'.cell? ⟨w.heap.size, 3, none⟩ = some (.int .i64 N))
          (first
            | exact ⟨d2, HK7.out⟩
            | exact ⟨d2', HK8.out⟩)
          ((go_at_call 13; refine (C2.out _).mono ?_; rintro e w8 ⟨rfl, hb8⟩; have hb8' := below_of_drew hb8; have HB8 := Lib.hid (HB7.out.trans (hb8'.mono HB7.out.size)); have HL8 := Lib.hid (HL7.out.trans (hb8'.mono HL7.out.size)); have d2' := (hb8'.cell (p := ⟨b, o + k * 8 + 2, none⟩) hbl7).trans d2; have HK8 := Lib.hid (HK.out w8 HB8.out); clear hb8 hb8'))
        clear d1 d2 d2'
        obtain ⟨k0, k1, k2, k3, k4, k5, k6, k7, k8, m0, m1, m2, m3⟩ := HK.out w8 HB8.out
        go_wp2_with fail
        go_roundw
        case rel => exact ⟨k + 1, by omega, by go_num, by rw [E1.out]; try go_num, by rw [E2.out]; try go_num, HL8.out⟩
        case measure => simp [intOf]; omega
      · have c0 := hrow 0 _ rfl
        simp only [Nat.add_zero] at c0
        have q : (kk != 1) = true := by simpa using hkk
        have e1 : min (k + 1) N = min k N := by omega
        have e2 : min (k + 1 - (N + 3)) N = min (k - (N + 3)) N := by omega
        have E1 := Lib.hid e1
        have E2 := Lib.hid e2
        clear hrow hkk e1 e2
        generalize min k N = mk at *
        generalize min (k - (N + 3)) N = mk2 at *
        go_wp2_with fail
        go_roundw
        case rel => exact ⟨k + 1, by omega, by go_num, by rw [E1.out], by rw [E2.out], HBL.out⟩
        case measure => simp [intOf]; omega
      · have c0 := hrow 0 _ rfl
        have c1 := hrow 1 _ rfl
        have c2 := hrow 2 _ rfl
        simp only [Nat.add_zero] at c0
        have hbl := World.block_lt_of_cell? wr _ c0
        have e1 : min (k + 1) N = min k N := by omega
        have e2 : min (k + 1 - (N + 3)) N = min (k - (N + 3)) N + 1 := by omega
        have hm1 : min k N ≤ 9 := by omega
        have hm2 : min (k - (N + 3)) N ≤ 9 := by omega
        have E1 := Lib.hid e1
        have E2 := Lib.hid e2
        have C1 := Lib.hid (fun w1 => LB.out j (by omega) (by omega) w1)
        have C2 := Lib.hid (fun w1 => LS.out (t + j) (by omega) (by omega) w1)
        clear hrow e1 e2 hkj
        generalize min k N = mk at *
        generalize min (k - (N + 3)) N = mk2 at *
        obtain ⟨x1, hx1⟩ : ∃ x1, x1 = phI (13 + 3 * s0) (t + j) := ⟨_, rfl⟩
        rw [← hx1] at c2 C2
        clear hx1
        have HKr := Lib.hid (HK.out wr HB.out)
        go_wp2_with fail
        go_region_held3 (fun w' => w'.cell? ⟨b, o + k * 8 + 1, none⟩ = some (.int .i64 (3 + j)) ∧ w'.cell? ⟨w1.heap.size, 0, none⟩ = some (.int .i64 n) ∧ w'.cell? ⟨w1.heap.size, 1, none⟩ = some (.int .i64 3) ∧ w'.cell? ⟨w1.heap.size, 2, none⟩ = some (.int .i64 13) ∧ w'.cell? ⟨w1.heap.size, 3, none⟩ = some (.int .i64 s0) ∧ w'.cell? ⟨w1.heap.size, 4, none⟩ = some (.int .i64 (13 + s0)) ∧ w'.cell? ⟨w1.heap.size, 5, none⟩ = some (.int .i64 (13 + 2 * s0)) ∧ w'.cell? ⟨w1.heap.size, 6, none⟩ = some (.int .i64 s0) ∧ w'.cell? ⟨w1.heap.size, 7, none⟩ = some (.int .i64 (13 + 3 * s0)) ∧ w'.cell? ⟨w1.heap.size, 8, none⟩ = some (.int .i64 g) ∧ w'.cell? ⟨w.heap.size, 0, none⟩ = some (.int .u64 s) ∧ w'.cell? ⟨w.heap.size, 1, none⟩ = some (.int .i64 f) ∧ w'.cell? ⟨w.heap.size, 2, none⟩ = some (.int .i64 t) ∧ w'.cell? ⟨w.heap.size, 3, none⟩ = some (.int .i64 N))
          (first
            | exact ⟨c1, HKr.out⟩
            | exact ⟨d1, HK7.out⟩)
          ((go_at_call 13; refine (C1.out _).mono ?_; rintro e w7 ⟨rfl, hb7⟩; have hb7' := below_of_drew hb7; have HB7 := Lib.hid (HB.out.trans (hb7'.mono HB.out.size)); have HL7 := Lib.hid (HBL.out.trans (hb7'.mono HBL.out.size)); have d1 := (hb7'.cell (p := ⟨b, o + k * 8 + 1, none⟩) hbl).trans c1; have d2 := (hb7'.cell (p := ⟨b, o + k * 8 + 2, none⟩) hbl).trans c2; have hbl7 : b < w7.heap.size := (by have := hb7'.size; omega); have HK7 := Lib.hid (HK.out w7 HB7.out); clear hb7 hb7'))
        clear c0 c1 c2 k0 k1 k2 k3 k4 k5 k6 k7 k8 m0 m1 m2 m3
        go_wp2_with fail
        go_region_held3 (fun w' => w'.cell? ⟨b, o + k * 8 + 2, none⟩ = some (.int .i64 x1) ∧ w'.cell? ⟨w1.heap.size, 0, none⟩ = some (.int .i64 n) ∧ w'.cell? ⟨w1.heap.size, 1, none⟩ = some (.int .i64 3) ∧ w'.cell? ⟨w1.heap.size, 2, none⟩ = some (.int .i64 13) ∧ w'.cell? ⟨w1.heap.size, 3, none⟩ = some (.int .i64 s0) ∧ w'.cell? ⟨w1.heap.size, 4, none⟩ = some (.int .i64 (13 + s0)) ∧ w'.cell? ⟨w1.heap.size, 5, none⟩ = some (.int .i64 (13 + 2 * s0)) ∧ w'.cell? ⟨w1.heap.size, 6, none⟩ = some (.int .i64 s0) ∧ w'.cell? ⟨w1.heap.size, 7, none⟩ = some (.int .i64 (13 + 3 * s0)) ∧ w'.cell? ⟨w1.heap.size, 8, none⟩ = some (.int .i64 g) ∧ w'.cell? ⟨w.heap.size, 0, none⟩ = some (.int .u64 s) ∧ w'.cell? ⟨w.heap.size, 1, none⟩ = some (.int .i64 f) ∧ w'.cell? ⟨w.heap.size, 2, none⟩ = some (.int .i64 t) ∧ w'.cell? ⟨w.heap.size, 3, none⟩ = some (.int .i64 N))
          (first
            | exact ⟨d2, HK7.out⟩
            | exact ⟨d2', HK8.out⟩)
          ((go_at_call 13; refine (C2.out _).mono ?_; rintro e w8 ⟨rfl, hb8⟩; have hb8' := below_of_drew hb8; have HB8 := Lib.hid (HB7.out.trans (hb8'.mono HB7.out.size)); have HL8 := Lib.hid (HL7.out.trans (hb8'.mono HL7.out.size)); have d2' := (hb8'.cell (p := ⟨b, o + k * 8 + 2, none⟩) hbl7).trans d2; have HK8 := Lib.hid (HK.out w8 HB8.out); clear hb8 hb8'))
        clear d1 d2 d2'
        obtain ⟨k0, k1, k2, k3, k4, k5, k6, k7, k8, m0, m1, m2, m3⟩ := HK.out w8 HB8.out
        go_wp2_with fail
        go_roundw
        case rel => exact ⟨k + 1, by omega, by go_num, by rw [E1.out]; try go_num, by rw [E2.out]; try go_num, HL8.out⟩
        case measure => simp [intOf]; omega
      · have c0 := hrow 0 _ rfl
        simp only [Nat.add_zero] at c0
        have q : (kk != 1) = true := by simpa using hkk
        have e1 : min (k + 1) N = min k N := by omega
        have e2 : min (k + 1 - (N + 3)) N = min (k - (N + 3)) N := by omega
        have E1 := Lib.hid e1
        have E2 := Lib.hid e2
        clear hrow hkk e1 e2
        generalize min k N = mk at *
        generalize min (k - (N + 3)) N = mk2 at *
        go_wp2_with fail
        go_roundw
        case rel => exact ⟨k + 1, by omega, by go_num, by rw [E1.out], by rw [E2.out], HBL.out⟩
        case measure => simp [intOf]; omega
    · obtain rfl : k = N + 3 + (N + 3) := by omega
      rw [show min (N + 3 + (N + 3)) N = N by omega, show min (N + 3 + (N + 3) - (N + 3)) N = N by omega]
      have HRB5 := Lib.hid (RB5.out.kept hb)
      have qa : ((N : Int) + 3 + ((N : Int) + 3) == 2 * (N : Int) + 6) = true := by rw [beq_iff_eq]; omega
      clear hb RA RB5 LS LB
      obtain ⟨wo, rfl⟩ : ∃ wo : World, wo = wr := ⟨_, rfl⟩
      go_wp2_with fail
      go_loopw [18] (fun i wx => ∃ j : Nat, j ≤ N + 3 ∧ i = .int .i64 j ∧ Below wo.heap.size wo wx) (fun i _ => N + 3 - (intOf i).toNat)
      case atStart => exact ⟨0, by omega, rfl, Below.refl _ _⟩
      case round =>
        obtain ⟨j, hj, rfl, hb⟩ := hrel
        have HBx := Lib.hid (HB.out.trans (hb.mono HB.out.size))
        have HBXL := Lib.hid hb
        by_cases hlt2 : j < N + 3
        · obtain ⟨r, hr, hcase⟩ := last_get (13 + 3 * s0) t N j hlt2
          obtain ⟨b, o, rfl, hrow⟩ := (HRB5.out.kept hb).at_row HRB.out (by decide) hr
          have HKx := Lib.hid (HK.out wr HBx.out)
          have b1 : (0 : Int) ≤ (j : Int) ∧ (j : Int) < ((N + 3 : Nat) : Int) := by omega
          clear hb hr
          rcases hcase with ⟨hc, rfl⟩ | ⟨hc1, kk, x1, x2, x3, x4, x5, x6, x7, rfl, hkk⟩
          · have c0 := hrow 0 _ rfl
            have c1 := hrow 1 _ rfl
            simp only [Nat.add_zero] at c0
            have C1 := Lib.hid (fun w1 => RB.out j (by omega) (by omega) w1)
            clear hrow
            go_wp2_with fail
            go_region_held3 (fun w' => w'.cell? ⟨b, o + j * 8, none⟩ = some (.int .i64 1) ∧ w'.cell? ⟨b, o + j * 8 + 1, none⟩ = some (.int .i64 (3 + j)) ∧ w'.cell? ⟨w1.heap.size, 0, none⟩ = some (.int .i64 n) ∧ w'.cell? ⟨w1.heap.size, 1, none⟩ = some (.int .i64 3) ∧ w'.cell? ⟨w1.heap.size, 2, none⟩ = some (.int .i64 13) ∧ w'.cell? ⟨w1.heap.size, 3, none⟩ = some (.int .i64 s0) ∧ w'.cell? ⟨w1.heap.size, 4, none⟩ = some (.int .i64 (13 + s0)) ∧ w'.cell? ⟨w1.heap.size, 5, none⟩ = some (.int .i64 (13 + 2 * s0)) ∧ w'.cell? ⟨w1.heap.size, 6, none⟩ = some (.int .i64 s0) ∧ w'.cell? ⟨w1.heap.size, 7, none⟩ = some (.int .i64 (13 + 3 * s0)) ∧ w'.cell? ⟨w1.heap.size, 8, none⟩ = some (.int .i64 g) ∧ w'.cell? ⟨w.heap.size, 0, none⟩ = some (.int .u64 s) ∧ w'.cell? ⟨w.heap.size, 1, none⟩ = some (.int .i64 f) ∧ w'.cell? ⟨w.heap.size, 2, none⟩ = some (.int .i64 t) ∧ w'.cell? ⟨w.heap.size, 3, none⟩ = some (.int .i64 N))
              (first
                | exact ⟨c0, c1, HKx.out⟩
                | exact ⟨d0, d1, HK8.out⟩)
              ((go_at_call 14; refine (C1.out _).mono ?_; rintro e w8 ⟨rfl, hb8⟩; have hb8' := below_of_drew hb8; have hbl := World.block_lt_of_cell? wr _ c0; have HB8 := Lib.hid (HBx.out.trans (hb8'.mono HBx.out.size)); have HL8 := Lib.hid (HBXL.out.trans (hb8'.mono HBXL.out.size)); have d0 := (hb8'.cell (p := ⟨b, o + j * 8, none⟩) hbl).trans c0; have d1 := (hb8'.cell (p := ⟨b, o + j * 8 + 1, none⟩) hbl).trans c1; have HK8 := Lib.hid (HK.out w8 HB8.out); clear hb8 hb8'))
            clear c0 c1 d0 d1
            go_wp2_with fail
            go_roundw
            case rel => first | exact ⟨j + 1, by omega, by go_num, HL8.out⟩ | ((repeat apply Exists.intro); exact ⟨⟨j + 1, by omega, by go_num, HL8.out⟩, rfl⟩)
            case measure => simp [intOf]; omega
          · have c0 := hrow 0 _ rfl
            simp only [Nat.add_zero] at c0
            have q : (kk == 1) = false := by simpa using hkk
            clear hrow hkk
            go_wp2_with fail
            go_quiet (fail)
            go_wp2_with fail
            go_roundw
            case rel => exact ⟨j + 1, by omega, by go_num, HBXL.out.trans (below_drewN _ _)⟩
            case measure => simp [intOf]; omega
        · obtain rfl : j = N + 3 := by omega
          obtain ⟨k0, k1, k2, k3, k4, k5, k6, k7, k8, m0, m1, m2, m3⟩ := HK.out wr HBx.out
          clear hb
          go_wp2
          go_ret
          exact ⟨rfl, HW.out.trans (HBx.out.mono HW.out.size)⟩
end Go.Proofs.Ythjbjlokpcpceaa
