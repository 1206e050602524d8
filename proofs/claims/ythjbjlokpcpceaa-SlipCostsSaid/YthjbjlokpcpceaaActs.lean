/- Contracts: slip.out, slip.in, dunnageref25.last: the copies of a move. -/
import Derived.Test.YthjbjlokpcpceaaActR
namespace Go.Proofs.Ythjbjlokpcpceaa
open Go.RowKit
set_option linter.unusedVariables false

/-- The sector of a place. -/
def phI (p a : Int) : Int := p + a / 31 * 32 + 1 + a % 31
def outR (p f : Int) : Nat → List (List Value)
  | 0 => []
  | k + 1 => outR p f k ++ [actR 1 (phI p (f + k)) (3 + k) false 0 0 0 0]
def inR (p t : Int) : Nat → List (List Value)
  | 0 => []
  | k + 1 => inR p t k ++ [actR 1 (3 + k) (phI p (t + k)) false 0 0 0 0]
def tailR : List (List Value) := [actR 2 0 0 false 0 0 0 0, actR 4 0 0 false 0 0 0 0, actR 3 0 0 false 0 0 0 0]
def midR (s f t n : Int) : List (List Value) := [actR 2 0 0 false 0 0 0 0, actR 3 0 0 true s f t n, actR 2 0 0 false 0 0 0 0]
theorem isAct (k f t : Int) (b : Bool) (s f' t' n : Int) : IsAct (actR k f t b s f' t' n) := ⟨k, f, t, b, s, f', t', n, rfl⟩
theorem outR_len (p f : Int) : ∀ k, (outR p f k).length = k
  | 0 => rfl
  | k + 1 => by simp [outR, outR_len p f k]
theorem inR_len (p f : Int) : ∀ k, (inR p f k).length = k
  | 0 => rfl
  | k + 1 => by simp [inR, inR_len p f k]
theorem outR_act (p f : Int) : ∀ k, ∀ r ∈ outR p f k, IsAct r
  | 0, r, h => by simp [outR] at h
  | k + 1, r, h => by
    simp only [outR, List.mem_append, List.mem_singleton] at h
    rcases h with h | rfl
    · exact outR_act p f k r h
    · exact isAct _ _ _ _ _ _ _ _
theorem inR_act (p f : Int) : ∀ k, ∀ r ∈ inR p f k, IsAct r
  | 0, r, h => by simp [inR] at h
  | k + 1, r, h => by
    simp only [inR, List.mem_append, List.mem_singleton] at h
    rcases h with h | rfl
    · exact inR_act p f k r h
    · exact isAct _ _ _ _ _ _ _ _
theorem outR_flat (p f : Int) (k : Nat) : (outR p f (k + 1)).flatten = (outR p f k).flatten ++ actR 1 (phI p (f + k)) (3 + k) false 0 0 0 0 := by simp [outR]
theorem inR_flat (p f : Int) (k : Nat) : (inR p f (k + 1)).flatten = (inR p f k).flatten ++ actR 1 (3 + k) (phI p (f + k)) false 0 0 0 0 := by simp [inR]
theorem infoAct : (Try.prog.info? 40).map (fun i => (i.zero, i.size, i.bytes)) = some (some (.agg #[.int .i64 0, .int .i64 0, .int .i64 0, .bool false, .int .u64 0, .int .i64 0, .int .i64 0, .int .i64 0]), 8, 64) := by kernel_rfl
theorem actR_one (k f t : Int) (b : Bool) (s f' t' n : Int) : ∀ u ∈ actR k f t b s f' t' n, u.oneCell' = true := by
  intro u hu
  simp only [actR, List.mem_cons, List.not_mem_nil, or_false] at hu
  rcases hu with rfl | rfl | rfl | rfl | rfl | rfl | rfl | rfl <;> rfl

theorem tailR_one : ∀ u ∈ tailR.flatten, u.oneCell' = true := by
  intro u hu
  simp only [tailR, List.flatten_cons, List.flatten_nil, List.append_nil, List.mem_append] at hu
  rcases hu with hu | hu | hu <;> exact actR_one _ _ _ _ _ _ _ _ u hu
theorem midR_one (s f t n : Int) : ∀ u ∈ (midR s f t n).flatten, u.oneCell' = true := by
  intro u hu
  simp only [midR, List.flatten_cons, List.flatten_nil, List.append_nil, List.mem_append] at hu
  rcases hu with hu | hu | hu <;> exact actR_one _ _ _ _ _ _ _ _ u hu

set_option maxRecDepth 100000 in
set_option maxHeartbeats 4000000 in
theorem out_any (a0 a2 a3 a4 a5 a6 p g s f t : Int) (N : Nat) (w : World) (h : 0 ≤ g) (h2 : g ≤ 65536) (h3 : 0 ≤ p) (h4 : p ≤ 65536) (h5 : 0 ≤ f) (h6 : f + N ≤ g * 31) (h7 : 1 ≤ N) (h8 : N ≤ 9) :
    Calls Try.prog 25 #[.agg #[.int .i64 a0, .int .i64 3, .int .i64 a2, .int .i64 a3, .int .i64 a4, .int .i64 a5, .int .i64 a6, .int .i64 p, .int .i64 g], .agg #[.int .u64 s, .int .i64 f, .int .i64 t, .int .i64 N]] w fun e w' => ∃ v, e = .returned v ∧ w'.ownsRow w.heap.size 40 8 v N (outR p f N).flatten ∧ Below w.heap.size w w' := by
  have C := Lib.hid (fun (w1 : World) (k : Nat) (hk : k < N) => phys_in a0 3 a2 a3 a4 a5 a6 p g (f + k) w1 h h2 h3 h4 (by omega) (by omega))
  have hB0 := Lib.hid (fun o q => below2 w o q)
  go_enter Try.func25, Try.ntmps25
  go_wp2_with fail
  obtain ⟨W2, hW2⟩ : ∃ W2 : World, W2 = (w.alloc (.cells #[.int .i64 a0, .int .i64 3, .int .i64 a2, .int .i64 a3, .int .i64 a4, .int .i64 a5, .int .i64 a6, .int .i64 p, .int .i64 g] 29)).alloc (.cells #[.int .u64 s, .int .i64 f, .int .i64 t, .int .i64 N] 24) := ⟨_, rfl⟩
  have hb2 : Below w.heap.size w W2 := by rw [hW2]; exact below2 _ _ _
  have hs2 : W2.heap.size = w.heap.size + 2 := by rw [hW2]; simp
  have hl : ∀ i, W2.cell? ⟨w.heap.size, i, none⟩ = (#[Value.int .i64 a0, .int .i64 3, .int .i64 a2, .int .i64 a3, .int .i64 a4, .int .i64 a5, .int .i64 a6, .int .i64 p, .int .i64 g])[i]? := by intro i; rw [hW2]; go_simp
  have hm : ∀ i, W2.cell? ⟨w.heap.size + 1, i, none⟩ = (#[Value.int .u64 s, .int .i64 f, .int .i64 t, .int .i64 N])[i]? := by intro i; rw [hW2]; go_simp
  rw [← hW2]
  have HW := Lib.hid hb2
  have HS := Lib.hid hs2
  have HL := Lib.hid hl
  have HM := Lib.hid hm
  clear hb2 hl hm hW2
  go_loopw [5, 11] (fun v i wr => ∃ (k : Nat) (A' : Option Addr) (c' : Nat), k ≤ N ∧ i = .int .i64 k ∧ v = .slice A' k c' ∧ wr.ownsRow W2.heap.size 40 8 (.slice A' k c') k (outR p f k).flatten ∧ Below W2.heap.size W2 wr) (fun _ i _ => N - (intOf i).toNat)
  case atStart => exact ⟨0, none, 0, by omega, rfl, rfl, World.ownsRow_nil _ _ _ _, Below.refl _ _⟩
  case round =>
    obtain ⟨k, A', c', hk, rfl, rfl, hown, hb⟩ := hrel
    have HO := Lib.hid hown
    have HB := Lib.hid hb
    have hlr : ∀ i, wr.cell? ⟨w.heap.size, i, none⟩ = (#[Value.int .i64 a0, .int .i64 3, .int .i64 a2, .int .i64 a3, .int .i64 a4, .int .i64 a5, .int .i64 a6, .int .i64 p, .int .i64 g])[i]? := fun i => (hb.cell (p := ⟨w.heap.size, i, none⟩) (by simp; omega)).trans (HL.out i)
    have hmr : ∀ i, wr.cell? ⟨w.heap.size + 1, i, none⟩ = (#[Value.int .u64 s, .int .i64 f, .int .i64 t, .int .i64 N])[i]? := fun i => (hb.cell (p := ⟨w.heap.size + 1, i, none⟩) (by simp; omega)).trans (HM.out i)
    have hz : w.heap.size + 1 < wr.heap.size := by have := hb.size; omega
    clear hown hb hs2
    by_cases hlt : k < N
    · have C1 := Lib.hid (fun w1 => C.out w1 k hlt)
      go_wp2_with fail
      refine (C1.out _).mono ?_
      rintro e w3 ⟨rfl, hb3⟩
      have HB3 := Lib.hid (HB.out.trans (hb3.mono HB.out.size))
      have HO3 := Lib.hid (own_kept HO.out hb3)
      have hc3 := fun i => hb3.cell (p := ⟨w.heap.size, i, none⟩) (by simp; omega)
      have hd3 := fun i => hb3.cell (p := ⟨w.heap.size + 1, i, none⟩) (by simp; omega)
      have hz3 : w.heap.size + 1 < w3.heap.size := by have := hb3.size; omega
      clear hb3
      go_wp2_with (at_builtin; go_must (refine wpList_append_rd rfl _ _ 33 rfl W2.heap.size 40 (.agg #[.int .i64 0, .int .i64 0, .int .i64 0, .bool false, .int .u64 0, .int .i64 0, .int .i64 0, .int .i64 0]) 8 64 Try.underlying33 infoAct rfl (by decide) _ k _ rfl (HO3.out.alloc _) _ 1 1 (actR 1 (phI p (f + k)) (3 + k) false 0 0 0 0) rfl (by simp) (by rfl) (rd_new _ _ _) (actR_one _ _ _ _ _ _ _ _) (by unfold maxLen; omega) (by omega) (HB3.out.alloc HB3.out.size _).size ?_))
      intro v8 w8 hown8 hg8
      have hb8 := below_app (HB3.out.alloc HB3.out.size _) (HB3.out.alloc HB3.out.size _).size (HO3.out.alloc _) hg8
      have HB8 := Lib.hid hb8
      obtain ⟨A8, c8, rfl, hc8⟩ := own_sh hown8
      rw [← outR_flat] at hown8
      have HO8 := Lib.hid hown8
      clear hown8 hg8 hb8
      go_wp2
      go_roundw
      case rel => exact ⟨k + 1, A8, c8, by omega, by go_num, rfl, HO8.out, HB8.out⟩
      case measure => simp [intOf]; omega
    · obtain rfl : k = N := by omega
      go_wp2
      go_ret
      exact ⟨_, rfl, own_mono HO.out (by have := HS.out; omega), HW.out.trans (HB.out.mono (by have := HS.out; omega))⟩
set_option maxRecDepth 100000 in
set_option maxHeartbeats 4000000 in
theorem in_any (a0 a2 a3 a4 a5 a6 p g s f t : Int) (N : Nat) (w : World) (h : 0 ≤ g) (h2 : g ≤ 65536) (h3 : 0 ≤ p) (h4 : p ≤ 65536) (h5 : 0 ≤ t) (h6 : t + N ≤ g * 31) (h7 : 1 ≤ N) (h8 : N ≤ 9) :
    Calls Try.prog 26 #[.agg #[.int .i64 a0, .int .i64 3, .int .i64 a2, .int .i64 a3, .int .i64 a4, .int .i64 a5, .int .i64 a6, .int .i64 p, .int .i64 g], .agg #[.int .u64 s, .int .i64 f, .int .i64 t, .int .i64 N]] w fun e w' => ∃ v, e = .returned v ∧ w'.ownsRow w.heap.size 40 8 v (N + 3) (inR p t N ++ tailR).flatten ∧ Below w.heap.size w w' := by
  have C := Lib.hid (fun (w1 : World) (k : Nat) (hk : k < N) => phys_in a0 3 a2 a3 a4 a5 a6 p g (t + k) w1 h h2 h3 h4 (by omega) (by omega))
  have hB0 := Lib.hid (fun o q => below2 w o q)
  go_enter Try.func26, Try.ntmps26
  go_wp2_with fail
  obtain ⟨W2, hW2⟩ : ∃ W2 : World, W2 = (w.alloc (.cells #[.int .i64 a0, .int .i64 3, .int .i64 a2, .int .i64 a3, .int .i64 a4, .int .i64 a5, .int .i64 a6, .int .i64 p, .int .i64 g] 29)).alloc (.cells #[.int .u64 s, .int .i64 f, .int .i64 t, .int .i64 N] 24) := ⟨_, rfl⟩
  have hb2 : Below w.heap.size w W2 := by rw [hW2]; exact below2 _ _ _
  have hs2 : W2.heap.size = w.heap.size + 2 := by rw [hW2]; simp
  have hl : ∀ i, W2.cell? ⟨w.heap.size, i, none⟩ = (#[Value.int .i64 a0, .int .i64 3, .int .i64 a2, .int .i64 a3, .int .i64 a4, .int .i64 a5, .int .i64 a6, .int .i64 p, .int .i64 g])[i]? := by intro i; rw [hW2]; go_simp
  have hm : ∀ i, W2.cell? ⟨w.heap.size + 1, i, none⟩ = (#[Value.int .u64 s, .int .i64 f, .int .i64 t, .int .i64 N])[i]? := by intro i; rw [hW2]; go_simp
  rw [← hW2]
  have HW := Lib.hid hb2
  have HS := Lib.hid hs2
  have HL := Lib.hid hl
  have HM := Lib.hid hm
  clear hb2 hl hm hW2
  go_loopw [5, 11] (fun v i wr => ∃ (k : Nat) (A' : Option Addr) (c' : Nat), k ≤ N ∧ i = .int .i64 k ∧ v = .slice A' k c' ∧ wr.ownsRow W2.heap.size 40 8 (.slice A' k c') k (inR p t k).flatten ∧ Below W2.heap.size W2 wr) (fun _ i _ => N - (intOf i).toNat)
  case atStart => exact ⟨0, none, 0, by omega, rfl, rfl, World.ownsRow_nil _ _ _ _, Below.refl _ _⟩
  case round =>
    obtain ⟨k, A', c', hk, rfl, rfl, hown, hb⟩ := hrel
    have HO := Lib.hid hown
    have HB := Lib.hid hb
    have hlr : ∀ i, wr.cell? ⟨w.heap.size, i, none⟩ = (#[Value.int .i64 a0, .int .i64 3, .int .i64 a2, .int .i64 a3, .int .i64 a4, .int .i64 a5, .int .i64 a6, .int .i64 p, .int .i64 g])[i]? := fun i => (hb.cell (p := ⟨w.heap.size, i, none⟩) (by simp; omega)).trans (HL.out i)
    have hmr : ∀ i, wr.cell? ⟨w.heap.size + 1, i, none⟩ = (#[Value.int .u64 s, .int .i64 f, .int .i64 t, .int .i64 N])[i]? := fun i => (hb.cell (p := ⟨w.heap.size + 1, i, none⟩) (by simp; omega)).trans (HM.out i)
    have hz : w.heap.size + 1 < wr.heap.size := by have := hb.size; omega
    clear hown hb hs2
    by_cases hlt : k < N
    · have C1 := Lib.hid (fun w1 => C.out w1 k hlt)
      go_wp2_with fail
      refine (C1.out _).mono ?_
      rintro e w3 ⟨rfl, hb3⟩
      have HB3 := Lib.hid (HB.out.trans (hb3.mono HB.out.size))
      have HO3 := Lib.hid (own_kept HO.out hb3)
      have hc3 := fun i => hb3.cell (p := ⟨w.heap.size, i, none⟩) (by simp; omega)
      have hd3 := fun i => hb3.cell (p := ⟨w.heap.size + 1, i, none⟩) (by simp; omega)
      have hz3 : w.heap.size + 1 < w3.heap.size := by have := hb3.size; omega
      clear hb3
      go_wp2_with (at_builtin; go_must (refine wpList_append_rd rfl _ _ 33 rfl W2.heap.size 40 (.agg #[.int .i64 0, .int .i64 0, .int .i64 0, .bool false, .int .u64 0, .int .i64 0, .int .i64 0, .int .i64 0]) 8 64 Try.underlying33 infoAct rfl (by decide) _ k _ rfl (HO3.out.alloc _) _ 1 1 (actR 1 (3 + k) (phI p (t + k)) false 0 0 0 0) rfl (by simp) (by rfl) (rd_new _ _ _) (actR_one _ _ _ _ _ _ _ _) (by unfold maxLen; omega) (by omega) (HB3.out.alloc HB3.out.size _).size ?_))
      intro v8 w8 hown8 hg8
      have hb8 := below_app (HB3.out.alloc HB3.out.size _) (HB3.out.alloc HB3.out.size _).size (HO3.out.alloc _) hg8
      have HB8 := Lib.hid hb8
      obtain ⟨A8, c8, rfl, hc8⟩ := own_sh hown8
      rw [← inR_flat] at hown8
      have HO8 := Lib.hid hown8
      clear hown8 hg8 hb8
      go_wp2
      go_roundw
      case rel => exact ⟨k + 1, A8, c8, by omega, by go_num, rfl, HO8.out, HB8.out⟩
      case measure => simp [intOf]; omega
    · obtain rfl : k = N := by omega
      go_wp2_with (at_builtin; go_must (refine wpList_append_rd rfl _ _ 33 rfl W2.heap.size 40 (.agg #[.int .i64 0, .int .i64 0, .int .i64 0, .bool false, .int .u64 0, .int .i64 0, .int .i64 0, .int .i64 0]) 8 64 Try.underlying33 infoAct rfl (by decide) _ k _ rfl (HO.out.alloc _) _ 3 3 tailR.flatten rfl (by simp) (by rfl) (rd_new _ _ _) tailR_one (by unfold maxLen; omega) (by omega) (HB.out.alloc HB.out.size _).size ?_))
      intro v8 w8 hown8 hg8
      have hb8 := below_app (HB.out.alloc HB.out.size _) (HB.out.alloc HB.out.size _).size (HO.out.alloc _) hg8
      have HB8 := Lib.hid hb8
      rw [← List.flatten_append] at hown8
      have HO8 := Lib.hid hown8
      clear hown8 hg8 hb8
      go_wp2
      go_ret
      exact ⟨_, rfl, own_mono HO8.out (by have := HS.out; omega), HW.out.trans (HB8.out.mono (by have := HS.out; omega))⟩
set_option maxRecDepth 100000 in
set_option maxHeartbeats 4000000 in
theorem last_any (a0 a2 a3 a4 a5 a6 p g s f t : Int) (N : Nat) (w : World) (h : 0 ≤ g) (h2 : g ≤ 65536) (h3 : 0 ≤ p) (h4 : p ≤ 65536) (h5 : 0 ≤ t) (h6 : t + N ≤ g * 31) (h7 : 1 ≤ N) (h8 : N ≤ 9) :
    Calls Try.prog 31 #[.agg #[.int .i64 a0, .int .i64 3, .int .i64 a2, .int .i64 a3, .int .i64 a4, .int .i64 a5, .int .i64 a6, .int .i64 p, .int .i64 g], .agg #[.int .u64 s, .int .i64 f, .int .i64 t, .int .i64 N]] w fun e w' => ∃ v, e = .returned v ∧ w'.ownsRow w.heap.size 40 8 v (N + 3) (inR p t N ++ tailR).flatten ∧ Below w.heap.size w w' := by
  have C := Lib.hid (fun (w1 : World) (k : Nat) (hk : k < N) => refphys_in a0 3 a2 a3 a4 a5 a6 p g (t + k) w1 h h2 h3 h4 (by omega) (by omega))
  have hB0 := Lib.hid (fun o q => below2 w o q)
  go_enter Try.func31, Try.ntmps31
  go_wp2_with fail
  obtain ⟨W2, hW2⟩ : ∃ W2 : World, W2 = (w.alloc (.cells #[.int .i64 a0, .int .i64 3, .int .i64 a2, .int .i64 a3, .int .i64 a4, .int .i64 a5, .int .i64 a6, .int .i64 p, .int .i64 g] 29)).alloc (.cells #[.int .u64 s, .int .i64 f, .int .i64 t, .int .i64 N] 24) := ⟨_, rfl⟩
  have hb2 : Below w.heap.size w W2 := by rw [hW2]; exact below2 _ _ _
  have hs2 : W2.heap.size = w.heap.size + 2 := by rw [hW2]; simp
  have hl : ∀ i, W2.cell? ⟨w.heap.size, i, none⟩ = (#[Value.int .i64 a0, .int .i64 3, .int .i64 a2, .int .i64 a3, .int .i64 a4, .int .i64 a5, .int .i64 a6, .int .i64 p, .int .i64 g])[i]? := by intro i; rw [hW2]; go_simp
  have hm : ∀ i, W2.cell? ⟨w.heap.size + 1, i, none⟩ = (#[Value.int .u64 s, .int .i64 f, .int .i64 t, .int .i64 N])[i]? := by intro i; rw [hW2]; go_simp
  rw [← hW2]
  have HW := Lib.hid hb2
  have HS := Lib.hid hs2
  have HL := Lib.hid hl
  have HM := Lib.hid hm
  clear hb2 hl hm hW2
  go_loopw [5, 6] (fun v i wr => ∃ (k : Nat) (A' : Option Addr) (c' : Nat), k ≤ N ∧ i = .int .i64 k ∧ v = .slice A' k c' ∧ wr.ownsRow W2.heap.size 40 8 (.slice A' k c') k (inR p t k).flatten ∧ Below W2.heap.size W2 wr) (fun _ i _ => N - (intOf i).toNat)
  case atStart => exact ⟨0, none, 0, by omega, rfl, rfl, World.ownsRow_nil _ _ _ _, Below.refl _ _⟩
  case round =>
    obtain ⟨k, A', c', hk, rfl, rfl, hown, hb⟩ := hrel
    have HO := Lib.hid hown
    have HB := Lib.hid hb
    have hlr : ∀ i, wr.cell? ⟨w.heap.size, i, none⟩ = (#[Value.int .i64 a0, .int .i64 3, .int .i64 a2, .int .i64 a3, .int .i64 a4, .int .i64 a5, .int .i64 a6, .int .i64 p, .int .i64 g])[i]? := fun i => (hb.cell (p := ⟨w.heap.size, i, none⟩) (by simp; omega)).trans (HL.out i)
    have hmr : ∀ i, wr.cell? ⟨w.heap.size + 1, i, none⟩ = (#[Value.int .u64 s, .int .i64 f, .int .i64 t, .int .i64 N])[i]? := fun i => (hb.cell (p := ⟨w.heap.size + 1, i, none⟩) (by simp; omega)).trans (HM.out i)
    have hz : w.heap.size + 1 < wr.heap.size := by have := hb.size; omega
    clear hown hb hs2
    by_cases hlt : k < N
    · have C1 := Lib.hid (fun w1 => C.out w1 k hlt)
      go_wp2_with fail
      refine (C1.out _).mono ?_
      rintro e w3 ⟨rfl, hb3⟩
      have HB3 := Lib.hid (HB.out.trans (hb3.mono HB.out.size))
      have HO3 := Lib.hid (own_kept HO.out hb3)
      have hc3 := fun i => hb3.cell (p := ⟨w.heap.size, i, none⟩) (by simp; omega)
      have hd3 := fun i => hb3.cell (p := ⟨w.heap.size + 1, i, none⟩) (by simp; omega)
      have hz3 : w.heap.size + 1 < w3.heap.size := by have := hb3.size; omega
      clear hb3
      go_wp2_with (at_builtin; go_must (refine wpList_append_rd rfl _ _ 33 rfl W2.heap.size 40 (.agg #[.int .i64 0, .int .i64 0, .int .i64 0, .bool false, .int .u64 0, .int .i64 0, .int .i64 0, .int .i64 0]) 8 64 Try.underlying33 infoAct rfl (by decide) _ k _ rfl (HO3.out.alloc _) _ 1 1 (actR 1 (3 + k) (phI p (t + k)) false 0 0 0 0) rfl (by simp) (by rfl) (rd_new _ _ _) (actR_one _ _ _ _ _ _ _ _) (by unfold maxLen; omega) (by omega) (HB3.out.alloc HB3.out.size _).size ?_))
      intro v8 w8 hown8 hg8
      have hb8 := below_app (HB3.out.alloc HB3.out.size _) (HB3.out.alloc HB3.out.size _).size (HO3.out.alloc _) hg8
      have HB8 := Lib.hid hb8
      obtain ⟨A8, c8, rfl, hc8⟩ := own_sh hown8
      rw [← inR_flat] at hown8
      have HO8 := Lib.hid hown8
      clear hown8 hg8 hb8
      go_wp2
      go_roundw
      case rel => exact ⟨k + 1, A8, c8, by omega, by go_num, rfl, HO8.out, HB8.out⟩
      case measure => simp [intOf]; omega
    · obtain rfl : k = N := by omega
      go_wp2_with (at_builtin; go_must (refine wpList_append_rd rfl _ _ 33 rfl W2.heap.size 40 (.agg #[.int .i64 0, .int .i64 0, .int .i64 0, .bool false, .int .u64 0, .int .i64 0, .int .i64 0, .int .i64 0]) 8 64 Try.underlying33 infoAct rfl (by decide) _ k _ rfl (HO.out.alloc _) _ 3 3 tailR.flatten rfl (by simp) (by rfl) (rd_new _ _ _) tailR_one (by unfold maxLen; omega) (by omega) (HB.out.alloc HB.out.size _).size ?_))
      intro v8 w8 hown8 hg8
      have hb8 := below_app (HB.out.alloc HB.out.size _) (HB.out.alloc HB.out.size _).size (HO.out.alloc _) hg8
      have HB8 := Lib.hid hb8
      rw [← List.flatten_append] at hown8
      have HO8 := Lib.hid hown8
      clear hown8 hg8 hb8
      go_wp2
      go_ret
      exact ⟨_, rfl, own_mono HO8.out (by have := HS.out; omega), HW.out.trans (HB8.out.mono (by have := HS.out; omega))⟩
end Go.Proofs.Ythjbjlokpcpceaa
