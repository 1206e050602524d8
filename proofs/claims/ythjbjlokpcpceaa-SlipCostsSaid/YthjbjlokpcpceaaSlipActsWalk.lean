/- The walk of SlipActs: whatever is handed in, it answers true and writes nothing that was there. -/
import Derived.Test.YthjbjlokpcpceaaSlipCom
namespace Go.Proofs.Ythjbjlokpcpceaa
open Go.RowKit
set_option linter.unusedVariables false

/-- What a call answers: acts, its own, and an error. -/
def ActsAns (f : FuncId) (l m : Value) (er : Int) (rows : List (List Value)) : Prop := ∀ w1 : World, Calls Try.prog f #[l, m] w1 fun e w' => ∃ v, e = .returned (.tuple #[v, .int .i64 er]) ∧ w'.ownsRow w1.heap.size 40 8 v rows.length rows.flatten ∧ Below w1.heap.size w1 w'
theorem ans_nil {f : FuncId} {l m : Value} {er : Int} (h : ∀ w1 : World, Calls Try.prog f #[l, m] w1 fun e w' => e = .returned (.tuple #[.slice none 0 0, .int .i64 er]) ∧ Below w1.heap.size w1 w') : ActsAns f l m er [] := by
  intro w1
  refine (h w1).mono ?_
  rintro e w' ⟨rfl, hb⟩
  exact ⟨_, rfl, World.ownsRow_nil _ _ _ _, hb⟩
theorem ans_calls {f : FuncId} {l m : Value} {er : Int} {rows : List (List Value)} (h : ActsAns f l m er rows) (w1 : World) : Calls Try.prog f #[l, m] w1 fun e w' => ∃ v, e = .returned (.tuple #[v, .int .i64 er]) ∧ w'.ownsRow w1.heap.size 40 8 v rows.length rows.flatten ∧ Below w1.heap.size w1 w' := h w1
def Alike (f g : FuncId) (l m : Value) : Prop := ∃ er rows, (∀ r ∈ rows, IsAct r) ∧ rows.length ≤ 100 ∧ ActsAns f l m er rows ∧ ActsAns g l m er rows
theorem mid_act (s f t n : Int) : ∀ r ∈ midR s f t n, IsAct r := by
  intro r hr
  simp only [midR, List.mem_cons, List.not_mem_nil, or_false] at hr
  rcases hr with rfl | rfl | rfl <;> exact isAct _ _ _ _ _ _ _ _
theorem plan_alike (n : Int) : ∃ l0 l1 l2 l3 l4 l5 l6 l7 l8 er : Int, (∀ w : World, Calls Try.prog 6 #[.int .i64 n] w fun e w' => e = .returned (.tuple #[.agg #[.int .i64 l0, .int .i64 l1, .int .i64 l2, .int .i64 l3, .int .i64 l4, .int .i64 l5, .int .i64 l6, .int .i64 l7, .int .i64 l8], .int .i64 er]) ∧ Below w.heap.size w w') ∧
    (∀ s f t N : Int, Alike 7 8 (.agg #[.int .i64 l0, .int .i64 l1, .int .i64 l2, .int .i64 l3, .int .i64 l4, .int .i64 l5, .int .i64 l6, .int .i64 l7, .int .i64 l8]) (.agg #[.int .u64 s, .int .i64 f, .int .i64 t, .int .i64 N])) ∧
    (∀ (a : Bool) (s f t N : Int), Alike 9 10 (.agg #[.int .i64 l0, .int .i64 l1, .int .i64 l2, .int .i64 l3, .int .i64 l4, .int .i64 l5, .int .i64 l6, .int .i64 l7, .int .i64 l8]) (.agg #[.bool a, .int .u64 s, .int .i64 f, .int .i64 t, .int .i64 N])) := by
  by_cases hn : 256 ≤ n ∧ n ≤ 65536
  · obtain ⟨h1, h2⟩ := hn
    obtain ⟨s0, hs⟩ : ∃ s0, s0 = (n - 13) / 8 := ⟨_, rfl⟩
    obtain ⟨g, hg⟩ : ∃ g, g = (n - (13 + 3 * s0)) / 32 := ⟨_, rfl⟩
    refine ⟨n, 3, 13, s0, 13 + s0, 13 + 2 * s0, s0, 13 + 3 * s0, g, 0, fun w => refplan_ok n s0 g w h1 h2 hs hg, ?_, ?_⟩
    · intro s f t N
      cases hm : mayB (g * 31) s f t N with
      | false => exact ⟨1, [], by simp, by simp, ans_nil (fun w1 => acts_no n s0 g s f t N w1 h1 h2 hs hg hm), ans_nil (fun w1 => refacts_no n s0 g s f t N w1 h1 h2 hs hg hm)⟩
      | true =>
        have hm' := (mayB_iff _ _ _ _ _).1 hm
        obtain ⟨k, rfl⟩ : ∃ k : Nat, N = (k : Int) := ⟨N.toNat, by omega⟩
        have hl : (outR (13 + 3 * s0) f k ++ midR s f t k ++ (inR (13 + 3 * s0) t k ++ tailR)).length = k + 3 + (k + 3) := by simp [outR_len, inR_len, midR, tailR]; omega
        refine ⟨0, outR (13 + 3 * s0) f k ++ midR s f t k ++ (inR (13 + 3 * s0) t k ++ tailR), ?_, by rw [hl]; omega, ?_, ?_⟩
        · intro r hr
          simp only [List.mem_append] at hr
          rcases hr with (h | h) | h
          · exact outR_act _ _ _ r h
          · exact mid_act _ _ _ _ r h
          · exact all_act _ _ _ r (by simpa using h)
        · intro w1; rw [hl]; exact acts_ok n s0 g s f t k w1 h1 h2 hs hg hm
        · intro w1; rw [hl]; exact refacts_ok n s0 g s f t k w1 h1 h2 hs hg hm
    · intro a s f t N
      cases hj : jmayB a s f t N with
      | false => exact ⟨11, [], by simp, by simp, ans_nil (fun w1 => redo_form n s0 g a s f t N w1 h1 h2 hs hg hj), ans_nil (fun w1 => refredo_form n s0 g a s f t N w1 h1 h2 hs hg hj)⟩
      | true =>
        cases a with
        | false => exact ⟨0, [], by simp, by simp, ans_nil (fun w1 => redo_none n s0 g s f t N w1 h1 h2 hs hg hj), ans_nil (fun w1 => refredo_none n s0 g s f t N w1 h1 h2 hs hg hj)⟩
        | true =>
          cases hm : mayB (g * 31) s f t N with
          | false => exact ⟨1, [], by simp, by simp, ans_nil (fun w1 => redo_far n s0 g s f t N w1 h1 h2 hs hg hj hm), ans_nil (fun w1 => refredo_far n s0 g s f t N w1 h1 h2 hs hg hj hm)⟩
          | true =>
            have hm' := (mayB_iff _ _ _ _ _).1 hm
            obtain ⟨k, rfl⟩ : ∃ k : Nat, N = (k : Int) := ⟨N.toNat, by omega⟩
            have hl : (inR (13 + 3 * s0) t k ++ tailR).length = k + 3 := by simp [inR_len, tailR]
            refine ⟨0, inR (13 + 3 * s0) t k ++ tailR, fun r hr => all_act _ _ _ r hr, by rw [hl]; omega, ?_, ?_⟩
            · intro w1; rw [hl]; exact redo_ok n s0 g s f t k w1 h1 h2 hs hg hm
            · intro w1; rw [hl]; exact refredo_ok n s0 g s f t k w1 h1 h2 hs hg hm
  · refine ⟨0, 0, 0, 0, 0, 0, 0, 0, 0, 1, fun w => refplan_bad n w (by omega), ?_, ?_⟩
    · intro s f t N
      exact ⟨1, [], by simp, by simp, ans_nil (fun w1 => acts_zero s f t N w1), ans_nil (fun w1 => refacts_zero s f t N w1)⟩
    · intro a s f t N
      exact ⟨1, [], by simp, by simp, ans_nil (fun w1 => redo_zero a s f t N w1), ans_nil (fun w1 => refredo_zero a s f t N w1)⟩

set_option maxRecDepth 100000 in
set_option maxHeartbeats 4000000 in
theorem slipacts_all (n s f t N : Int) (a : Bool) (s' f' t' N' : Int) (w : World) :
    Calls Try.prog 3 #[.int .i64 n, .agg #[.int .u64 s, .int .i64 f, .int .i64 t, .int .i64 N], .agg #[.bool a, .int .u64 s', .int .i64 f', .int .i64 t', .int .i64 N']] w fun e w' => e = .returned (.bool true) ∧ Below w.heap.size w w' := by
  obtain ⟨l0, l1, l2, l3, l4, l5, l6, l7, l8, er, hP, hA, hR⟩ := plan_alike n
  obtain ⟨e1, r1, hr1, hl1, ha1, hb1⟩ := hA s f t N
  obtain ⟨e2, r2, hr2, hl2, ha2, hb2⟩ := hR a s' f' t' N'
  have P := Lib.hid hP
  have A1 := Lib.hid (fun w1 => ans_calls ha1 w1)
  have B1 := Lib.hid (fun w1 => ans_calls hb1 w1)
  have A2 := Lib.hid (fun w1 => ans_calls ha2 w1)
  have B2 := Lib.hid (fun w1 => ans_calls hb2 w1)
  have AW := Lib.hid (fun w1 => awake25 w1)
  have S1 := Lib.hid (fun (w1 : World) A c B d (h : Rd w1 A r1.flatten) (h' : Rd w1 B r1.flatten) => act_plain A r1.length c r1 B d w1 rfl h h' hr1 (by omega))
  have S2 := Lib.hid (fun (w1 : World) A c B d (h : Rd w1 A r2.flatten) (h' : Rd w1 B r2.flatten) => act_plain A r2.length c r2 B d w1 rfl h h' hr2 (by omega))
  have q1 : (e1 == e1) = true := by simp
  have q2 : (e2 == e2) = true := by simp
  clear hP hA hR ha1 hb1 ha2 hb2 hr1 hr2
  generalize r1.flatten = x1 at *
  generalize r2.flatten = x2 at *
  generalize r1.length = n1 at *
  generalize r2.length = n2 at *
  go_enter Try.func3, Try.ntmps3
  go_wp2_with fail
  refine (P.out _).mono ?_
  rintro e w1 ⟨rfl, hb1⟩
  go_upto_region 2 with fail
  have hz1 : w.heap.size + 1 < w1.heap.size := by have := hb1.size; simp at this; omega
  obtain ⟨W3, hW3⟩ : ∃ W3 : World, W3 = w1.alloc (.cells #[.int .i64 l0, .int .i64 l1, .int .i64 l2, .int .i64 l3, .int .i64 l4, .int .i64 l5, .int .i64 l6, .int .i64 l7, .int .i64 l8] 29) := ⟨_, rfl⟩
  have hb3 : Below w.heap.size w W3 := by rw [hW3]; exact ((below2 w _ _).trans (hb1.mono (below2 w _ _).size)).alloc (by omega) _
  have hK0 : ∀ w' : World, Below W3.heap.size W3 w' → (w'.cell? ⟨w1.heap.size, 0, none⟩ = some (.int .i64 l0) ∧ w'.cell? ⟨w1.heap.size, 1, none⟩ = some (.int .i64 l1) ∧ w'.cell? ⟨w1.heap.size, 2, none⟩ = some (.int .i64 l2) ∧ w'.cell? ⟨w1.heap.size, 3, none⟩ = some (.int .i64 l3) ∧ w'.cell? ⟨w1.heap.size, 4, none⟩ = some (.int .i64 l4) ∧ w'.cell? ⟨w1.heap.size, 5, none⟩ = some (.int .i64 l5) ∧ w'.cell? ⟨w1.heap.size, 6, none⟩ = some (.int .i64 l6) ∧ w'.cell? ⟨w1.heap.size, 7, none⟩ = some (.int .i64 l7) ∧ w'.cell? ⟨w1.heap.size, 8, none⟩ = some (.int .i64 l8) ∧ w'.cell? ⟨w.heap.size, 0, none⟩ = some (.int .u64 s) ∧ w'.cell? ⟨w.heap.size, 1, none⟩ = some (.int .i64 f) ∧ w'.cell? ⟨w.heap.size, 2, none⟩ = some (.int .i64 t) ∧ w'.cell? ⟨w.heap.size, 3, none⟩ = some (.int .i64 N) ∧ w'.cell? ⟨w.heap.size + 1, 0, none⟩ = some (.bool a) ∧ w'.cell? ⟨w.heap.size + 1, 1, none⟩ = some (.int .u64 s') ∧ w'.cell? ⟨w.heap.size + 1, 2, none⟩ = some (.int .i64 f') ∧ w'.cell? ⟨w.heap.size + 1, 3, none⟩ = some (.int .i64 t') ∧ w'.cell? ⟨w.heap.size + 1, 4, none⟩ = some (.int .i64 N')) := by
    intro w' hb
    have hs3 : W3.heap.size = w1.heap.size + 1 := by rw [hW3]; simp
    have e1 : ∀ i, w'.cell? ⟨w1.heap.size, i, none⟩ = W3.cell? ⟨w1.heap.size, i, none⟩ := fun i => hb.cell (p := ⟨w1.heap.size, i, none⟩) (by simp only [hs3]; omega)
    have e2 : ∀ b i, b < w.heap.size + 2 → w'.cell? ⟨b, i, none⟩ = W3.cell? ⟨b, i, none⟩ := fun b i h => hb.cell (p := ⟨b, i, none⟩) (by simp only [hs3]; omega)
    have e3 : ∀ b i, b < w.heap.size + 2 → W3.cell? ⟨b, i, none⟩ = w1.cell? ⟨b, i, none⟩ := fun b i h => by rw [hW3]; exact ((Below.refl w1.heap.size w1).alloc (Nat.le_refl _) _).cell (p := ⟨b, i, none⟩) (by simp only; omega)
    have e4 := fun b i (h : b < w.heap.size + 2) => hb1.cell (p := ⟨b, i, none⟩) (by simp only [World.size_alloc]; omega)
    have l1 : w.heap.size < w.heap.size + 2 := by omega
    have l2 : w.heap.size + 1 < w.heap.size + 2 := by omega
    simp only [e1, e2 _ _ l1, e2 _ _ l2, e3 _ _ l1, e3 _ _ l2, e4 _ _ l1, e4 _ _ l2]
    rw [hW3]
    refine ⟨?_, ?_, ?_, ?_, ?_, ?_, ?_, ?_, ?_, ?_, ?_, ?_, ?_, ?_, ?_, ?_, ?_, ?_⟩ <;> go_simp
  rw [← hW3]
  have HK := Lib.hid hK0
  have HW := Lib.hid hb3
  have HBW3 := Lib.hid (Below.refl W3.heap.size W3)
  clear hK0 hb1 hW3 hb3 hz1
  obtain ⟨k0, k1, k2, k3, k4, k5, k6, k7, k8, m0, m1, m2, m3, j0, j1, j2, j3, j4⟩ := HK.out W3 HBW3.out
  go_wp2_with fail
  refine (A1.out _).mono ?_
  rintro e w4 ⟨v4, rfl, hown, hb⟩
  obtain ⟨Av4, cv4, rfl, _, _, hrd, _⟩ := own_rd hown
  have HBw4 := Lib.hid (HBW3.out.trans (hb.mono HBW3.out.size))
  have Rv4 := Lib.hid hrd
  clear hown hrd hb k0 k1 k2 k3 k4 k5 k6 k7 k8 m0 m1 m2 m3 j0 j1 j2 j3 j4
  obtain ⟨k0, k1, k2, k3, k4, k5, k6, k7, k8, m0, m1, m2, m3, j0, j1, j2, j3, j4⟩ := HK.out w4 HBw4.out
  go_wp2_with fail
  refine (B1.out _).mono ?_
  rintro e w5 ⟨v5, rfl, hown, hb⟩
  obtain ⟨Av5, cv5, rfl, _, _, hrd, _⟩ := own_rd hown
  have HBw5 := Lib.hid (HBw4.out.trans (hb.mono HBw4.out.size))
  have Rv5 := Lib.hid hrd
  have Rv4' := Lib.hid (Rv4.out.kept hb)
  clear hown hrd hb k0 k1 k2 k3 k4 k5 k6 k7 k8 m0 m1 m2 m3 j0 j1 j2 j3 j4
  obtain ⟨k0, k1, k2, k3, k4, k5, k6, k7, k8, m0, m1, m2, m3, j0, j1, j2, j3, j4⟩ := HK.out w5 HBw5.out
  go_wp2_with fail
  refine (A2.out _).mono ?_
  rintro e w6 ⟨v6, rfl, hown, hb⟩
  obtain ⟨Av6, cv6, rfl, _, _, hrd, _⟩ := own_rd hown
  have HBw6 := Lib.hid (HBw5.out.trans (hb.mono HBw5.out.size))
  have Rv6 := Lib.hid hrd
  have Rv4'' := Lib.hid (Rv4'.out.kept hb)
  have Rv5'' := Lib.hid (Rv5.out.kept hb)
  clear hown hrd hb k0 k1 k2 k3 k4 k5 k6 k7 k8 m0 m1 m2 m3 j0 j1 j2 j3 j4
  obtain ⟨k0, k1, k2, k3, k4, k5, k6, k7, k8, m0, m1, m2, m3, j0, j1, j2, j3, j4⟩ := HK.out w6 HBw6.out
  go_wp2_with fail
  refine (B2.out _).mono ?_
  rintro e w7 ⟨v7, rfl, hown, hb⟩
  obtain ⟨Av7, cv7, rfl, _, _, hrd, _⟩ := own_rd hown
  have HBw7 := Lib.hid (HBw6.out.trans (hb.mono HBw6.out.size))
  have Rv7 := Lib.hid hrd
  have P4 := Lib.hid (Rv4''.out.kept hb)
  have P5 := Lib.hid (Rv5''.out.kept hb)
  have P6 := Lib.hid (Rv6.out.kept hb)
  clear hown hrd hb k0 k1 k2 k3 k4 k5 k6 k7 k8 m0 m1 m2 m3 j0 j1 j2 j3 j4
  go_wp2_with fail
  refine (AW.out _).mono ?_
  rintro e w8 ⟨rfl, hb⟩
  have HBw8 := Lib.hid (HBw7.out.trans (hb.mono HBw7.out.size))
  have Q4 := Lib.hid (P4.out.kept hb)
  have Q5 := Lib.hid (P5.out.kept hb)
  have Q6 := Lib.hid (P6.out.kept hb)
  have Q7 := Lib.hid (Rv7.out.kept hb)
  clear hb
  go_wp2_with fail
  refine (S1.out _ _ cv4 _ cv5 Q4.out Q5.out).mono ?_
  rintro e w9 ⟨rfl, hb⟩
  have HBw9 := Lib.hid (HBw8.out.trans (hb.mono HBw8.out.size))
  have U6 := Lib.hid (Q6.out.kept hb)
  have U7 := Lib.hid (Q7.out.kept hb)
  clear hb
  go_wp2_with fail
  refine (S2.out _ _ cv6 _ cv7 U6.out U7.out).mono ?_
  rintro e w10 ⟨rfl, hb⟩
  have HBw10 := Lib.hid (HBw9.out.trans (hb.mono HBw9.out.size))
  clear hb
  go_wp2
  go_ret
  exact ⟨rfl, HW.out.trans (HBw10.out.mono HW.out.size)⟩
theorem slipacts_row (n s f t N : Int) (a : Bool) (s' f' t' N' : Int) (w : World) (_ : (Lit.int .i64 n).wf = true) (_ : (Lit.int .u64 s).wf = true) (_ : (Lit.int .i64 f).wf = true) (_ : (Lit.int .i64 t).wf = true) (_ : (Lit.int .i64 N).wf = true) (_ : (Lit.int .u64 s').wf = true) (_ : (Lit.int .i64 f').wf = true) (_ : (Lit.int .i64 t').wf = true) (_ : (Lit.int .i64 N').wf = true) :
    Calls Try.prog 3 #[.int .i64 n, .agg #[.int .u64 s, .int .i64 f, .int .i64 t, .int .i64 N], .agg #[.bool a, .int .u64 s', .int .i64 f', .int .i64 t', .int .i64 N']] w fun e w' => e = .returned (.bool true) ∧ Below w.heap.size w w' :=
  slipacts_all n s f t N a s' f' t' N' w
end Go.Proofs.Ythjbjlokpcpceaa
