/- Contracts: record.Count, dunnageref21.Count, slices.Grow of nothing, slices.Concat of bytes; whatever is handed in. -/
import Derived.Test.YtdgciajdnmgcnaaRecPure
import Derived.Test.YtdgciajdnmgcnaaRefSeal
import Derived.Lib.AppendZeros
namespace Go.Proofs.Ytdgciajdnmgcnaa
open Go.RowKit
set_option linter.unusedVariables false

/-- Of how many sectors, told of any number. -/
def cntI (n : Int) : Int := if n < 0 ∨ 4096 < n then 0 else ((cnt n.toNat : Nat) : Int)
theorem cntI_nat (n : Nat) : cntI (n : Int) = (cnt n : Int) := by
  unfold cntI cnt
  by_cases h : 4096 < n
  · rw [if_pos (by omega), if_pos h]; rfl
  · rw [if_neg (by omega), Int.toNat_natCast]
set_option maxRecDepth 100000 in
set_option maxHeartbeats 1000000 in
theorem count_any (n : Int) (w : World) : Calls Try.prog 13 #[.int .i64 n] w fun e w' => e = .returned (.int .i64 (cntI n)) ∧ w = w' := by
  by_cases h : n < 0 ∨ 4096 < n
  · have hr : cntI n = 0 := by unfold cntI; rw [if_pos h]
    have HR := Lib.hid hr
    by_cases h0 : n < 0
    · clear hr h
      go_enter Try.func13, Try.ntmps13
      go_wp2
      go_ret
      exact ⟨by rw [HR.out]; rfl, rfl⟩
    · have h1 : 4096 < n := by omega
      clear hr h
      go_enter Try.func13, Try.ntmps13
      go_wp2
      go_ret
      exact ⟨by rw [HR.out]; rfl, rfl⟩
  · have h0 : ¬ n < 0 := by omega
    have h1 : ¬ 4096 < n := by omega
    obtain ⟨k, rfl⟩ := Int.eq_ofNat_of_zero_le (show 0 ≤ n by omega)
    obtain ⟨q, hq⟩ : ∃ q, q = (k + 479) / 480 := ⟨_, rfl⟩
    have e1 : IntKind.i64.wrap ((k : Int) + 480) = (k : Int) + 480 := IntWalk.i64_in _ (by omega)
    have e2 : IntKind.i64.wrap ((k : Int) + 480 - 1) = (k : Int) + 479 := by rw [IntWalk.i64_in _ (by omega)]; omega
    have e3 : ((k : Int) + 479).tdiv 480 = (q : Int) := by rw [Int.tdiv_eq_ediv_of_nonneg (by omega)]; omega
    have e4 : IntKind.i64.wrap (q : Int) = (q : Int) := IntWalk.i64_in _ (by omega)
    have hr : cntI (k : Int) = max (q : Int) 1 := by rw [cntI_nat, cnt_eq (by omega)]; omega
    have HR := Lib.hid hr
    clear hr h hq
    go_enter Try.func13, Try.ntmps13
    go_wp2
    all_goals (go_ret; refine ⟨?_, rfl⟩; rw [HR.out]; first | (rw [show max (q : Int) 1 = 1 by omega]; rfl) | (rw [show max (q : Int) 1 = q by omega]; rfl))
set_option maxRecDepth 100000 in
set_option maxHeartbeats 1000000 in
theorem refcount_any (n : Int) (w : World) : Calls Try.prog 14 #[.int .i64 n] w fun e w' => e = .returned (.int .i64 (cntI n)) ∧ w = w' := by
  by_cases h : n < 0 ∨ 4096 < n
  · have hr : cntI n = 0 := by unfold cntI; rw [if_pos h]
    have HR := Lib.hid hr
    by_cases h0 : n < 0
    · clear hr h
      go_enter Try.func14, Try.ntmps14
      go_wp2
      go_ret
      exact ⟨by rw [HR.out]; rfl, rfl⟩
    · have h1 : 4096 < n := by omega
      clear hr h
      go_enter Try.func14, Try.ntmps14
      go_wp2
      go_ret
      exact ⟨by rw [HR.out]; rfl, rfl⟩
  · have h0 : ¬ n < 0 := by omega
    have h1 : ¬ 4096 < n := by omega
    obtain ⟨k, rfl⟩ := Int.eq_ofNat_of_zero_le (show 0 ≤ n by omega)
    obtain ⟨q, hq⟩ : ∃ q, q = (k + 479) / 480 := ⟨_, rfl⟩
    have e1 : IntKind.i64.wrap ((k : Int) + 480) = (k : Int) + 480 := IntWalk.i64_in _ (by omega)
    have e2 : IntKind.i64.wrap ((k : Int) + 480 - 1) = (k : Int) + 479 := by rw [IntWalk.i64_in _ (by omega)]; omega
    have e3 : ((k : Int) + 479).tdiv 480 = (q : Int) := by rw [Int.tdiv_eq_ediv_of_nonneg (by omega)]; omega
    have e4 : IntKind.i64.wrap (q : Int) = (q : Int) := IntWalk.i64_in _ (by omega)
    have hr : cntI (k : Int) = max 1 (q : Int) := by rw [cntI_nat, cnt_eq (by omega)]; omega
    have HR := Lib.hid hr
    clear hr h hq
    go_enter Try.func14, Try.ntmps14
    go_wp2
    all_goals (go_ret; refine ⟨?_, rfl⟩; rw [HR.out]; first | (rw [show max 1 (q : Int) = 1 by omega]; rfl) | (rw [show max 1 (q : Int) = q by omega]; rfl))

theorem zeroCells_size (z : Array Value) (n : Nat) : (Builtin.zeroCells z n).size = n * z.size := by
  simp [Builtin.zeroCells]
set_option maxHeartbeats 1000000 in
theorem grow_nil (n : Nat) (w : World) (h : n ≤ 140737488355328) : Calls Try.prog 42 #[.slice none 0 0, .int .i64 n] w fun e w' => ∃ v, e = .returned v ∧ w'.ownsRow w.heap.size 5 1 v 0 [] ∧ Below w.heap.size w w' := by
  by_cases h0 : n = 0
  · subst h0
    go_enter Try.func42, Try.ntmps42
    go_wp2
    go_ret
    exact ⟨_, rfl, World.ownsRow_nil _ _ _ _, Below.refl _ _⟩
  · have hn : 0 < n := by omega
    have p1 : (0 : Int) < (n : Int) := by omega
    have p2 : ¬ (n : Int) < 0 := by omega
    obtain ⟨i0, hi, hz0, hz1, hz2⟩ := info_parts infoU8
    have hr := Lib.hid (Lib.run_append_nil_zeros (P := Try.prog) w 23 3 23 5 i0 (.int .u8 0) .i64 .i64 Try.underlying23 Try.underlying3 hi hz0 n hn (by omega) (by omega) (by rw [hz2]; omega))
    have ew : IntKind.i64.wrap (n : Int) = (n : Int) := IntWalk.i64_in _ (by omega)
    clear h0
    go_enter Try.func42, Try.ntmps42
    go_wp2_with (at_builtin; refine Lib.wpList_append_run _ rfl _ _ _ _ rfl _ _ rfl rfl _ _ hr.out ?_)
    go_ret
    refine ⟨_, rfl, ⟨rfl, .inr ⟨w.heap.size, grownCap w n 0 5, _, rfl, Nat.le_refl _, heap_alloc_new w.drew _, Nat.zero_le _, grownCap_le_maxLen _ _ _ _ (by unfold maxLen; omega), ?_, rfl⟩⟩, (show Below w.heap.size w w.drew from below_drewN _ 1).alloc (Nat.le_refl _) _⟩
    have := grownCap_ge w n 0 5
    rw [Array.size_append, zeroCells_size, zeroCells_size]
    simp
    omega

/-- What a list of slices says, slice by slice. -/
def RdL (w : World) (vs : List Value) (Ls : List (List Int)) : Prop :=
  vs.length = Ls.length ∧ ∀ (j : Nat) (L : List Int), Ls[j]? = some L → ∃ (A : Option Addr) (c : Nat), vs[j]? = some (Value.slice A L.length c) ∧ (A = none → L.length = 0 ∧ c = 0) ∧ L.length ≤ c ∧ Rd w A (bys L) ∧ IsB L
theorem RdL.kept {w w' : World} {vs : List Value} {Ls : List (List Int)} (h : RdL w vs Ls) (hb : Below w.heap.size w w') : RdL w' vs Ls :=
  ⟨h.1, fun j L hj => by obtain ⟨A, c, h1, h2, h3, h4, h5⟩ := h.2 j L hj; exact ⟨A, c, h1, h2, h3, h4.kept hb, h5⟩⟩
theorem RdL.nil (w : World) : RdL w [] [] := ⟨rfl, fun j L h => by simp at h⟩
theorem RdL.snoc {w : World} {vs : List Value} {Ls : List (List Int)} (h : RdL w vs Ls) {A : Option Addr} {n c : Nat} {L : List Int} (hn : L.length = n) (hA : A = none → n = 0 ∧ c = 0) (hc : n ≤ c) (hr : Rd w A (bys L)) (hB : IsB L) : RdL w (vs ++ [Value.slice A n c]) (Ls ++ [L]) := by
  subst hn
  refine ⟨by simp [h.1], fun j M hj => ?_⟩
  by_cases hlt : j < Ls.length
  · rw [List.getElem?_append_left hlt] at hj
    obtain ⟨A, c, h1, r⟩ := h.2 j M hj
    exact ⟨A, c, by rw [List.getElem?_append_left (by rw [h.1]; exact hlt)]; exact h1, r⟩
  · rw [List.getElem?_append_right (by omega)] at hj
    have hz : j - Ls.length = 0 := by
      have := (List.getElem?_eq_some_iff.1 hj).1; simp at this; omega
    rw [hz] at hj; simp at hj; subst hj
    exact ⟨A, c, by rw [List.getElem?_append_right (by rw [h.1]; omega), h.1, hz]; rfl, hA, hc, hr, hB⟩

/-- How many bytes lists have together, and the first few of them. -/
def tot (Ls : List (List Int)) : Nat := Ls.flatten.length
def pre (Ls : List (List Int)) (j : Nat) : Nat := (Ls.take j).flatten.length
theorem flat_take {Ls : List (List Int)} {j : Nat} {L : List Int} (h : Ls[j]? = some L) : (Ls.take (j + 1)).flatten = (Ls.take j).flatten ++ L := by
  rw [List.take_add_one, h]; simp
theorem flat_take_le (Ls : List (List Int)) (j : Nat) : pre Ls j ≤ tot Ls := by
  unfold pre tot
  conv => rhs; rw [← List.take_append_drop j Ls, List.flatten_append, List.length_append]
  omega
set_option maxRecDepth 100000 in
set_option maxHeartbeats 2000000 in
theorem concat_any (B : Option Addr) (m d : Nat) (vs : List Value) (Ls : List (List Int)) (w : World) (hm : vs.length = m) (hv : Rd w B vs) (hL : RdL w vs Ls) (hm63 : m ≤ 4611686018427387904) (ht : tot Ls ≤ 140737488355328) :
    Calls Try.prog 27 #[.slice B m d] w fun e w' => ∃ v, e = .returned v ∧ w'.ownsRow w.heap.size 5 1 v (tot Ls) (bys Ls.flatten) ∧ Below w.heap.size w w' := by
  have C1 := Lib.hid (grow_nil (tot Ls) w ht)
  have HM := Lib.hid hm
  have HL := Lib.hid hL.1
  clear hm
  go_enter Try.func27, Try.ntmps27
  go_wp2_with fail
  go_loop [3, 11] (fun s i => ∃ j : Nat, j ≤ m ∧ i = .int .i64 j ∧ s = .int .i64 (pre Ls j : Nat)) (fun s i => m - (intOf i).toNat)
  case atStart => exact ⟨0, by omega, rfl, by simp [pre]⟩
  case round =>
    obtain ⟨j, hj, rfl, rfl⟩ := hrel
    by_cases hlt : j < m
    · have hjv : j < vs.length := by have := HM.out; omega
      have hjl : j < Ls.length := by have := HM.out; have := HL.out; omega
      obtain ⟨b, o, hBB, hc⟩ := hv.at_ (j := j) hjv
      subst hBB
      obtain ⟨A, c, hvj, hA, hcc, hr, hI⟩ := hL.2 j Ls[j] (List.getElem?_eq_getElem hjl)
      rw [List.getElem?_eq_getElem hjv] at hvj
      rw [Option.some.inj hvj] at hc
      have hst := flat_take (List.getElem?_eq_getElem hjl)
      have hst2 : pre Ls (j + 1) = pre Ls j + Ls[j].length := by unfold pre; rw [hst, List.length_append]
      have htl := flat_take_le Ls (j + 1)
      rw [hst2] at htl
      have HS := Lib.hid hst2
      clear hst hst2 hvj hr hI
      generalize Ls[j].length = n2 at *
      generalize pre Ls j = n1 at *
      have ew : IntKind.i64.wrap ((n1 : Int) + (n2 : Int)) = (n1 : Int) + (n2 : Int) := IntWalk.i64_in _ (by omega)
      have e0 : ¬ (n1 : Int) + (n2 : Int) < 0 := by omega
      have b1 : (0 : Int) ≤ (j : Int) ∧ (j : Int) < (m : Int) := by omega
      go_wp2
      go_round
      case rel => exact ⟨j + 1, by omega, by go_num, by rw [HS.out]; rfl⟩
      case measure => simp [intOf]; omega
    · obtain rfl : j = m := by omega
      have hfull : pre Ls j = tot Ls := by unfold pre tot; rw [List.take_of_length_le (by have := HM.out; have := HL.out; omega)]
      rw [hfull]
      clear hfull
      go_wp2_with fail
      refine C1.out.mono ?_
      rintro e w1 ⟨v1, rfl, hown1, hb1⟩
      obtain ⟨A1, c1, rfl, hc1⟩ := own_sh hown1
      have HO1 := Lib.hid hown1
      have HB1 := Lib.hid hb1
      clear hown1 hb1
      go_wp2_with fail
      go_loopw [6, 27] (fun s i wr => ∃ (k : Nat) (A' : Option Addr) (c' : Nat), k ≤ j ∧ i = .int .i64 k ∧ s = .slice A' (pre Ls k) c' ∧ wr.ownsRow w.heap.size 5 1 (.slice A' (pre Ls k) c') (pre Ls k) (bys (Ls.take k).flatten) ∧ Below w.heap.size w wr) (fun s i _ => j - (intOf i).toNat)
      case atStart => exact ⟨0, A1, c1, by omega, rfl, rfl, HO1.out, HB1.out⟩
      case round =>
        obtain ⟨k, A', c', hk, rfl, rfl, hown, hb⟩ := hrel
        by_cases hltk : k < j
        · have hjv : k < vs.length := by have := HM.out; omega
          have hjl : k < Ls.length := by have := HM.out; have := HL.out; omega
          obtain ⟨b, o, hBB, hc⟩ := (hv.kept hb).at_ (j := k) hjv
          subst hBB
          obtain ⟨A, c, hvj, hA, hcc, hr, hI⟩ := (hL.kept hb).2 k Ls[k] (List.getElem?_eq_getElem hjl)
          rw [List.getElem?_eq_getElem hjv] at hvj
          rw [Option.some.inj hvj] at hc
          have hst := flat_take (List.getElem?_eq_getElem hjl)
          have htl := flat_take_le Ls (k + 1)
          have HS := Lib.hid hst
          have HO := Lib.hid hown
          have HR := Lib.hid hr
          have HTL : pre Ls k + Ls[k].length ≤ tot Ls := by unfold pre at htl ⊢; rw [hst, List.length_append] at htl; exact htl
          have b1 : (0 : Int) ≤ (k : Int) ∧ (k : Int) < (j : Int) := by omega
          clear hst htl hvj hr hown
          go_wp2_with (at_builtin; go_must (refine wpList_append_rd rfl _ _ 23 rfl w.heap.size 5 (.int .u8 0) 1 1 Try.underlying23 infoU8 rfl (by decide) _ _ _ rfl HO.out A Ls[k].length c (bys Ls[k]) rfl hA (by rw [bys_length]; omega) HR.out (bys_one _) (by unfold maxLen; omega) (by omega) hb.size ?_))
          intro v8 w8 hown8 hg8
          have hb8 := below_app hb hb.size HO.out hg8
          have HB8 := Lib.hid hb8
          obtain ⟨A8, c8, rfl, hc8⟩ := own_sh hown8
          have HO8 : Hid (w8.ownsRow w.heap.size 5 1 (.slice A8 (pre Ls (k + 1)) c8) (pre Ls (k + 1)) (bys (Ls.take (k + 1)).flatten)) := by
            rw [show pre Ls (k + 1) = pre Ls k + Ls[k].length by unfold pre; rw [HS.out, List.length_append], HS.out, bys_append]; exact hown8
          have HLn : pre Ls (k + 1) = pre Ls k + Ls[k].length := by unfold pre; rw [HS.out, List.length_append]
          have HLN := Lib.hid HLn
          clear hown8 hg8 hb8 HLn
          go_wp2
          go_roundw
          case rel => exact ⟨k + 1, A8, c8, by omega, by go_num, by rw [HLN.out], HO8.out, HB8.out⟩
          case measure => simp [intOf]; omega
        · obtain rfl : k = j := by omega
          have hfull : (Ls.take k).flatten = Ls.flatten := by rw [List.take_of_length_le (by have := HM.out; have := HL.out; omega)]
          have hful2 : pre Ls k = tot Ls := by unfold pre tot; rw [hfull]
          rw [hfull, hful2] at hown
          rw [hful2]
          have HO := Lib.hid hown
          clear hown hfull hful2
          go_wp2
          go_ret
          exact ⟨_, rfl, HO.out, hb⟩
end Go.Proofs.Ytdgciajdnmgcnaa
