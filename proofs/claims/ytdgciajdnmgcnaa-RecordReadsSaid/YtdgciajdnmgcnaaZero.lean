/- Contracts: word.Zero and what it goes through; whatever bytes are handed in. -/
import Derived.Test.YtdgciajdnmgcnaaCrcPure
import Derived.Test.YtdgciajdnmgcnaaWord
import Derived.StillTailTactics
import Derived.Laws.EntriesVeiled
namespace Go.Proofs.Ytdgciajdnmgcnaa
open Go.RowKit

theorem zero1_any (x : Int) (w : World) : Calls Try.prog 57 #[.int .u8 x] w fun e w' => e = .returned (.bool (x == 0)) ∧ w = w' := by
  go_enter Try.func57, Try.ntmps57
  go_wp2
  go_ret
  exact ⟨rfl, rfl⟩

set_option maxHeartbeats 1000000 in
theorem over_zero (A : Option Addr) (n c : Nat) (l : List Int) (w : World) (hn : l.length = n) (h : Rd w A (bys l)) (hl : n ≤ 4611686018427387904) :
    Calls Try.prog 58 #[.agg #[.func (.func 57) #[] #[]], .slice A n c, .int .i64 0] w fun e w' => ∃ k : Int, e = .returned (.tuple #[.int .i64 k, .bool (l.all (· == 0))]) ∧ Below w.heap.size w w' := by
  subst hn
  go_enter Try.func58, Try.ntmps58
  go_wp2_with fail
  go_loopw [2] (fun i wr => ∃ j : Nat, j ≤ l.length ∧ i = .int .i64 j ∧ (∀ x ∈ l.take j, x = 0) ∧ wr.cell? ⟨w.heap.size, 0, none⟩ = some (.func (.func 57) #[] #[]) ∧ Below w.heap.size w wr) (fun i _ => l.length - (intOf i).toNat)
  case atStart => exact ⟨0, by omega, rfl, by simp, by simp, (Below.refl _ _).alloc (Nat.le_refl _) _⟩
  case round =>
    obtain ⟨j, hj, rfl, hz, hcl, hb⟩ := hrel
    by_cases hlt : j < l.length
    · obtain ⟨b, o, hA, hc⟩ := (h.kept hb).at_ (j := j) (by rw [bys_length]; exact hlt)
      subst hA
      simp only [bys, List.getElem_map] at hc
      obtain ⟨x, hx⟩ : ∃ x, x = l[j] := ⟨_, rfl⟩
      rw [← hx] at hc
      have HX := Lib.hid hx
      have HZ := Lib.hid hz
      clear hx hz
      have hw1 : IntKind.i64.wrap ((j : Int) + 1 - 1) = (j : Int) := by rw [show (j : Int) + 1 - 1 = j by omega]; exact IntWalk.i64_in _ (by omega)
      have b1 : (0 : Int) ≤ (j : Int) ∧ (j : Int) < (l.length : Int) := by omega
      by_cases h0 : x = 0
      · have e0 : (x == 0) = true := by simpa using h0
        clear h0
        go_wp2_with fail
        go_quiet ((go_at_call 57; exact qsame (zero1_any _ _)))
        go_wp2
        go_roundw
        case rel => exact ⟨j + 1, by omega, by go_num, by rw [List.take_succ_eq_append_getElem hlt]; intro y hy; rcases List.mem_append.1 hy with hy | hy; · exact HZ.out y hy
                                                          · simp at hy; rw [hy, ← HX.out]; simpa using e0, hcl, hb.trans (below_drewN _ _)⟩
        case measure => simp [intOf]; omega
      · have e0 : (x == 0) = false := by simpa using h0
        clear h0
        have hfin : l.all (· == 0) = false := by
          rw [List.all_eq_false]; exact ⟨x, by rw [HX.out]; exact List.getElem_mem hlt, by rw [e0]; simp⟩
        have HF := Lib.hid hfin
        clear hfin
        go_wp2_with fail
        go_quiet ((go_at_call 57; exact qsame (zero1_any _ _)))
        go_wp2
        go_ret2
        exact ⟨_, by rw [HF.out]; rfl, hb.trans (below_drewN _ _)⟩
    · obtain rfl : j = l.length := by omega
      have hfin : l.all (· == 0) = true := by
        rw [List.all_eq_true]; intro x hx; rw [List.take_length] at hz; simpa using hz x hx
      have HF := Lib.hid hfin
      clear hfin hz
      go_wp2
      go_ret2
      exact ⟨_, by rw [HF.out]; rfl, hb⟩

set_option maxHeartbeats 1000000 in
theorem zero_any (A : Option Addr) (n c : Nat) (l : List Int) (w : World) (hn : l.length = n) (h : Rd w A (bys l)) (hl : n ≤ 4611686018427387904) :
    Calls Try.prog 48 #[.slice A n c] w fun e w' => e = .returned (.bool (l.all (· == 0))) ∧ Below w.heap.size w w' := by
  have C1 := Lib.hid (fun (w1 : World) (hb : Below w.heap.size w w1) => over_zero A n c l w1 hn (h.kept hb) hl)
  have hb0 := Lib.hid (fun (o : Obj) => (Below.refl w.heap.size w).alloc (Nat.le_refl _) o)
  clear h hn
  go_enter Try.func48, Try.ntmps48
  go_wp2_with fail
  refine (C1.out _ (hb0.out _)).mono ?_
  rintro e w1 ⟨k, rfl, hb⟩
  go_wp2
  go_ret
  exact ⟨rfl, (hb0.out _).trans (hb.mono (by simp))⟩
end Go.Proofs.Ytdgciajdnmgcnaa
