/- Contracts: slices.Clone at bytes, word.Put; whatever slice is handed in. -/
import Derived.Test.YtdgciajdnmgcnaaProg
import Derived.Test.YtdgciajdnmgcnaaVoc
namespace Go.Proofs.Ytdgciajdnmgcnaa
open Go.RowKit
theorem infoU8 : (Try.prog.info? 5).map (fun i => (i.zero, i.size, i.bytes)) = some (some (.int .u8 0), 1, 1) := by kernel_rfl

set_option maxHeartbeats 400000 in
theorem clone_some (ad : Addr) (c : Nat) (l : List Int) (w : World) (h : Rd w (some ad) (bys l)) (hl : l.length ≤ 140737488355328) :
    Calls Try.prog 50 #[.slice (some ad) l.length c] w fun e w' => ∃ v, e = .returned v ∧ w'.ownsRow w.heap.size 5 1 v l.length (bys l) ∧ Below w.heap.size w w' := by
  have qn : ∀ (w : World) (a : Option Addr) (n c n' c' : Nat), (binOp .eql 23 (.slice a n c) (.slice none n' c')).run Try.prog w = .ok (.bool a.isNone) w := fun w a n c n' c' => Lib.run_eql_slice_nil w _ _ a n c n' c' Try.underlying23
  go_enter Try.func50, Try.ntmps50
  go_wp2_with (at_builtin; go_must (refine wpList_append_rd rfl _ _ 23 rfl w.heap.size 5 (.int .u8 0) 1 1 Try.underlying23 infoU8 rfl (by decide) _ 0 [] rfl (World.ownsRow_made w #[] 0 (Nat.le_refl _) (Nat.zero_le _) rfl) _ l.length c (bys l) rfl (by simp) (by simp [bys]) (h.kept ((Below.refl _ _).alloc (Nat.le_refl _) _)) (bys_one l) (by unfold maxLen; omega) (by omega) (by simp) ?_))
  intro v' w' hown hg
  go_wp2
  go_ret
  exact ⟨v', rfl, by simpa using hown, (((Below.refl _ _).alloc (Nat.le_refl _) _).grown hg (by simp) (by simp [Value.ownBlock]))⟩

/-- The bytes of a number, the lowest first. -/
def le : Nat → Int → List Int
  | 0, _ => []
  | n + 1, v => v % 256 :: le n (v / 256)
theorem le_length (n : Nat) (v : Int) : (le n v).length = n := by
  induction n generalizing v with
  | zero => rfl
  | succ n ih => simp [le, ih]
theorem le_snoc (n : Nat) (v : Int) : le (n + 1) v = le n v ++ [v / 256 ^ n % 256] := by
  induction n generalizing v with
  | zero => simp [le]
  | succ n ih =>
    rw [le, ih (v / 256)]
    simp only [le, List.cons_append, Int.pow_succ]
    rw [Int.ediv_ediv_of_nonneg (by decide), Int.mul_comm]

theorem clone_somen (ad : Addr) (n c : Nat) (l : List Int) (w : World) (hn : l.length = n) (h : Rd w (some ad) (bys l)) (hl : n ≤ 140737488355328) :
    Calls Try.prog 50 #[.slice (some ad) n c] w fun e w' => ∃ v, e = .returned v ∧ w'.ownsRow w.heap.size 5 1 v n (bys l) ∧ Below w.heap.size w w' := by
  subst hn; exact clone_some ad c l w h hl
theorem clone_nil (w : World) : Calls Try.prog 50 #[.slice none 0 0] w fun e w' => e = .returned (.slice none 0 0) ∧ w = w' := by
  have qn : ∀ (w : World) (a : Option Addr) (n c n' c' : Nat), (binOp .eql 23 (.slice a n c) (.slice none n' c')).run Try.prog w = .ok (.bool a.isNone) w := fun w a n c n' c' => Lib.run_eql_slice_nil w _ _ a n c n' c' Try.underlying23
  go_enter Try.func50, Try.ntmps50
  go_wp2
  go_ret
  exact ⟨rfl, rfl⟩

theorem div_pow (v : Int) (k : Nat) : v / 256 ^ (k + 1) = v / 256 ^ k / 256 := by
  rw [Int.pow_succ, Int.ediv_ediv_of_nonneg (Int.pow_nonneg (by decide))]
set_option maxHeartbeats 1000000 in
theorem put_nil (v : Int) (n : Nat) (w : World) (h0 : 1 ≤ n) (h8 : n ≤ 8) (hv0 : 0 ≤ v) (hv1 : v < 256 ^ n) :
    Calls Try.prog 54 #[.slice none 0 0, .int .u64 v, .int .i64 n] w fun e w' => ∃ s, e = .returned (.tuple #[s, .int .i64 0]) ∧ w'.ownsRow w.heap.size 5 1 s n (bys (le n v)) ∧ Below w.heap.size w w' := by
  have hfit : (v / 2 ^ (8 * n) != 0) = false := by
    have : (2 : Int) ^ (8 * n) = 256 ^ n := by rw [Int.pow_mul]; rfl
    rw [this, Int.ediv_eq_zero_of_lt hv0 hv1]; rfl
  by_cases hn : n < 8
  all_goals
    go_enter Try.func54, Try.ntmps54
    go_wp2_with (go_at_call 50; refine (clone_nil _).mono ?_; rintro e w' ⟨rfl, rfl⟩)
    go_loopw [1, 8, 27] (fun vv out i wr => ∃ k : Nat, k ≤ n ∧ i = .int .i64 k ∧ vv = .int .u64 (v / 256 ^ k) ∧ wr.ownsRow w.heap.size 5 1 out k (bys (le k v)) ∧ Below w.heap.size w wr) (fun _ _ i _ => n - (intOf i).toNat)
    case atStart => exact ⟨0, Nat.zero_le _, rfl, by simp, World.ownsRow_nil _ _ _ _, Below.refl _ _⟩
    case round =>
      obtain ⟨k, hk, rfl, rfl, hown, hb⟩ := hrel
      have hsz := hb.size
      go_wp2_with (at_builtin; go_must (refine wpList_append_rd rfl _ _ 23 rfl w.heap.size 5 (.int .u8 0) 1 1 Try.underlying23 infoU8 rfl (by decide) _ k (bys (le k v)) rfl (hown.alloc _) _ 1 1 [.int .u8 (v / 256 ^ k % 256)] rfl (by simp) (by simp) (rd_new1 _ _ _) (by simp [Value.oneCell']) (by unfold maxLen; omega) (by omega) (by simp; omega) ?_))
      · intro v' w' hown' hg
        have hlt : k < n := by assumption
        have hb' := below_push hb hsz hown hg
        clear hg hown hb
        go_wp2
        go_roundw
        case rel => exact ⟨k + 1, by omega, by go_num, by rw [div_pow], by rw [le_snoc, bys_append]; exact hown', hb'⟩
        case measure => simp [intOf]; omega
      · have : k = n := by omega
        subst this
        go_ret2
        exact ⟨_, rfl, hown, hb⟩
end Go.Proofs.Ytdgciajdnmgcnaa
