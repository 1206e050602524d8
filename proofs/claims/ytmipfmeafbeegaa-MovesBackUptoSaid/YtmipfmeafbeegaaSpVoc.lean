/- Contracts of the package space: the rank by places, Sort. -/
import Derived.Test.YtmipfmeafbeegaaQExtSorted
namespace Go.Proofs.Ytmipfmeafbeegaa
open Go.RowKit
set_option linter.unusedVariables false

def lessE (x y : Ext) : Bool := decide (x.2.1 < y.2.1)
theorem swoE : Swo lessE := by
  refine ⟨?_, ?_⟩
  · intro x y h; simp [lessE] at *; omega
  · intro x y z h1 h2; simp [lessE] at *; omega
theorem less_any (x y : Ext) (w : World) :
    Calls Try.prog 41 #[.agg #[.int .u64 x.1, .int .i64 x.2.1, .int .i64 x.2.2], .agg #[.int .u64 y.1, .int .i64 y.2.1, .int .i64 y.2.2]] w fun e w' => e = .returned (.bool (lessE x y)) ∧ Below w.heap.size w w' := by
  go_enter Try.func41, Try.ntmps41
  go_wp2
  go_ret
  exact ⟨rfl, below2 _ _ _⟩
theorem ranksE : RanksExt lessE 41 :=
  ⟨enters_of Try.func41 (by kernel_rfl) rfl, fun x y w1 => less_any x y w1⟩
theorem sort_any (A : Option Addr) (n c : Nat) (xs : List Ext) (w : World) (hn : xs.length = n) (h : Rd w A ((xs.map rowExt).flatten)) (hcap : n ≤ 3000000000) :
    Calls Try.prog 21 #[.slice A n c] w (SortedAtExt w.heap.size n (sortV lessE xs) w) := by
  have C := Lib.hid (qExt_sorted lessE swoE _ ranksE A n c xs w hn h hcap)
  clear h hn
  go_enter Try.func21, Try.ntmps21
  go_wp2_with fail
  refine C.out.mono ?_
  rintro e w1 ⟨v, rfl, ho, hb⟩
  have HO := Lib.hid ho
  have HB := Lib.hid hb
  clear ho hb
  obtain ⟨A', c', rfl, _⟩ := own_sh HO.out
  go_wp2
  go_ret
  exact ⟨_, rfl, HO.out, HB.out⟩
end Go.Proofs.Ytmipfmeafbeegaa
