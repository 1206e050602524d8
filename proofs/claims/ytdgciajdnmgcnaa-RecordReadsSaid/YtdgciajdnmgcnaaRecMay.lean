/- Contracts: record.may; and what any bytes are as a part of a record, over numbers and lists alone. -/
import Derived.Test.YtdgciajdnmgcnaaRecCom
import Derived.Test.YtdgciajdnmgcnaaRefOpen2
namespace Go.Proofs.Ytdgciajdnmgcnaa
open Go.RowKit
set_option linter.unusedVariables false

/-- May a part be? -/
def mayB (t a b : Int) (n : Nat) : Bool := !(t == 0) && !(decide (9 < b)) && !(decide (b ≤ a)) && (if a < b - 1 then n == 480 else decide (n ≤ 480) && (decide (0 < n) || b == 1))
/-- A part, and the error. -/
structure Frm where
  age : Int
  first : Int
  of : Int
  data : List Int
  err : Int
/-- What a sector is as a part. -/
def frmS (s : Sec) : Frm :=
  if s.err ≠ 0 then ⟨0, 0, 0, [], s.err⟩
  else if s.kind = 113 ∧ 2 ≤ s.pay.length ∧ mayB s.turn (bat s.pay 0) (bat s.pay 1) (s.pay.drop 2).length = true then ⟨s.turn, bat s.pay 0, bat s.pay 1, s.pay.drop 2, 0⟩
  else ⟨0, 0, 0, [], 11⟩
def frm (l : List Int) : Frm := frmS (sec l)
theorem frm_err {s : Sec} (h : s.err ≠ 0) : frmS s = ⟨0, 0, 0, [], s.err⟩ := by unfold frmS; rw [if_pos h]
theorem frm_bad {s : Sec} (h : s.err = 0) (h2 : s.kind ≠ 113 ∨ s.pay.length < 2 ∨ mayB s.turn (bat s.pay 0) (bat s.pay 1) (s.pay.drop 2).length = false) : frmS s = ⟨0, 0, 0, [], 11⟩ := by
  unfold frmS
  rw [if_neg (by simp [h]), if_neg]
  rintro ⟨h3, h4, h5⟩
  rcases h2 with h2 | h2 | h2
  · exact h2 h3
  · omega
  · rw [h2] at h5; cases h5
theorem frm_good {s : Sec} (h : s.err = 0) (h1 : s.kind = 113) (h2 : 2 ≤ s.pay.length) (h3 : mayB s.turn (bat s.pay 0) (bat s.pay 1) (s.pay.drop 2).length = true) : frmS s = ⟨s.turn, bat s.pay 0, bat s.pay 1, s.pay.drop 2, 0⟩ := by
  unfold frmS
  rw [if_neg (by simp [h]), if_pos ⟨h1, h2, h3⟩]

/-- Where a slice lies behind its first elements. -/
theorem run_cutL {P : Program} {t e : TypeId} (ht : P.underlying t = some (.slice e)) (hsz : (P.info? e).map (·.size) = some 1) (A : Option Addr) (n c : Nat) (h1 : 2 ≤ n) (h2 : n ≤ c) :
    ∀ W : World, (Instr.slice t (.slice A n c) (some (.int .i64 2)) none none).run P W = .ok (.slice (cutB A 2 c) (n - 2) (c - 2)) W := by
  intro W
  have hel : P.elem t = e := by simp [Program.elem, ht]
  have hu : P.underlying t = some (.slice (P.elem t)) := by rw [hel]; exact ht
  cases hi' : P.info? e with
  | none => rw [hi'] at hsz; simp at hsz
  | some i =>
    rw [hi'] at hsz
    simp at hsz
    rw [run_slice_l W t A n c hu .i64 (2 : Int) (by omega) (by omega), hel]
    simp [sizeOf, typeInfo, hi', hsz, sliced, Result.andThen, cutB]

set_option maxHeartbeats 1000000 in
theorem may_1 (t a b : Int) (A : Option Addr) (n c : Nat) (w : World) (ha : 0 ≤ a ∧ a < 256) (hb : 0 ≤ b ∧ b < 256) (h1 : t = 0) :
    Calls Try.prog 32 #[.agg #[.int .u64 t, .int .u64 a, .int .i64 b, .slice A n c]] w fun e w' => e = .returned (.bool (mayB t a b n)) ∧ Below w.heap.size w w' := by
  have hm : mayB t a b n = false := by simp [mayB, *]; try omega
  have HM := Lib.hid hm
  have ew : IntKind.i64.wrap a = a := IntWalk.i64_in _ (by omega)
  have eb : IntKind.i64.wrap (b - 1) = b - 1 := IntWalk.i64_in _ (by omega)
  have f1 : (t == 0) = true := by simpa using h1
  clear hm
  go_enter Try.func32, Try.ntmps32
  go_wp2_with fail
  go_quiet (fail)
  go_wp2
  go_ret
  exact ⟨by rw [HM.out]; rfl, ((Below.refl _ _).alloc (Nat.le_refl _) _).trans (below_drewN _ _)⟩
set_option maxHeartbeats 1000000 in
theorem may_2 (t a b : Int) (A : Option Addr) (n c : Nat) (w : World) (ha : 0 ≤ a ∧ a < 256) (hb : 0 ≤ b ∧ b < 256) (h1 : t ≠ 0) (h2 : 9 < b) :
    Calls Try.prog 32 #[.agg #[.int .u64 t, .int .u64 a, .int .i64 b, .slice A n c]] w fun e w' => e = .returned (.bool (mayB t a b n)) ∧ Below w.heap.size w w' := by
  have hm : mayB t a b n = false := by simp [mayB, *]; try omega
  have HM := Lib.hid hm
  have ew : IntKind.i64.wrap a = a := IntWalk.i64_in _ (by omega)
  have eb : IntKind.i64.wrap (b - 1) = b - 1 := IntWalk.i64_in _ (by omega)
  have f1 : (t == 0) = false := by simpa using h1
  clear hm
  go_enter Try.func32, Try.ntmps32
  go_wp2_with fail
  go_quiet (fail)
  go_wp2
  go_ret
  exact ⟨by rw [HM.out]; rfl, ((Below.refl _ _).alloc (Nat.le_refl _) _).trans (below_drewN _ _)⟩
set_option maxHeartbeats 1000000 in
theorem may_3 (t a b : Int) (A : Option Addr) (n c : Nat) (w : World) (ha : 0 ≤ a ∧ a < 256) (hb : 0 ≤ b ∧ b < 256) (h1 : t ≠ 0) (h2 : ¬ 9 < b) (h3 : b ≤ a) :
    Calls Try.prog 32 #[.agg #[.int .u64 t, .int .u64 a, .int .i64 b, .slice A n c]] w fun e w' => e = .returned (.bool (mayB t a b n)) ∧ Below w.heap.size w w' := by
  have hm : mayB t a b n = false := by simp [mayB, *]; try omega
  have HM := Lib.hid hm
  have ew : IntKind.i64.wrap a = a := IntWalk.i64_in _ (by omega)
  have eb : IntKind.i64.wrap (b - 1) = b - 1 := IntWalk.i64_in _ (by omega)
  have f1 : (t == 0) = false := by simpa using h1
  clear hm
  go_enter Try.func32, Try.ntmps32
  go_wp2_with fail
  go_quiet (fail)
  go_wp2
  go_ret
  exact ⟨by rw [HM.out]; rfl, ((Below.refl _ _).alloc (Nat.le_refl _) _).trans (below_drewN _ _)⟩
set_option maxHeartbeats 1000000 in
theorem may_4 (t a b : Int) (A : Option Addr) (n c : Nat) (w : World) (ha : 0 ≤ a ∧ a < 256) (hb : 0 ≤ b ∧ b < 256) (h1 : t ≠ 0) (h2 : ¬ 9 < b) (h3 : ¬ b ≤ a) (h4 : a < b - 1) (h5 : n = 480) :
    Calls Try.prog 32 #[.agg #[.int .u64 t, .int .u64 a, .int .i64 b, .slice A n c]] w fun e w' => e = .returned (.bool (mayB t a b n)) ∧ Below w.heap.size w w' := by
  have hm : mayB t a b n = true := by simp [mayB, *]; try omega
  have HM := Lib.hid hm
  have ew : IntKind.i64.wrap a = a := IntWalk.i64_in _ (by omega)
  have eb : IntKind.i64.wrap (b - 1) = b - 1 := IntWalk.i64_in _ (by omega)
  have f1 : (t == 0) = false := by simpa using h1
  have f5 : ((n : Int) == 480) = true := by simp; omega
  clear hm
  go_enter Try.func32, Try.ntmps32
  go_wp2_with fail
  go_quiet (fail)
  go_wp2
  go_ret
  exact ⟨by rw [HM.out]; rfl, ((Below.refl _ _).alloc (Nat.le_refl _) _).trans (below_drewN _ _)⟩
set_option maxHeartbeats 1000000 in
theorem may_5 (t a b : Int) (A : Option Addr) (n c : Nat) (w : World) (ha : 0 ≤ a ∧ a < 256) (hb : 0 ≤ b ∧ b < 256) (h1 : t ≠ 0) (h2 : ¬ 9 < b) (h3 : ¬ b ≤ a) (h4 : a < b - 1) (h5 : n ≠ 480) :
    Calls Try.prog 32 #[.agg #[.int .u64 t, .int .u64 a, .int .i64 b, .slice A n c]] w fun e w' => e = .returned (.bool (mayB t a b n)) ∧ Below w.heap.size w w' := by
  have hm : mayB t a b n = false := by simp [mayB, *]; try omega
  have HM := Lib.hid hm
  have ew : IntKind.i64.wrap a = a := IntWalk.i64_in _ (by omega)
  have eb : IntKind.i64.wrap (b - 1) = b - 1 := IntWalk.i64_in _ (by omega)
  have f1 : (t == 0) = false := by simpa using h1
  have f5 : ((n : Int) == 480) = false := by simp; omega
  clear hm
  go_enter Try.func32, Try.ntmps32
  go_wp2_with fail
  go_quiet (fail)
  go_wp2
  go_ret
  exact ⟨by rw [HM.out]; rfl, ((Below.refl _ _).alloc (Nat.le_refl _) _).trans (below_drewN _ _)⟩
set_option maxHeartbeats 1000000 in
theorem may_6 (t a b : Int) (A : Option Addr) (n c : Nat) (w : World) (ha : 0 ≤ a ∧ a < 256) (hb : 0 ≤ b ∧ b < 256) (h1 : t ≠ 0) (h2 : ¬ 9 < b) (h3 : ¬ b ≤ a) (h4 : ¬ a < b - 1) (h5 : ¬ n ≤ 480) :
    Calls Try.prog 32 #[.agg #[.int .u64 t, .int .u64 a, .int .i64 b, .slice A n c]] w fun e w' => e = .returned (.bool (mayB t a b n)) ∧ Below w.heap.size w w' := by
  have hm : mayB t a b n = false := by simp [mayB, *]; try omega
  have HM := Lib.hid hm
  have ew : IntKind.i64.wrap a = a := IntWalk.i64_in _ (by omega)
  have eb : IntKind.i64.wrap (b - 1) = b - 1 := IntWalk.i64_in _ (by omega)
  have f1 : (t == 0) = false := by simpa using h1
  have f5 : ¬ (n : Int) ≤ 480 := by omega
  clear hm
  go_enter Try.func32, Try.ntmps32
  go_wp2_with fail
  go_quiet (fail)
  go_wp2
  go_ret
  exact ⟨by rw [HM.out]; rfl, ((Below.refl _ _).alloc (Nat.le_refl _) _).trans (below_drewN _ _)⟩
set_option maxHeartbeats 1000000 in
theorem may_7 (t a b : Int) (A : Option Addr) (n c : Nat) (w : World) (ha : 0 ≤ a ∧ a < 256) (hb : 0 ≤ b ∧ b < 256) (h1 : t ≠ 0) (h2 : ¬ 9 < b) (h3 : ¬ b ≤ a) (h4 : ¬ a < b - 1) (h5 : n ≤ 480) (h6 : 0 < n) :
    Calls Try.prog 32 #[.agg #[.int .u64 t, .int .u64 a, .int .i64 b, .slice A n c]] w fun e w' => e = .returned (.bool (mayB t a b n)) ∧ Below w.heap.size w w' := by
  have hm : mayB t a b n = true := by simp [mayB, *]; try omega
  have HM := Lib.hid hm
  have ew : IntKind.i64.wrap a = a := IntWalk.i64_in _ (by omega)
  have eb : IntKind.i64.wrap (b - 1) = b - 1 := IntWalk.i64_in _ (by omega)
  have f1 : (t == 0) = false := by simpa using h1
  have f5 : (n : Int) ≤ 480 := by omega
  have f6 : (0 : Int) < (n : Int) := by omega
  clear hm
  go_enter Try.func32, Try.ntmps32
  go_wp2_with fail
  go_quiet (fail)
  go_wp2
  go_ret
  exact ⟨by rw [HM.out]; rfl, ((Below.refl _ _).alloc (Nat.le_refl _) _).trans (below_drewN _ _)⟩
set_option maxHeartbeats 1000000 in
theorem may_8 (t a b : Int) (A : Option Addr) (n c : Nat) (w : World) (ha : 0 ≤ a ∧ a < 256) (hb : 0 ≤ b ∧ b < 256) (h1 : t ≠ 0) (h2 : ¬ 9 < b) (h3 : ¬ b ≤ a) (h4 : ¬ a < b - 1) (h5 : n ≤ 480) (h6 : ¬ 0 < n) (h7 : b = 1) :
    Calls Try.prog 32 #[.agg #[.int .u64 t, .int .u64 a, .int .i64 b, .slice A n c]] w fun e w' => e = .returned (.bool (mayB t a b n)) ∧ Below w.heap.size w w' := by
  have hm : mayB t a b n = true := by simp [mayB, *]; try omega
  have HM := Lib.hid hm
  have ew : IntKind.i64.wrap a = a := IntWalk.i64_in _ (by omega)
  have eb : IntKind.i64.wrap (b - 1) = b - 1 := IntWalk.i64_in _ (by omega)
  have f1 : (t == 0) = false := by simpa using h1
  have f5 : (n : Int) ≤ 480 := by omega
  have f6 : ¬ (0 : Int) < (n : Int) := by omega
  have f7 : (b == 1) = true := by simpa using h7
  clear hm
  go_enter Try.func32, Try.ntmps32
  go_wp2_with fail
  go_quiet (fail)
  go_wp2
  go_ret
  exact ⟨by rw [HM.out]; rfl, ((Below.refl _ _).alloc (Nat.le_refl _) _).trans (below_drewN _ _)⟩
set_option maxHeartbeats 1000000 in
theorem may_9 (t a b : Int) (A : Option Addr) (n c : Nat) (w : World) (ha : 0 ≤ a ∧ a < 256) (hb : 0 ≤ b ∧ b < 256) (h1 : t ≠ 0) (h2 : ¬ 9 < b) (h3 : ¬ b ≤ a) (h4 : ¬ a < b - 1) (h5 : n ≤ 480) (h6 : ¬ 0 < n) (h7 : b ≠ 1) :
    Calls Try.prog 32 #[.agg #[.int .u64 t, .int .u64 a, .int .i64 b, .slice A n c]] w fun e w' => e = .returned (.bool (mayB t a b n)) ∧ Below w.heap.size w w' := by
  have hm : mayB t a b n = false := by simp [mayB, *]; try omega
  have HM := Lib.hid hm
  have ew : IntKind.i64.wrap a = a := IntWalk.i64_in _ (by omega)
  have eb : IntKind.i64.wrap (b - 1) = b - 1 := IntWalk.i64_in _ (by omega)
  have f1 : (t == 0) = false := by simpa using h1
  have f5 : (n : Int) ≤ 480 := by omega
  have f6 : ¬ (0 : Int) < (n : Int) := by omega
  have f7 : (b == 1) = false := by simpa using h7
  clear hm
  go_enter Try.func32, Try.ntmps32
  go_wp2_with fail
  go_quiet (fail)
  go_wp2
  go_ret
  exact ⟨by rw [HM.out]; rfl, ((Below.refl _ _).alloc (Nat.le_refl _) _).trans (below_drewN _ _)⟩
theorem may_any (t a b : Int) (A : Option Addr) (n c : Nat) (w : World) (ha : 0 ≤ a ∧ a < 256) (hb : 0 ≤ b ∧ b < 256) :
    Calls Try.prog 32 #[.agg #[.int .u64 t, .int .u64 a, .int .i64 b, .slice A n c]] w fun e w' => e = .returned (.bool (mayB t a b n)) ∧ Below w.heap.size w w' := by
  by_cases h1 : t = 0
  · exact may_1 t a b A n c w ha hb h1
  by_cases h2 : 9 < b
  · exact may_2 t a b A n c w ha hb h1 h2
  by_cases h3 : b ≤ a
  · exact may_3 t a b A n c w ha hb h1 h2 h3
  by_cases h4 : a < b - 1
  · by_cases h5 : n = 480
    · exact may_4 t a b A n c w ha hb h1 h2 h3 h4 h5
    · exact may_5 t a b A n c w ha hb h1 h2 h3 h4 h5
  by_cases h5 : n ≤ 480
  · by_cases h6 : 0 < n
    · exact may_7 t a b A n c w ha hb h1 h2 h3 h4 h5 h6
    · by_cases h7 : b = 1
      · exact may_8 t a b A n c w ha hb h1 h2 h3 h4 h5 h6 h7
      · exact may_9 t a b A n c w ha hb h1 h2 h3 h4 h5 h6 h7
  · exact may_6 t a b A n c w ha hb h1 h2 h3 h4 h5
end Go.Proofs.Ytdgciajdnmgcnaa
