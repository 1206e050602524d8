/- law.awake of the package space answers true. -/
import Derived.Test.YtilmlblejopbmaaSpAdd2
namespace Go.Proofs.Ytilmlblejopbmaa
open Go.RowKit
set_option linter.unusedVariables false
def ext0 : Ext := (1, 0, 2)
set_option maxRecDepth 100000 in
set_option maxHeartbeats 2000000 in
theorem awake22 (w : World) : Calls Try.prog 11 #[] w fun e w' => e = .returned (.bool true) ∧ Below w.heap.size w w' := by
  have C1 : Hid (Calls Try.prog 22 #[.int .i64 10, .slice none 0 0, .agg #[.int .u64 1, .int .i64 0, .int .i64 2]] w fun e' w' => ∃ v, e' = .returned (.tuple #[v, .int .i64 0]) ∧ w'.ownsRow w.heap.size 28 3 v 1 (([ext0].map rowExt).flatten) ∧ Below w.heap.size w w') :=
    Lib.hid (add_ok 10 none 0 0 [] ext0 w rfl (fun _ => ⟨rfl, rfl⟩) (Rd.nil _ _) (by omega) (by simp) (by decide) (by decide) rfl)
  have C2 := Lib.hid (fun (A : Option Addr) (c : Nat) (w1 : World) (h : Rd w1 A (([ext0].map rowExt).flatten)) => show Calls Try.prog 15 #[.slice A 1 c] w1 fun e w' => e = .returned (.int .i64 2) ∧ Below w1.heap.size w1 w' by have := tail_any A 1 c [ext0] w1 rfl h (by omega); rwa [show tailE [ext0] = 2 by decide +kernel] at this)
  have C3 := Lib.hid (fun (A : Option Addr) (c : Nat) (w1 : World) (h : Rd w1 A (([ext0].map rowExt).flatten)) => show Calls Try.prog 13 #[.int .i64 10, .slice A 1 c] w1 fun e w' => e = .returned (.int .i64 0) ∧ Below w1.heap.size w1 w' by have := check_any 10 A 1 c [ext0] w1 rfl h (by omega) (by decide); rwa [show errE (checkE 10 [ext0]) = 0 by decide] at this)
  go_enter Try.func11, Try.ntmps11
  go_wp2_with fail
  refine C1.out.mono ?_
  rintro e w1 ⟨v1, rfl, ho1, hb1⟩
  obtain ⟨A1, c1, rfl, _, _, hr1, _⟩ := own_rd ho1
  have HR1 := Lib.hid hr1
  have HB1 := Lib.hid hb1
  clear ho1 hr1 hb1
  go_wp2_with fail
  refine (C2.out _ _ _ HR1.out).mono ?_
  rintro e w2 ⟨rfl, hb2⟩
  have HR2 := Lib.hid (HR1.out.kept hb2)
  have HB2 := Lib.hid (HB1.out.trans (hb2.mono HB1.out.size))
  clear hb2
  go_wp2_with fail
  refine (C3.out _ _ _ HR2.out).mono ?_
  rintro e w3 ⟨rfl, hb3⟩
  have HB3 := Lib.hid (HB2.out.trans (hb3.mono HB2.out.size))
  clear hb3
  go_wp2
  go_ret
  exact ⟨rfl, HB3.out⟩
end Go.Proofs.Ytilmlblejopbmaa
