/- Contracts: dunnagehelp.Frame; whatever is handed in. -/
import Derived.Test.YtdgciajdnmgcnaaRecPart
namespace Go.Proofs.Ytdgciajdnmgcnaa
open Go.RowKit
set_option linter.unusedVariables false

set_option maxHeartbeats 2000000 in
theorem frame_same (a f o : Int) (A : Option Addr) (n c : Nat) (B : Option Addr) (d : Nat) (l : List Int) (w : World) (hn : l.length = n) (h : Rd w A (bys l)) (h' : Rd w B (bys l)) (hI : IsB l) :
    Calls Try.prog 20 #[.agg #[.int .u64 a, .int .u64 f, .int .i64 o, .slice A n c], .agg #[.int .u64 a, .int .u64 f, .int .i64 o, .slice B n d]] w fun e w' => e = .returned (.bool true) ∧ Below w.heap.size w w' := by
  have C1 := Lib.hid (fun (w1 : World) (hb : Below w.heap.size w w1) => bytes_any A n c l B n d l w1 hn hn (h.kept hb) (h'.kept hb) hI hI)
  have hb0 := Lib.hid (fun (x y : Obj) => ((Below.refl w.heap.size w).alloc (Nat.le_refl _) x).alloc (by simp) y)
  have e1 : (a == a) = true := by simp
  have e2 : (f == f) = true := by simp
  have e3 : (o == o) = true := by simp
  clear h h' hn
  go_enter Try.func20, Try.ntmps20
  go_wp2_with fail
  refine (C1.out _ (hb0.out _ _)).mono ?_
  rintro e w1 ⟨rfl, rfl⟩
  rw [show decide True = true from rfl]
  go_wp2
  go_ret
  exact ⟨rfl, hb0.out _ _⟩
end Go.Proofs.Ytdgciajdnmgcnaa
