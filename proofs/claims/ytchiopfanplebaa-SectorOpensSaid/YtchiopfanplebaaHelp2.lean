/- Contracts: dunnagehelp.Sector; whatever two sectors are handed in. -/
import Derived.Test.YtchiopfanplebaaOpen
import Derived.Test.YtchiopfanplebaaHelp
namespace Go.Proofs.Ytchiopfanplebaa
open Go.RowKit

set_option maxHeartbeats 2000000 in
theorem sector_eq (k t : Int) (A : Option Addr) (n c : Nat) (l : List Int) (k' t' : Int) (B : Option Addr) (m d : Nat) (l' : List Int) (w : World) (hn : l.length = n) (hm : l'.length = m) (h : Rd w A (bys l)) (h' : Rd w B (bys l')) (hI : IsB l) (hI' : IsB l') :
    Calls Try.prog 18 #[.agg #[.int .u8 k, .int .u64 t, .slice A n c], .agg #[.int .u8 k', .int .u64 t', .slice B m d]] w fun e w' => e = .returned (.bool (decide (k = k' ∧ t = t' ∧ l = l'))) ∧ Below w.heap.size w w' := by
  have C1 := Lib.hid (fun (w1 : World) (hb : Below w.heap.size w w1) => bytes_any A n c l B m d l' w1 hn hm (h.kept hb) (h'.kept hb) hI hI')
  have hb0 := Lib.hid (fun (o o' : Obj) => ((Below.refl w.heap.size w).alloc (Nat.le_refl _) o).alloc (by simp) o')
  clear h h' hn hm
  by_cases e1 : k = k'
  · by_cases e2 : t = t'
    · have q1 : (k == k') = true := by simpa using e1
      have q2 : (t == t') = true := by simpa using e2
      have hfin : decide (k = k' ∧ t = t' ∧ l = l') = decide (l = l') := by simp [e1, e2]
      have HF := Lib.hid hfin
      clear e1 e2 hfin
      go_enter Try.func18, Try.ntmps18
      go_wp2_with fail
      refine (C1.out _ (hb0.out _ _)).mono ?_
      rintro e w1 ⟨rfl, rfl⟩
      go_wp2
      go_ret
      exact ⟨by rw [HF.out]; rfl, hb0.out _ _⟩
    · have q1 : (k == k') = true := by simpa using e1
      have q2 : (t == t') = false := by simpa using e2
      have hfin : decide (k = k' ∧ t = t' ∧ l = l') = false := by simp [e2]
      have HF := Lib.hid hfin
      clear e1 e2 hfin
      go_enter Try.func18, Try.ntmps18
      go_wp2
      go_ret
      exact ⟨by rw [HF.out]; rfl, hb0.out _ _⟩
  · have q1 : (k == k') = false := by simpa using e1
    have hfin : decide (k = k' ∧ t = t' ∧ l = l') = false := by simp [e1]
    have HF := Lib.hid hfin
    clear e1 hfin
    go_enter Try.func18, Try.ntmps18
    go_wp2
    go_ret
    exact ⟨by rw [HF.out]; rfl, hb0.out _ _⟩
end Go.Proofs.Ytchiopfanplebaa
