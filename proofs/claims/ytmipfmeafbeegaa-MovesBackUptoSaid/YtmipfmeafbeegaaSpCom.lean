/- Contracts of the package space: alone, Live, Tail. -/
import Derived.Test.YtmipfmeafbeegaaSpVoc
namespace Go.Proofs.Ytmipfmeafbeegaa
open Go.RowKit
set_option linter.unusedVariables false

def oneB (C s a n : Int) : Bool := decide (0 ≤ C ∧ C ≤ 65536 ∧ 1 ≤ s ∧ 1 ≤ n ∧ n ≤ 9 ∧ 0 ≤ a ∧ a ≤ C - n)
theorem oneB_iff (C s a n : Int) : oneB C s a n = true ↔ (0 ≤ C ∧ C ≤ 65536 ∧ 1 ≤ s ∧ 1 ≤ n ∧ n ≤ 9 ∧ 0 ≤ a ∧ a ≤ C - n) := by
  unfold oneB; simp only [decide_eq_true_eq]
theorem bool_ {a b : Bool} (h : a = true ↔ b = true) : Ending.returned (.bool a) = .returned (.bool b) := by rw [Bool.eq_iff_iff.2 h]
set_option maxHeartbeats 2000000 in
theorem alone_any (C s a n : Int) (w : World) (hC : 0 ≤ C) (hC2 : C ≤ 65536) :
    Calls Try.prog 43 #[.int .i64 C, .agg #[.int .u64 s, .int .i64 a, .int .i64 n]] w fun e w' => e = .returned (.bool (oneB C s a n)) ∧ Below w.heap.size w w' := by
  by_cases c1 : 1 ≤ s
  · by_cases c2 : 1 ≤ n
    · by_cases c3 : n ≤ 9
      · by_cases c4 : 0 ≤ a
        · by_cases c5 : a ≤ C - n
          · go_enter Try.func43, Try.ntmps43
            go_wp2
            go_ret
            exact ⟨bool_ (by unfold oneB; simp; try omega), below1 _ _⟩
          · have c5' : C - n < a := by omega
            clear c5
            go_enter Try.func43, Try.ntmps43
            go_wp2
            go_ret
            exact ⟨bool_ (by unfold oneB; simp; try omega), below1 _ _⟩
        · have c4' : a < 0 := by omega
          clear c4
          go_enter Try.func43, Try.ntmps43
          go_wp2
          go_ret
          exact ⟨bool_ (by unfold oneB; simp; try omega), below1 _ _⟩
      · have c3' : 9 < n := by omega
        clear c3
        go_enter Try.func43, Try.ntmps43
        go_wp2
        go_ret
        exact ⟨bool_ (by unfold oneB; simp; try omega), below1 _ _⟩
    · have c2' : n < 1 := by omega
      clear c2
      go_enter Try.func43, Try.ntmps43
      go_wp2
      go_ret
      exact ⟨bool_ (by unfold oneB; simp; try omega), below1 _ _⟩
  · have c1' : s < 1 := by omega
    clear c1
    go_enter Try.func43, Try.ntmps43
    go_wp2
    go_ret
    exact ⟨bool_ (by unfold oneB; simp; try omega), below1 _ _⟩

def liveE (xs : List Ext) : Int := xs.foldl (fun n x => wrap64 (n + x.2.2)) 0
def tailE (xs : List Ext) : Int := xs.foldl (fun m x => max m (wrap64 (x.2.1 + x.2.2))) 0
theorem foldl_take_succ {α β : Type} (f : β → α → β) (b : β) (l : List α) (k : Nat) (h : k < l.length) : (l.take (k + 1)).foldl f b = f ((l.take k).foldl f b) l[k] := by
  rw [List.take_add_one, List.getElem?_eq_getElem h, List.foldl_append]
  rfl
theorem extRow_len (xs : List Ext) : ∀ r ∈ xs.map rowExt, r.length = 3 := by
  intro r hr; simp only [List.mem_map] at hr; obtain ⟨y, _, rfl⟩ := hr; rfl
set_option maxHeartbeats 1000000 in
theorem live_any (A : Option Addr) (n c : Nat) (xs : List Ext) (w : World) (hn : xs.length = n) (h : Rd w A ((xs.map rowExt).flatten)) (hcap : n ≤ 5864062014700) :
    Calls Try.prog 22 #[.slice A n c] w fun e w' => e = .returned (.int .i64 (liveE xs)) ∧ Below w.heap.size w w' := by
  have HN := Lib.hid hn
  have HR := Lib.hid h
  clear hn h
  go_enter Try.func22, Try.ntmps22
  go_wp2_with fail
  go_loopw [3, 8] (fun s i wr => ∃ k : Nat, k ≤ n ∧ i = .int .i64 k ∧ s = .int .i64 (liveE (xs.take k)) ∧ Below w.heap.size w wr) (fun _ i _ => n - (intOf i).toNat)
  case atStart => exact ⟨0, by omega, rfl, rfl, Below.refl _ _⟩
  case round =>
    obtain ⟨k, hk, rfl, rfl, hB⟩ := hrel
    by_cases hlt : k < n
    · have hkx : k < xs.length := by have := HN.out; omega
      obtain ⟨b, o, rfl, hrow⟩ := (HR.out.kept hB).at_row (extRow_len xs) (by decide) (i := k) (r := rowExt xs[k]) (by simp [List.getElem?_eq_getElem hkx])
      have HE : Hid (liveE (xs.take (k + 1)) = wrap64 (liveE (xs.take k) + xs[k].2.2)) := Lib.hid (foldl_take_succ _ _ xs k hkx)
      have HB := Lib.hid hB
      have hz := hB.size
      have c0 := hrow 0 _ rfl
      have c1 := hrow 1 _ rfl
      have c2 := hrow 2 _ rfl
      simp only [Nat.add_zero] at c0
      have b1 : (0 : Int) ≤ (k : Int) ∧ (k : Int) < (n : Int) := by omega
      clear hrow hB
      generalize xs[k] = x at *
      generalize liveE (xs.take k) = s at *
      go_wp2
      go_roundw
      case rel => exact ⟨k + 1, by omega, by go_num, by rw [HE.out], HB.out.alloc hz _⟩
      case measure => simp [intOf]; omega
    · obtain rfl : k = n := by omega
      have HE : Hid (xs.take k = xs) := Lib.hid (List.take_of_length_le (by have := HN.out; omega))
      have HB := Lib.hid hB
      clear hB
      go_wp2
      go_ret
      exact ⟨by rw [HE.out]; rfl, HB.out⟩
set_option maxHeartbeats 1000000 in
theorem tail_any (A : Option Addr) (n c : Nat) (xs : List Ext) (w : World) (hn : xs.length = n) (h : Rd w A ((xs.map rowExt).flatten)) (hcap : n ≤ 5864062014700) :
    Calls Try.prog 42 #[.slice A n c] w fun e w' => e = .returned (.int .i64 (tailE xs)) ∧ Below w.heap.size w w' := by
  have HN := Lib.hid hn
  have HR := Lib.hid h
  clear hn h
  go_enter Try.func42, Try.ntmps42
  go_wp2_with fail
  go_loopw [3, 8] (fun s i wr => ∃ k : Nat, k ≤ n ∧ i = .int .i64 k ∧ s = .int .i64 (tailE (xs.take k)) ∧ Below w.heap.size w wr) (fun _ i _ => n - (intOf i).toNat)
  case atStart => exact ⟨0, by omega, rfl, rfl, Below.refl _ _⟩
  case round =>
    obtain ⟨k, hk, rfl, rfl, hB⟩ := hrel
    by_cases hlt : k < n
    · have hkx : k < xs.length := by have := HN.out; omega
      obtain ⟨b, o, rfl, hrow⟩ := (HR.out.kept hB).at_row (extRow_len xs) (by decide) (i := k) (r := rowExt xs[k]) (by simp [List.getElem?_eq_getElem hkx])
      have HE : Hid (tailE (xs.take (k + 1)) = max (tailE (xs.take k)) (wrap64 (xs[k].2.1 + xs[k].2.2))) := Lib.hid (foldl_take_succ _ _ xs k hkx)
      have HB := Lib.hid hB
      have hz := hB.size
      have c0 := hrow 0 _ rfl
      have c1 := hrow 1 _ rfl
      have c2 := hrow 2 _ rfl
      simp only [Nat.add_zero] at c0
      have b1 : (0 : Int) ≤ (k : Int) ∧ (k : Int) < (n : Int) := by omega
      clear hrow hB
      generalize xs[k] = x at *
      generalize tailE (xs.take k) = s at *
      go_wp2
      all_goals go_roundw
      all_goals first
        | (case rel => exact ⟨k + 1, by omega, by go_num, by rw [HE.out, Int.max_def]; congr 1; split <;> omega, HB.out.alloc hz _⟩)
        | skip
      all_goals first
        | (case measure => simp [intOf]; omega)
        | skip
    · obtain rfl : k = n := by omega
      have HE : Hid (xs.take k = xs) := Lib.hid (List.take_of_length_le (by have := HN.out; omega))
      have HB := Lib.hid hB
      clear hB
      go_wp2
      go_ret
      exact ⟨by rw [HE.out]; rfl, HB.out⟩
end Go.Proofs.Ytmipfmeafbeegaa
