/- Contracts: dunnagehelp.Plain, Own, Kept at one kind of things. -/
import Derived.Test.YtmipfmeafbeegaaMvVoc
import Derived.StillTailTactics
import Derived.BigQuiet
import Derived.Deep.Cut
namespace Go.Proofs.Ytmipfmeafbeegaa
open Go.RowKit
set_option linter.unusedVariables false

theorem below1Mov (w : World) (o : Obj) : Below w.heap.size w (w.alloc o) := (Below.refl _ _).alloc (Nat.le_refl _) _
def IsMov (r : List Value) : Prop := ∃ x : Mov, r = rowMov x
theorem IsMov.len {r : List Value} (h : IsMov r) : r.length = 4 := by obtain ⟨x, rfl⟩ := h; rfl
theorem isMov_all (xs : List Mov) : ∀ r ∈ xs.map rowMov, IsMov r := by
  intro r hr
  simp only [List.mem_map] at hr
  obtain ⟨x, _, rfl⟩ := hr
  exact ⟨x, rfl⟩
theorem rowsMov_len (xs : List Mov) : ((xs.map rowMov).flatten).length = xs.length * 4 := by
  rw [flat_len 4 _ (fun r hr => (isMov_all xs r hr).len)]; simp
theorem rowsMov_one (xs : List Mov) : ∀ u ∈ (xs.map rowMov).flatten, u.oneCell' = true := by
  intro u hu
  obtain ⟨r, hr, hur⟩ := List.mem_flatten.1 hu
  obtain ⟨x, rfl⟩ := isMov_all xs r hr
  exact rowMov_one x u hur
theorem Mov_same (x : Mov) (w : World) :
    Calls Try.prog 32 #[.agg #[.int .u64 x.1, .int .i64 x.2.1, .int .i64 x.2.2.1, .int .i64 x.2.2.2], .agg #[.int .u64 x.1, .int .i64 x.2.1, .int .i64 x.2.2.1, .int .i64 x.2.2.2]] w fun e w' => e = .returned (.bool true) ∧ Below w.heap.size w w' := by
  go_enter Try.func32, Try.ntmps32
  go_wp2
  go_ret
  exact ⟨rfl, ((Below.refl _ _).alloc (Nat.le_refl _) _).alloc (by simp) _⟩

theorem Mov_srow {w : World} {A : Option Addr} {rows : List (List Value)} (h : Rd w A rows.flatten) (hk : ∀ r ∈ rows, IsMov r) {j : Nat} (hj : j < rows.length) : ∃ b o, A = some ⟨b, o, none⟩ ∧ b < w.heap.size ∧ w.rangeAt b (o + j * 4) rows[j] := by
  have hk' : ∀ r ∈ rows, r.length = 4 := fun r hr => (hk r hr).len
  obtain ⟨b, o, hA, hr⟩ := h.at_row hk' (by decide) (List.getElem?_eq_getElem hj)
  refine ⟨b, o, hA, ?_, hr⟩
  have hl := hk' _ (List.getElem_mem hj)
  exact World.block_lt_of_cell? w ⟨b, o + j * 4 + 0, none⟩ (hr 0 (rows[j][0]'(by omega)) (List.getElem?_eq_getElem (by omega)))
set_option maxRecDepth 100000 in
set_option maxHeartbeats 2000000 in
theorem Mov_sameL (A : Option Addr) (n c : Nat) (rows : List (List Value)) (B : Option Addr) (d : Nat) (w : World) (hn : rows.length = n) (h : Rd w A rows.flatten) (h' : Rd w B rows.flatten) (hk : ∀ r ∈ rows, IsMov r) (hnb : n ≤ 4611686018427387904) :
    Calls Try.prog 31 #[.slice A n c, .slice B n d, .func (.func 32) #[] #[]] w fun e w' => e = .returned (.bool true) ∧ Below w.heap.size w w' := by
  have q1 : ((n : Int) != (n : Int)) = false := by simp
  have HN := Lib.hid hn
  have HK := Lib.hid hk
  have HR := Lib.hid h
  have HR' := Lib.hid h'
  clear hn hk h h'
  go_enter Try.func31, Try.ntmps31
  go_wp2_with fail
  go_loopw [7] (fun i wr => ∃ j : Nat, j ≤ n ∧ i = .int .i64 j ∧ Below w.heap.size w wr) (fun i _ => n - (intOf i).toNat)
  case atStart => exact ⟨0, by omega, rfl, Below.refl _ _⟩
  case round =>
    obtain ⟨j, hj, rfl, hb⟩ := hrel
    by_cases hlt : j < n
    · have hjv : j < rows.length := by have := HN.out; omega
      obtain ⟨b, o, rfl, hbl, hr⟩ := Mov_srow (HR.out.kept hb) HK.out hjv
      obtain ⟨b', o', rfl, hbl', hr'⟩ := Mov_srow (HR'.out.kept hb) HK.out hjv
      have hsh := HK.out _ (List.getElem_mem hjv)
      have HB := Lib.hid hb
      clear hb
      generalize rows[j] = r at *
      clear hjv
      obtain ⟨x, rfl⟩ := hsh
      have c0 := hr 0 _ rfl
      have d0 := hr' 0 _ rfl
      have c1 := hr 1 _ rfl
      have d1 := hr' 1 _ rfl
      have c2 := hr 2 _ rfl
      have d2 := hr' 2 _ rfl
      have c3 := hr 3 _ rfl
      have d3 := hr' 3 _ rfl
      simp only [Nat.add_zero] at c0 d0
      have C := Lib.hid (fun w1 => Mov_same x w1)
      clear hr hr'
      have b1 : (0 : Int) ≤ (j : Int) ∧ (j : Int) < (n : Int) := by omega
      go_wp2_with fail
      go_still_tail 9, (by kernel_rfl)
      change wpList _ _ _ _ _ wr.drew
      go_wp2_with fail
      refine (C.out _).mono ?_
      rintro e w2 ⟨rfl, hb2⟩
      have HB2 := Lib.hid (HB.out.drew.trans (hb2.mono HB.out.drew.size))
      clear hb2 c0 d0 c1 d1 c2 d2 c3 d3
      go_wp2
      go_roundw
      case rel => exact ⟨j + 1, by omega, by go_num, HB2.out⟩
      case measure => simp [intOf]; omega
    · obtain rfl : j = n := by omega
      go_wp2
      go_ret
      exact ⟨rfl, hb⟩
theorem Mov_plain (A : Option Addr) (n c : Nat) (rows : List (List Value)) (B : Option Addr) (d : Nat) (w : World) (hn : rows.length = n) (h : Rd w A rows.flatten) (h' : Rd w B rows.flatten) (hk : ∀ r ∈ rows, IsMov r) (hnb : n ≤ 4611686018427387904) :
    Calls Try.prog 14 #[.slice A n c, .slice B n d] w fun e w' => e = .returned (.bool true) ∧ Below w.heap.size w w' := by
  have C := Lib.hid (Mov_sameL A n c rows B d w hn h h' hk hnb)
  clear h h' hn hk
  go_enter Try.func14, Try.ntmps14
  go_wp2_with fail
  refine C.out.mono ?_
  rintro e w1 ⟨rfl, hb⟩
  go_wp2
  go_ret
  exact ⟨rfl, hb⟩


theorem Mov_plainL (A : Option Addr) (n c : Nat) (xs : List Mov) (B : Option Addr) (d : Nat) (w : World) (hn : xs.length = n) (h : Rd w A ((xs.map rowMov).flatten)) (h' : Rd w B ((xs.map rowMov).flatten)) (hnb : n ≤ 4611686018427387904) :
    Calls Try.prog 14 #[.slice A n c, .slice B n d] w fun e w' => e = .returned (.bool true) ∧ Below w.heap.size w w' :=
  Mov_plain A n c _ B d w (by simpa using hn) h h' (isMov_all xs) hnb
end Go.Proofs.Ytmipfmeafbeegaa
