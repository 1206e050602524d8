/- Contracts: word.Get and what it goes through. -/
import Derived.Test.YtdgciajdnmgcnaaZero
import Derived.Test.YtdgciajdnmgcnaaCrc
import Derived.BigRegion
namespace Go.Proofs.Ytdgciajdnmgcnaa
open Go.RowKit

def unle : List Int → Int
  | [] => 0
  | x :: l => x + 256 * unle l
theorem unle_range {l : List Int} (h : IsB l) : 0 ≤ unle l ∧ unle l < 256 ^ l.length := by
  induction l with
  | nil => simp [unle]
  | cons x l ih =>
    have h1 := h x (by simp)
    have h2 := ih (fun y hy => h y (by simp [hy]))
    simp only [unle, List.length_cons, Int.pow_succ]
    omega
theorem unle_snoc (l : List Int) (x : Int) : unle (l ++ [x]) = unle l + x * 256 ^ l.length := by
  induction l with
  | nil => simp [unle]
  | cons y l ih => simp only [List.cons_append, unle, ih, List.length_cons, Int.pow_succ]; rw [Int.mul_add]; rw [show 256 * (x * 256 ^ l.length) = x * (256 ^ l.length * 256) by rw [Int.mul_comm 256, Int.mul_assoc]]; omega
theorem or_shift (a x s : Nat) (ha : a < 2 ^ s) : a ||| (x * 2 ^ s) = a + x * 2 ^ s := by
  rw [Nat.or_comm, Nat.mul_comm x, ← Nat.two_pow_add_eq_or_of_lt ha x]; omega
theorem or_u64 (a b : Nat) (ha : a < 18446744073709551616) (hb : b < 18446744073709551616) : bits .or .u64 a b = ((a ||| b : Nat) : Int) :=
  (bits_nat .u64 64 (by decide) (fun n h0 h1 => by simp only [IntKind.wrap, IntKind.bits, IntKind.signed]; simp at h1 ⊢; omega) a b (by simpa using ha) (by simpa using hb)).2

def TwoBlk (Bv Bs : Nat) (v s : Int) (w : World) : Prop :=
  w.heap[Bv]? = some (.cells #[.int .u64 v] 22 (0, 0)) ∧ w.heap[Bs]? = some (.cells #[.int .i64 s] 3 (0, 0))

set_option maxHeartbeats 1000000 in
theorem get1_any (Bv Bs : Nat) (x v s : Nat) (w : World) (hB : Bv ≠ Bs) (hx : x < 256) (hs : s ≤ 56) (hv : v < 2 ^ s) (h : TwoBlk Bv Bs v s w) :
    Calls Try.prog 59 #[.int .u8 x, .pointer (some ⟨Bv, 0, none⟩), .pointer (some ⟨Bs, 0, none⟩)] w fun e w' =>
      e = .returned (.bool true) ∧ TwoBlk Bv Bs (v + x * 2 ^ s : Nat) (s + 8 : Nat) w' ∧ Chg (fun k => k = Bv ∨ k = Bs) w w' := by
  obtain ⟨h1, h2⟩ := h
  have c1 := cell_of_one h1
  have f1 := free_of_one h1
  have c2 := cell_of_one h2
  have f2 := free_of_one h2
  have H1 := Lib.hid h1
  have H2 := Lib.hid h2
  clear h1 h2
  have hxs : x * 2 ^ s < 2 ^ 64 := by
    calc x * 2 ^ s < 256 * 2 ^ s := Nat.mul_lt_mul_of_pos_right hx (Nat.two_pow_pos s)
      _ ≤ 256 * 2 ^ 56 := Nat.mul_le_mul_left _ (Nat.pow_le_pow_right (by decide) hs)
      _ = 2 ^ 64 := by decide
  have hv64 : v < 2 ^ 64 := Nat.lt_of_lt_of_le hv (Nat.pow_le_pow_right (by decide) (by omega))
  obtain ⟨y, hy⟩ : ∃ y, y = x * 2 ^ s := ⟨_, rfl⟩
  obtain ⟨z, hz⟩ : ∃ z, z = v + x * 2 ^ s := ⟨_, rfl⟩
  have ew : IntKind.u64.wrap ((x : Int) * 2 ^ s) = (y : Int) := by
    have e : ((x : Int) * 2 ^ s) = ((x * 2 ^ s : Nat) : Int) := by simp
    rw [e, u64w (by simpa using hxs), hy]
  have eo : bits .or .u64 (v : Int) (y : Int) = (z : Int) := by
    rw [or_u64 _ _ (by simpa using hv64) (by rw [hy]; simpa using hxs), hy, or_shift _ _ _ hv, hz]
  have HZ := Lib.hid hz
  have ex := u64w (n := x) (by omega)
  clear hxs hv64 hy hz hv hx
  go_enter Try.func59, Try.ntmps59
  go_wp2
  go_region
  all_goals go_wp2
  all_goals go_ret
  refine ⟨rfl, ⟨?_, ?_⟩, ?_⟩
  · rw [← HZ.out]
    show ((w.setCell ⟨Bv, 0, none⟩ (.int .u64 z)).setCell ⟨Bs, 0, none⟩ _).heap[Bv]? = _
    rw [Below.heap_setCell _ _ _ _ hB]
    exact one_setCell H1.out
  · show ((w.setCell ⟨Bv, 0, none⟩ (.int .u64 z)).setCell ⟨Bs, 0, none⟩ _).heap[Bs]? = _
    exact one_setCell (v := .int .i64 s) ((Below.heap_setCell w ⟨Bv, 0, none⟩ _ Bs (Ne.symm hB)).trans H2.out)
  · exact (((Chg.refl _ w).setCell (p := ⟨Bv, 0, none⟩) (fun _ => .inl rfl) _).setCell (p := ⟨Bs, 0, none⟩) (fun _ => .inr rfl) _).drew

set_option maxHeartbeats 2000000 in
theorem over_get (Bv Bs : Nat) (A : Option Addr) (n c : Nat) (l : List Int) (w : World) (hn : l.length = n) (hl : n ≤ 8) (h : Rd w A (bys l)) (hA : ∀ a, A = some a → a.block ≠ Bv ∧ a.block ≠ Bs) (hI : IsB l) (hB : Bv ≠ Bs) (hV : TwoBlk Bv Bs 0 0 w) :
    Calls Try.prog 58 #[.agg #[.func (.func 59) #[] #[.pointer (some ⟨Bv, 0, none⟩), .pointer (some ⟨Bs, 0, none⟩)]], .slice A n c, .int .i64 0] w fun e w' =>
      ∃ v, e = .returned v ∧ TwoBlk Bv Bs (unle l) (8 * n : Nat) w' ∧ Chg (fun k => k = Bv ∨ k = Bs) w w' := by
  subst hn
  have hBv : Bv < w.heap.size := lt_of_block hV.1
  have hBs : Bs < w.heap.size := lt_of_block hV.2
  have HV := Lib.hid hV
  clear hV
  go_enter Try.func58, Try.ntmps58
  go_wp2_with fail
  go_loopw [2] (fun i wr => ∃ j : Nat, j ≤ l.length ∧ i = .int .i64 j ∧ TwoBlk Bv Bs (unle (l.take j)) (8 * j : Nat) wr ∧ wr.cell? ⟨w.heap.size, 0, none⟩ = some (.func (.func 59) #[] #[.pointer (some ⟨Bv, 0, none⟩), .pointer (some ⟨Bs, 0, none⟩)]) ∧ Chg (fun k => k = Bv ∨ k = Bs) w wr) (fun i _ => l.length - (intOf i).toNat)
  case atStart => exact ⟨0, by omega, rfl, ⟨(Below.heap_alloc _ _ _ hBv).trans HV.out.1, (Below.heap_alloc _ _ _ hBs).trans HV.out.2⟩, by simp, (Chg.refl _ w).alloc _⟩
  case round =>
    obtain ⟨j, hj, rfl, hz, hcl, hb⟩ := hrel
    have HZ := Lib.hid hz
    clear hz
    by_cases hlt : j < l.length
    · obtain ⟨b, o, hAA, hc⟩ := (h.chg hb (fun a ha _ => by have := hA a ha; omega)).at_ (j := j) (by rw [bys_length]; exact hlt)
      subst hAA
      simp only [bys, List.getElem_map] at hc
      have hx := hI l[j] (List.getElem_mem hlt)
      have htk : l.take (j + 1) = l.take j ++ [l[j]] := by rw [List.take_succ_eq_append_getElem hlt]
      have hstep := unle_snoc (l.take j) l[j]
      rw [← htk, List.length_take, Nat.min_eq_left hj] at hstep
      have hrg := unle_range (l := l.take j) (fun x hx => hI x (List.mem_of_mem_take hx))
      rw [List.length_take, Nat.min_eq_left hj] at hrg
      generalize l[j] = x at hc hx hstep
      obtain ⟨xn, rfl⟩ := Int.eq_ofNat_of_zero_le hx.1
      obtain ⟨u, hu⟩ := Int.eq_ofNat_of_zero_le hrg.1
      have hsize := hb.size
      have hpow : (256 : Nat) ^ j = 2 ^ (8 * j) := by rw [Nat.pow_mul]
      have hul : u < 2 ^ (8 * j) := by
        have := hrg.2; rw [hu] at this
        have e : ((256 : Int) ^ j) = ((2 ^ (8 * j) : Nat) : Int) := by rw [← hpow]; simp
        rw [e] at this; exact_mod_cast this
      have hst : unle (l.take (j + 1)) = ((u + xn * 2 ^ (8 * j) : Nat) : Int) := by
        rw [hstep, hu, ← hpow]; simp
      have HS := Lib.hid hst
      have C1 := Lib.hid (fun (w2 : World) (h2 : TwoBlk Bv Bs (unle (l.take j)) (8 * j : Nat) w2) => get1_any Bv Bs xn u (8 * j) w2 hB (by omega) (by omega) hul (by rw [← hu]; exact h2))
      have hw1 : IntKind.i64.wrap ((j : Int) + 1 - 1) = (j : Int) := by rw [show (j : Int) + 1 - 1 = j by omega]; exact IntWalk.i64_in _ (by omega)
      have hw0 : IntKind.i64.wrap (j : Int) = (j : Int) := IntWalk.i64_in _ (by omega)
      have b1 : (0 : Int) ≤ (j : Int) ∧ (j : Int) < (l.length : Int) := by omega
      clear hstep hst hul hpow hu hrg htk hx
      go_wp2_with fail
      go_still_tail 7, (by kernel_rfl)
      change wpList _ _ _ _ _ wr.drew
      go_wp2_with fail
      refine (C1.out wr.drew HZ.out).mono ?_
      rintro e w2 ⟨rfl, hz2, hb2⟩
      have hcl2 : w2.cell? ⟨w.heap.size, 0, none⟩ = some (.func (.func 59) #[] #[.pointer (some ⟨Bv, 0, none⟩), .pointer (some ⟨Bs, 0, none⟩)]) := hb2.cell (w := wr.drew) hcl (by simp; omega)
      have HZ2 := Lib.hid hz2
      clear hz2 hcl hc
      go_wp2
      go_roundw
      case rel => exact ⟨j + 1, by omega, by go_num, by rw [HS.out]; exact HZ2.out, hcl2, hb.drew.trans hb2⟩
      case measure => simp [intOf]; omega
    · obtain rfl : j = l.length := by omega
      clear hcl
      go_wp2
      go_ret2
      exact ⟨_, rfl, by have := HZ.out; rw [List.take_length] at this; exact this, hb⟩

set_option maxHeartbeats 2000000 in
theorem get_ok (b o c : Nat) (l : List Int) (at_ n m : Nat) (w : World) (hn : l.length = m) (h : Rd w (some ⟨b, o, none⟩) (bys l)) (hI : IsB l) (h1 : 1 ≤ n) (h8 : n ≤ 8) (hat : at_ + n ≤ m) (hm : m ≤ 4611686018427387904) (hmc : m ≤ c) :
    Calls Try.prog 49 #[.slice (some ⟨b, o, none⟩) m c, .int .i64 at_, .int .i64 n] w fun e w' =>
      e = .returned (.tuple #[.int .u64 (unle ((l.drop at_).take n)), .int .i64 0]) ∧ Below w.heap.size w w' := by
  go_enter Try.func49, Try.ntmps49
  go_wp2_with fail
  have hw0 : IntKind.i64.wrap ((at_ : Int) + (n : Int)) = (at_ : Int) + (n : Int) := IntWalk.i64_in _ (by omega)
  obtain ⟨W, hW⟩ : ∃ W, W = ((w.alloc (.cells #[.int .u64 0] 22)).alloc (.cells #[.int .i64 0] 3)).alloc (.cells #[.func (.func 59) #[] #[.pointer (some ⟨w.heap.size, 0, none⟩), .pointer (some ⟨w.heap.size + 1, 0, none⟩)]] 77) := ⟨_, rfl⟩
  rw [← hW]
  have hbW : Below w.heap.size w W := by rw [hW]; exact (((Below.refl _ _).alloc (Nat.le_refl _) _).alloc (by simp) _).alloc (by simp; omega) _
  have hcW : W.cell? ⟨w.heap.size + 1 + 1, 0, none⟩ = some (.func (.func 59) #[] #[.pointer (some ⟨w.heap.size, 0, none⟩), .pointer (some ⟨w.heap.size + 1, 0, none⟩)]) := by
    rw [hW]; simp [World.cell?_alloc_at]
  have htw : TwoBlk w.heap.size (w.heap.size + 1) 0 0 W := by
    rw [hW]
    constructor
    · rw [Below.heap_alloc _ _ _ (by simp; omega), Below.heap_alloc _ _ _ (by simp)]; exact heap_alloc_new _ _
    · rw [Below.heap_alloc _ _ _ (by simp)]; simpa using heap_alloc_new (w.alloc (.cells #[.int .u64 0] 22)) (.cells #[.int .i64 0] 3)
  clear hW
  have hcut := run_cut (P := Try.prog) .i64 .i64 Try.underlying23 sizeU8 b o m c at_ (at_ + n) (at_ : Int) ((at_ : Int) + (n : Int)) rfl (by omega) (by omega) (by omega) (by omega)
  rw [show at_ + n - at_ = n by omega] at hcut
  have b0 : (0 : Int) ≤ (at_ : Int) := by omega
  have b1 : (at_ : Int) ≤ (at_ : Int) + (n : Int) := by omega
  have b2 : (at_ : Int) + (n : Int) ≤ (c : Int) := by omega
  have b3 : ¬ c = at_ := by omega
  have b4 : ((at_ : Int) + (n : Int)).toNat = at_ + n := by omega
  have hlt : b < w.heap.size := h.lt ⟨b, o, none⟩ rfl (by intro e; have := congrArg List.length e; simp [bys_length] at this; simp [this] at hn; omega)
  have hpl : ((l.drop at_).take n).length = n := by simp; omega
  have C1 := Lib.hid (over_get w.heap.size (w.heap.size + 1) (some ⟨b, o + at_, none⟩) n (c - at_) ((l.drop at_).take n) W.drew hpl h8 (by rw [bys_take, bys_drop]; exact (h.kept hbW).part at_ n) (by intro a ha; cases ha; simp; omega) (fun x hx => hI x (List.mem_of_mem_drop (List.mem_of_mem_take hx))) (by omega) htw)
  have hsz := hbW.size
  clear htw h
  go_still_tail 7, (by kernel_rfl)
  change wpList _ _ _ _ _ W.drew
  go_wp2_with fail
  refine C1.out.mono ?_
  rintro e w2 ⟨v, rfl, ht2, hb2⟩
  have hc2 := cell_of_one ht2.1
  clear ht2
  go_wp2
  go_ret2
  exact ⟨rfl, hbW.drew.trans (hb2.below (B := w.heap.size) (fun k hk e => by omega) hsz)⟩
end Go.Proofs.Ytdgciajdnmgcnaa
