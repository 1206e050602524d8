/- Contracts: sector.put, crc.half, crc.More, crc.Sum; whatever is handed in. -/
import Derived.Test.YtdgciajdnmgcnaaWord
import Derived.Test.YtdgciajdnmgcnaaCrcPure
namespace Go.Proofs.Ytdgciajdnmgcnaa
open Go.RowKit

theorem sizeU8 : (Try.prog.info? 5).map (·.size) = some 1 := by kernel_rfl
set_option maxHeartbeats 1000000 in
theorem put_in (g : Nat) (cur : List Value) (t : Nat) (at_ n : Nat) (v : Int) (B : Nat) (w0 w : World) (hb : Below B w0 w) (hBg : B ≤ g) (hB : B ≤ w.heap.size) (hg : w.heap[g]? = some (.cells cur.toArray t (0, 0)))
    (hc : cur.length = 512) (hat : at_ + n ≤ 512) (h0 : 1 ≤ n) (h8 : n ≤ 8) (hv0 : 0 ≤ v) (hv1 : v < 256 ^ n) :
    Calls Try.prog 40 #[.slice (some ⟨g, 0, none⟩) 512 512, .int .i64 at_, .int .i64 n, .int .u64 v] w fun e w' =>
      e = .returned (.tuple #[]) ∧ w'.heap[g]? = some (.cells (splice cur at_ (bys (le n v))).toArray t (0, 0)) ∧ Below B w0 w' := by
  have hglt : g < w.heap.size := (Array.getElem?_eq_some_iff.1 hg).1
  have H := Lib.hid hg
  clear hg
  go_enter Try.func40, Try.ntmps40
  have hl : (bys (le n v)).length = n := by rw [bys_length, le_length]
  have HL := Lib.hid hl
  clear hl
  go_wp2_with (first
    | (go_at_call 54; refine (put_nil v n _ h0 h8 hv0 hv1).mono ?_; rintro e w1 ⟨s, rfl, hown, hb1⟩; obtain ⟨A, c, rfl, hnc, hcm, hrd, hlen⟩ := own_rd hown; have hg1 := Lib.hid ((hb1.block g hglt).trans H.out))
    | (with_reducible refine wpList_copy_splice rfl (.tmp 24) (.tmp 25) 23 23 rfl 5 Try.underlying23 sizeU8 _ _ _ _ _ _ rfl rfl g at_ cur t hg1.out (bys (le n v)) ?hn (fun _ => ⟨rfl, ?hp⟩) ?hf (bys_one _) B w0 (hb.trans (hb1.mono hB)) hBg ?_))
  case hn => rw [HL.out]; show n = min n (at_ + n - at_); omega
  case hp =>
    obtain ⟨b, o, rfl⟩ := hrd.some_of (by intro e; have := HL.out; rw [e] at this; simp at this; omega)
    exact ⟨_, rfl, hrd.addr⟩
  case hf => rw [HL.out]; omega
  intro w' hw hb'
  go_wp2
  go_end0
  exact ⟨rfl, hw.out, hb'⟩

theorem half_any (c : Nat) (hc : c < 4294967296) (w : World) : Calls Try.prog 60 #[.int .u32 c] w fun e w' => e = .returned (.int .u32 (half c : Nat)) ∧ w = w' := by
  have ha := and1_u32 c hc
  by_cases h : c % 2 = 1
  · have hx := xor_u32 (c / 2) 2197175160 (by omega) (by decide)
    have e : half c = c / 2 ^^^ 2197175160 := by unfold half; rw [if_pos h]; rfl
    have H := Lib.hid e
    have h1 : (bits .and .u32 (c : Int) 1 != 0) = true := by rw [ha, h]; rfl
    have HX := Lib.hid hx
    clear ha h e hx
    go_enter Try.func60, Try.ntmps60
    go_wp2
    go_ret
    exact ⟨by rw [H.out, ← HX.out]; rfl, rfl⟩
  · have e : half c = c / 2 := by unfold half; rw [if_neg h]
    have H := Lib.hid e
    have h1 : (bits .and .u32 (c : Int) 1 != 0) = false := by rw [ha, show c % 2 = 0 by omega]; rfl
    clear ha h e
    go_enter Try.func60, Try.ntmps60
    go_wp2
    go_ret
    exact ⟨by rw [H.out]; rfl, rfl⟩

def tab (k : Nat) : List Value := (List.range 16).map fun j => .int .u32 (if j < k then (halves 4 j : Nat) else 0)
theorem tab_length (k : Nat) : (tab k).length = 16 := by simp [tab]
theorem tab_get (k j : Nat) (hj : j < 16) : (tab k)[j]? = some (.int .u32 (if j < k then (halves 4 j : Nat) else 0)) := by
  simp [tab, hj]
theorem tab_set (k : Nat) (hk : k < 16) : (tab k).set k (.int .u32 (halves 4 k : Nat)) = tab (k + 1) := by
  apply List.ext_getElem?
  intro j
  rw [List.getElem?_set]
  by_cases hj : j < 16
  · rw [tab_get (k + 1) j hj]
    split
    · rename_i e; subst e; simp [tab_length, hk]
    · rename_i e; rw [tab_get k j hj]; by_cases h : j < k
      · rw [if_pos h, if_pos (by omega)]
      · rw [if_neg h, if_neg (by omega)]
  · rw [List.getElem?_eq_none (by rw [tab_length]; omega)]
    split
    · omega
    · rw [List.getElem?_eq_none (by rw [tab_length]; omega)]

theorem block_setCell {w : World} {g t : Nat} {L : List Value} {fr : Nat × Nat} (h : w.heap[g]? = some (.cells L.toArray t fr)) (i : Nat) (v : Value) : (w.setCell ⟨g, i, none⟩ v).heap[g]? = some (.cells (L.set i v).toArray t fr) := by
  simp [World.setCell, Array.getElem?_modify, h]
theorem block_cell {w : World} {g t : Nat} {L : List Value} {fr : Nat × Nat} (h : w.heap[g]? = some (.cells L.toArray t fr)) (i : Nat) : w.cell? ⟨g, i, none⟩ = L[i]? := by
  simp [World.cell?, h]
theorem block_free {w : World} {g t : Nat} {L : List Value} (h : w.heap[g]? = some (.cells L.toArray t (0, 0))) (i : Nat) : w.frozen? ⟨g, i, none⟩ = false := by
  simp [World.frozen?, h]

set_option maxHeartbeats 2000000 in
theorem crcmore_any (s : Nat) (hs : s < 4294967296) (A : Option Addr) (c : Nat) (l : List Int) (w : World) (h : Rd w A (bys l)) (hl : l.length ≤ 9223372036854775807) (hB : IsB l) :
    Calls Try.prog 55 #[.int .u32 s, .slice A l.length c] w fun e w' => e = .returned (.int .u32 (more s l : Nat)) ∧ Below w.heap.size w w' := by
  go_enter Try.func55, Try.ntmps55
  go_wp2_with fail
  go_loopw [10] (fun i wr => ∃ k : Nat, k ≤ 16 ∧ i = .int .i64 k ∧ wr.heap[w.heap.size]? = some (.cells (tab k).toArray 80 (0, 0)) ∧ Below w.heap.size w wr) (fun i _ => 16 - (intOf i).toNat)
  case atStart => exact ⟨0, by omega, rfl, heap_alloc_new _ _, (Below.refl _ _).alloc (Nat.le_refl _) _⟩
  case round =>
    obtain ⟨k, hk, rfl, hg, hb⟩ := hrel
    by_cases hlt : k < 16
    · have hcell : wr.cell? ⟨w.heap.size, k, none⟩ = some (.int .u32 0) := by rw [block_cell hg, tab_get k k hlt, if_neg (by omega)]
      have hfree := block_free hg k
      have HG := Lib.hid hg
      clear hg
      have hsz := hb.size
      have hdec : decide ((k : Int) < 16) = true := by simp; omega
      go_wp2_with fail
      go_loop [7, 15] (fun c i => ∃ m : Nat, m ≤ 4 ∧ i = .int .i64 m ∧ c = .int .u32 (halves m k : Nat)) (fun _ i => 4 - (intOf i).toNat)
      case atStart => exact ⟨0, by omega, rfl, rfl⟩
      case round =>
        obtain ⟨m, hm, rfl, rfl⟩ := hrel
        by_cases hm4 : m < 4
        · have hq := halves_lt m (c := k) (by omega)
          go_wp2_with (go_at_call 60; refine (half_any _ hq _).mono ?_; rintro e w' ⟨rfl, rfl⟩)
          go_round
          case rel => exact ⟨m + 1, by omega, by go_num, rfl⟩
          case measure => simp [intOf]; omega
        · obtain rfl : m = 4 := by omega
          go_wp2
          go_roundw
          case rel => exact ⟨k + 1, by omega, by go_num, by rw [← tab_set k hlt]; exact block_setCell HG.out k _, hb.setCell (p := ⟨w.heap.size, k, none⟩) (Nat.le_refl _) _⟩
          case measure => simp [intOf]; omega
    · obtain rfl : k = 16 := by omega
      have HG := Lib.hid hg
      clear hg
      have hnot : bits .xor .u32 IntKind.u32.max (s : Int) = ((s ^^^ 4294967295 : Nat) : Int) := by rw [show IntKind.u32.max = ((4294967295 : Nat) : Int) from rfl, xor_u32 _ _ (by decide) hs, Nat.xor_comm]
      obtain ⟨s', hs'⟩ : ∃ s', s' = s ^^^ 4294967295 := ⟨_, rfl⟩
      have hs1 : s' < 4294967296 := by rw [hs']; exact xor_lt32 hs (by decide)
      rw [← hs'] at hnot
      have HS := Lib.hid hs'
      clear hs'
      have hRd := Lib.hid (h.kept hb)
      go_wp2_with fail
      go_loop [0, 28] (fun r i => ∃ j : Nat, j ≤ l.length ∧ i = .int .i64 j ∧ r = .int .u32 (raw s' (l.take j) : Nat)) (fun _ i => l.length - (intOf i).toNat)
      case atStart => exact ⟨0, by omega, rfl, rfl⟩
      case round =>
        obtain ⟨j, hj, rfl, rfl⟩ := hrel
        by_cases hlt : j < l.length
        · obtain ⟨b, o, hA, hc⟩ := hRd.out.at_ (j := j) (by rw [bys_length]; exact hlt)
          subst hA
          have hx := hB l[j] (List.getElem_mem hlt)
          have hsn := raw_snoc s' (l.take j) l[j]
          have hrl := raw_lt hs1 (l := l.take j) (fun x hx => hB x (List.mem_of_mem_take hx))
          have htk : l.take (j + 1) = l.take j ++ [l[j]] := by rw [List.take_succ_eq_append_getElem hlt]
          rw [← htk] at hsn
          have HN := Lib.hid hsn
          clear hsn htk
          simp only [bys, List.getElem_map] at hc
          generalize l[j] = x at hc hx HN
          generalize raw s' (l.take j) = r at hrl HN ⊢
          obtain ⟨xn, rfl⟩ := Int.eq_ofNat_of_zero_le hx.1
          obtain ⟨t, ht⟩ : ∃ t, t = r ^^^ xn := ⟨_, rfl⟩
          have htl : t < 4294967296 := by rw [ht]; exact xor_lt32 hrl (by omega)
          have e1 : bits .xor .u32 (r : Int) (xn : Int) = (t : Int) := by rw [xor_u32 _ _ hrl (by omega), ht]
          obtain ⟨i1, hi1⟩ : ∃ i, i = t % 16 := ⟨_, rfl⟩
          have hi1l : i1 < 16 := by omega
          have e2 : bits .and .u32 (t : Int) 15 = (i1 : Int) := by rw [and15_u32 t htl, hi1]
          obtain ⟨q1, hq1⟩ : ∃ q, q = halves 4 i1 := ⟨_, rfl⟩
          have hq1l : q1 < 4294967296 := by rw [hq1]; exact halves_lt _ (by omega)
          have hc1 : wr.cell? ⟨w.heap.size, i1, none⟩ = some (.int .u32 (q1 : Int)) := by rw [block_cell HG.out, tab_get 16 i1 hi1l, if_pos hi1l, hq1]
          obtain ⟨t2, ht2⟩ : ∃ t2, t2 = t / 16 ^^^ q1 := ⟨_, rfl⟩
          have ht2l : t2 < 4294967296 := by rw [ht2]; exact xor_lt32 (by omega) hq1l
          have e3 : bits .xor .u32 ((t : Int) / 16) (q1 : Int) = (t2 : Int) := by rw [show ((t : Int) / 16) = ((t / 16 : Nat) : Int) from rfl, xor_u32 _ _ (by omega) hq1l, ht2]
          obtain ⟨i2, hi2⟩ : ∃ i, i = t2 % 16 := ⟨_, rfl⟩
          have hi2l : i2 < 16 := by omega
          have e4 : bits .and .u32 (t2 : Int) 15 = (i2 : Int) := by rw [and15_u32 t2 ht2l, hi2]
          obtain ⟨q2, hq2⟩ : ∃ q, q = halves 4 i2 := ⟨_, rfl⟩
          have hq2l : q2 < 4294967296 := by rw [hq2]; exact halves_lt _ (by omega)
          have hc2 : wr.cell? ⟨w.heap.size, i2, none⟩ = some (.int .u32 (q2 : Int)) := by rw [block_cell HG.out, tab_get 16 i2 hi2l, if_pos hi2l, hq2]
          have e5 : bits .xor .u32 ((t2 : Int) / 16) (q2 : Int) = ((t2 / 16 ^^^ q2 : Nat) : Int) := by rw [show ((t2 : Int) / 16) = ((t2 / 16 : Nat) : Int) from rfl, xor_u32 _ _ (by omega) hq2l]
          have hfin : raw s' (l.take (j + 1)) = t2 / 16 ^^^ q2 := by rw [HN.out, byteStep_nibbles, Int.toNat_natCast, ← ht, ← hi1, ← hq1, ← ht2, ← hi2, ← hq2]
          have HF := Lib.hid hfin
          clear hfin HN ht hi1 hq1 ht2 hi2 hq2
          go_wp2
          go_round
          case rel => exact ⟨j + 1, by omega, by go_num, by rw [HF.out]⟩
          case measure => simp [intOf]; omega
        · obtain rfl : j = l.length := by omega
          have hrl := raw_lt hs1 hB
          rw [List.take_length]
          have hfin : more s l = raw s' l ^^^ 4294967295 := by unfold more; rw [← HS.out]
          have HF := Lib.hid hfin
          clear hfin
          have hnot2 : bits .xor .u32 IntKind.u32.max (raw s' l : Int) = ((raw s' l ^^^ 4294967295 : Nat) : Int) := by rw [show IntKind.u32.max = ((4294967295 : Nat) : Int) from rfl, xor_u32 _ _ (by decide) hrl, Nat.xor_comm]
          go_wp2
          go_ret
          exact ⟨by rw [HF.out]; rfl, hb⟩

theorem crcsum_any (A : Option Addr) (c : Nat) (l : List Int) (w : World) (h : Rd w A (bys l)) (hl : l.length ≤ 9223372036854775807) (hB : IsB l) :
    Calls Try.prog 41 #[.slice A l.length c] w fun e w' => e = .returned (.int .u32 (more 0 l : Nat)) ∧ Below w.heap.size w w' := by
  go_enter Try.func41, Try.ntmps41
  go_wp2_with (go_at_call 55; refine (crcmore_any 0 (by decide) _ _ _ _ h hl hB).mono ?_; rintro e w' ⟨rfl, hb⟩)
  go_ret
  exact ⟨rfl, hb⟩

theorem crcsum_n (A : Option Addr) (c n : Nat) (l : List Int) (w : World) (hn : l.length = n) (h : Rd w A (bys l)) (hl : n ≤ 9223372036854775807) (hB : IsB l) :
    Calls Try.prog 41 #[.slice A n c] w fun e w' => e = .returned (.int .u32 (more 0 l : Nat)) ∧ Below w.heap.size w w' := by
  subst hn; exact crcsum_any A c l w h hl hB

theorem step_any (c : Nat) (hc : c < 4294967296) (w : World) : Calls Try.prog 61 #[.int .u32 c] w fun e w' => e = .returned (.int .u32 (half c : Nat)) ∧ w = w' := by
  have ha := and1_u32 c hc
  by_cases h : c % 2 = 1
  · have hx := xor_u32 (c / 2) 2197175160 (by omega) (by decide)
    have e : half c = c / 2 ^^^ 2197175160 := by unfold half; rw [if_pos h]; rfl
    have H := Lib.hid e
    have h1 : (bits .and .u32 (c : Int) 1 == 1) = true := by rw [ha, h]; rfl
    have HX := Lib.hid hx
    clear ha h e hx
    go_enter Try.func61, Try.ntmps61
    go_wp2
    go_ret
    exact ⟨by rw [H.out, ← HX.out]; rfl, rfl⟩
  · have e : half c = c / 2 := by unfold half; rw [if_neg h]
    have H := Lib.hid e
    have h1 : (bits .and .u32 (c : Int) 1 == 1) = false := by rw [ha, show c % 2 = 0 by omega]; rfl
    clear ha h e
    go_enter Try.func61, Try.ntmps61
    go_wp2
    go_ret
    exact ⟨by rw [H.out]; rfl, rfl⟩

set_option maxHeartbeats 2000000 in
theorem refmore_any (s : Nat) (hs : s < 4294967296) (A : Option Addr) (c : Nat) (l : List Int) (w : World) (h : Rd w A (bys l)) (hl : l.length ≤ 9223372036854775807) (hB : IsB l) :
    Calls Try.prog 56 #[.int .u32 s, .slice A l.length c] w fun e w' => e = .returned (.int .u32 (more s l : Nat)) ∧ w = w' := by
  have hnot : bits .xor .u32 (s : Int) 4294967295 = ((s ^^^ 4294967295 : Nat) : Int) := by rw [show (4294967295 : Int) = ((4294967295 : Nat) : Int) from rfl, xor_u32 _ _ hs (by decide)]
  obtain ⟨s', hs'⟩ : ∃ s', s' = s ^^^ 4294967295 := ⟨_, rfl⟩
  have hs1 : s' < 4294967296 := by rw [hs']; exact xor_lt32 hs (by decide)
  rw [← hs'] at hnot
  have HS := Lib.hid hs'
  clear hs'
  go_enter Try.func56, Try.ntmps56
  go_wp2_with fail
  go_loop [5, 6] (fun r i => ∃ j : Nat, j ≤ l.length ∧ i = .int .i64 j ∧ r = .int .u32 (raw s' (l.take j) : Nat)) (fun _ i => l.length - (intOf i).toNat)
  case atStart => exact ⟨0, by omega, rfl, rfl⟩
  case round =>
    obtain ⟨j, hj, rfl, rfl⟩ := hrel
    by_cases hlt : j < l.length
    · obtain ⟨b, o, hA, hc⟩ := h.at_ (j := j) (by rw [bys_length]; exact hlt)
      subst hA
      have hx := hB l[j] (List.getElem_mem hlt)
      have hsn := raw_snoc s' (l.take j) l[j]
      have hrl := raw_lt hs1 (l := l.take j) (fun x hx => hB x (List.mem_of_mem_take hx))
      have htk : l.take (j + 1) = l.take j ++ [l[j]] := by rw [List.take_succ_eq_append_getElem hlt]
      rw [← htk] at hsn
      have HN := Lib.hid hsn
      clear hsn htk
      simp only [bys, List.getElem_map] at hc
      generalize l[j] = x at hc hx HN
      generalize raw s' (l.take j) = r at hrl HN ⊢
      obtain ⟨xn, rfl⟩ := Int.eq_ofNat_of_zero_le hx.1
      obtain ⟨t, ht⟩ : ∃ t, t = r ^^^ xn := ⟨_, rfl⟩
      have htl : t < 4294967296 := by rw [ht]; exact xor_lt32 hrl (by omega)
      have e1 : bits .xor .u32 (r : Int) (xn : Int) = (t : Int) := by rw [xor_u32 _ _ hrl (by omega), ht]
      have hfin : raw s' (l.take (j + 1)) = halves 8 t := by rw [HN.out, ht]; rfl
      have HF := Lib.hid hfin
      clear hfin HN ht
      have hdec : decide ((j : Int) < (l.length : Int)) = true := by simp; omega
      go_wp2_with fail
      go_loop [5, 7] (fun c i => ∃ m : Nat, m ≤ 8 ∧ i = .int .i64 m ∧ c = .int .u32 (halves m t : Nat)) (fun _ i => 8 - (intOf i).toNat)
      case atStart => exact ⟨0, by omega, rfl, rfl⟩
      case round =>
        obtain ⟨m, hm, rfl, rfl⟩ := hrel
        by_cases hm4 : m < 8
        · have hq := halves_lt m htl
          go_wp2_with (go_at_call 61; refine (step_any _ hq _).mono ?_; rintro e w' ⟨rfl, rfl⟩)
          go_round
          case rel => exact ⟨m + 1, by omega, by go_num, rfl⟩
          case measure => simp [intOf]; omega
        · obtain rfl : m = 8 := by omega
          go_wp2
          go_round
          case rel => exact ⟨j + 1, by omega, by go_num, by rw [HF.out]⟩
          case measure => simp [intOf]; omega
    · obtain rfl : j = l.length := by omega
      have hrl := raw_lt hs1 hB
      rw [List.take_length]
      have hfin : more s l = raw s' l ^^^ 4294967295 := by unfold more; rw [← HS.out]
      have HF := Lib.hid hfin
      clear hfin
      have hnot2 : bits .xor .u32 (raw s' l : Int) 4294967295 = ((raw s' l ^^^ 4294967295 : Nat) : Int) := by rw [show (4294967295 : Int) = ((4294967295 : Nat) : Int) from rfl, xor_u32 _ _ hrl (by decide)]
      go_wp2
      go_ret
      exact ⟨by rw [HF.out]; rfl, rfl⟩

theorem refsum_any (A : Option Addr) (c : Nat) (l : List Int) (w : World) (h : Rd w A (bys l)) (hl : l.length ≤ 9223372036854775807) (hB : IsB l) :
    Calls Try.prog 45 #[.slice A l.length c] w fun e w' => e = .returned (.int .u32 (more 0 l : Nat)) ∧ w = w' := by
  go_enter Try.func45, Try.ntmps45
  go_wp2_with (go_at_call 56; refine (refmore_any 0 (by decide) _ _ _ _ h hl hB).mono ?_; rintro e w' ⟨rfl, rfl⟩)
  go_ret
  exact ⟨rfl, rfl⟩
theorem refsum_n (A : Option Addr) (c n : Nat) (l : List Int) (w : World) (hn : l.length = n) (h : Rd w A (bys l)) (hl : n ≤ 9223372036854775807) (hB : IsB l) :
    Calls Try.prog 45 #[.slice A n c] w fun e w' => e = .returned (.int .u32 (more 0 l : Nat)) ∧ w = w' := by
  subst hn; exact refsum_any A c l w h hl hB
end Go.Proofs.Ytdgciajdnmgcnaa
