/- Contracts: sector.Known, sector.Seal; whatever is handed in. -/
import Derived.Test.YtdgciajdnmgcnaaCrc
import Derived.StillTailTactics
import Derived.Deep.RegionWith
namespace Go.Proofs.Ytdgciajdnmgcnaa
open Go.RowKit

def knownB (k : Int) : Bool := k == 23 || k == 43 || k == 77 || k == 142 || k == 113 || k == 178
set_option maxHeartbeats 1000000 in
theorem known_any (k : Int) (w : World) : Calls Try.prog 39 #[.int .u8 k] w fun e w' => e = .returned (.bool (knownB k)) ∧ w = w' := by
  by_cases h1 : k = 23
  · subst h1; go_enter Try.func39, Try.ntmps39; go_wp2; go_ret; exact ⟨rfl, rfl⟩
  by_cases h2 : k = 43
  · subst h2; go_enter Try.func39, Try.ntmps39; go_wp2; go_ret; exact ⟨rfl, rfl⟩
  by_cases h3 : k = 77
  · subst h3; go_enter Try.func39, Try.ntmps39; go_wp2; go_ret; exact ⟨rfl, rfl⟩
  by_cases h4 : k = 142
  · subst h4; go_enter Try.func39, Try.ntmps39; go_wp2; go_ret; exact ⟨rfl, rfl⟩
  by_cases h5 : k = 113
  · subst h5; go_enter Try.func39, Try.ntmps39; go_wp2; go_ret; exact ⟨rfl, rfl⟩
  by_cases h6 : k = 178
  · subst h6; go_enter Try.func39, Try.ntmps39; go_wp2; go_ret; exact ⟨rfl, rfl⟩
  have e : knownB k = false := by simp [knownB, h1, h2, h3, h4, h5, h6]
  have H := Lib.hid e
  have e1 : (k == 23) = false := by simpa using h1
  have e2 : (k == 43) = false := by simpa using h2
  have e3 : (k == 77) = false := by simpa using h3
  have e4 : (k == 142) = false := by simpa using h4
  have e5 : (k == 113) = false := by simpa using h5
  have e6 : (k == 178) = false := by simpa using h6
  clear e h1 h2 h3 h4 h5 h6
  go_enter Try.func39, Try.ntmps39; go_wp2; go_ret; exact ⟨by rw [H.out]; rfl, rfl⟩

theorem zero512 : (Try.prog.info? 63).map (fun i => i.zero.map Value.cells) = some (some (zeros 512).toArray) := by kernel_rfl
def sealHead (kind turn : Int) (l : List Int) : List Int := [kind, 0] ++ le 2 l.length ++ le 8 turn ++ l ++ List.replicate (496 - l.length) 0
def sealed (kind turn : Int) (l : List Int) : List Int := sealHead kind turn l ++ le 4 (more 0 (sealHead kind turn l) : Nat)

theorem sealHead_length (kind turn : Int) {l : List Int} (h : l.length ≤ 496) : (sealHead kind turn l).length = 508 := by
  simp [sealHead, le_length]; omega
theorem le_isB (n : Nat) (v : Int) : IsB (le n v) := by
  induction n generalizing v with
  | zero => intro x hx; simp [le] at hx
  | succ n ih =>
    intro x hx
    simp only [le, List.mem_cons] at hx
    rcases hx with rfl | hx
    · omega
    · exact ih _ x hx
theorem IsB.append {l m : List Int} (h : IsB l) (k : IsB m) : IsB (l ++ m) := by
  intro x hx
  rcases List.mem_append.1 hx with hx | hx
  · exact h x hx
  · exact k x hx
theorem isB_zeros (n : Nat) : IsB (List.replicate n 0) := by
  intro x hx; obtain rfl := List.eq_of_mem_replicate hx; omega
theorem sealHead_isB {kind turn : Int} {l : List Int} (hk : 0 ≤ kind ∧ kind < 256) (h : IsB l) : IsB (sealHead kind turn l) := by
  unfold sealHead
  refine IsB.append (IsB.append (IsB.append (IsB.append ?_ (le_isB _ _)) (le_isB _ _)) h) (isB_zeros _)
  intro x hx; simp at hx; omega
/-- What the four stores into the array come to. -/
theorem seal_steps (kind turn : Int) {l : List Int} (h : l.length ≤ 496) :
    splice (splice (splice ((zeros 512).set 0 (Value.int .u8 kind)) 2 (bys (le 2 l.length))) 4 (bys (le 8 turn))) 12 (bys l) = bys (sealHead kind turn l) ++ zeros 4 := by
  have e1 : (zeros 512).set 0 (Value.int .u8 kind) = [Value.int .u8 kind, .int .u8 0] ++ (zeros 2 ++ (zeros 8 ++ (zeros l.length ++ zeros (500 - l.length)))) := by
    rw [← zeros_add l.length, show l.length + (500 - l.length) = 500 by omega, ← zeros_add, ← zeros_add]; rfl
  have e2 : bys (sealHead kind turn l) ++ zeros 4 = [Value.int .u8 kind, .int .u8 0] ++ (bys (le 2 l.length) ++ (bys (le 8 turn) ++ (bys l ++ zeros (500 - l.length)))) := by
    have hz : zeros (500 - l.length) = bys (List.replicate (496 - l.length) 0) ++ zeros 4 := by
      rw [show 500 - l.length = (496 - l.length) + 4 by omega, zeros_add]; simp [bys, zeros]
    rw [hz]
    simp [sealHead, bys]
  rw [e1, e2, splice_mid _ _ _ 2 _ rfl (by rw [bys_length, le_length, zeros_length])]
  rw [← List.append_assoc, splice_mid _ _ _ 4 _ (by simp [bys_length, le_length]) (by rw [bys_length, le_length, zeros_length])]
  rw [← List.append_assoc (_ ++ _), splice_mid _ _ _ 12 _ (by simp [bys_length, le_length]) (by rw [bys_length, zeros_length])]
  simp only [List.append_assoc]
theorem seal_last (kind turn : Int) {l : List Int} (h : l.length ≤ 496) : splice (bys (sealHead kind turn l) ++ zeros 4) 508 (bys (le 4 (more 0 (sealHead kind turn l) : Nat))) = bys (sealed kind turn l) := by
  have := splice_mid (bys (sealHead kind turn l)) (zeros 4) [] 508 (bys (le 4 (more 0 (sealHead kind turn l) : Nat))) (by rw [bys_length, sealHead_length kind turn h]) (by rw [bys_length, le_length, zeros_length])
  rw [List.append_nil, List.append_nil] at this
  rw [this, sealed, bys_append]

set_option maxRecDepth 100000 in
set_option maxHeartbeats 4000000 in
theorem seal_ok (kind turn : Int) (A : Option Addr) (c : Nat) (l : List Int) (w : World) (h : Rd w A (bys l)) (hk : knownB kind = true) (hl : l.length ≤ 496) (hB : IsB l) (hk0 : 0 ≤ kind ∧ kind < 256) (ht0 : 0 ≤ turn) (ht1 : turn < 18446744073709551616) :
    Calls Try.prog 26 #[.int .u8 kind, .int .u64 turn, .slice A l.length c] w fun e w' => ∃ g, e = .returned (.tuple #[.slice (some ⟨g, 0, none⟩) 512 512, .int .i64 0]) ∧ w.heap.size ≤ g ∧
      w'.heap[g]? = some (.cells (bys (sealed kind turn l)).toArray 63 (0, 0)) ∧ Below w.heap.size w w' := by
  have HK := Lib.hid hk
  clear hk
  go_enter Try.func26, Try.ntmps26
  go_wp2_with (first
    | (go_at_call 39; refine (known_any _ _).mono ?_; rintro e w' ⟨rfl, rfl⟩; rw [HK.out])
    | (with_reducible refine wpList_alloc_abs rfl 63 rfl (zeros 512) zero512 ?_))
  intro w1 hg1 hb1 hsz1
  have hc1 : w1.cell? ⟨w.heap.size, 0, none⟩ = some (.int .u8 0) := by rw [block_cell hg1.out]; rfl
  have hf1 := block_free hg1.out 0
  go_wp2_with fail
  refine (put_in w.heap.size _ 63 2 2 l.length w.heap.size w _ (hb1.setCell (p := ⟨w.heap.size, 0, none⟩) (Nat.le_refl _) _) (Nat.le_refl _) (by simp [World.setCell]; have := hsz1.out; omega) (block_setCell hg1.out 0 _) (by simp [zeros_length]) (by decide) (by decide) (by decide) (by omega) (by omega)).mono ?_
  rintro e w2 ⟨rfl, hg2, hb2⟩
  have HG2 := Lib.hid hg2
  clear hg2 hc1 hf1 hb1 hg1
  go_wp2_with fail
  refine (put_in w.heap.size _ 63 4 8 turn w.heap.size w _ hb2 (Nat.le_refl _) hb2.size HG2.out (by simp [length_splice, bys, le_length, zeros_length]) (by decide) (by decide) (by decide) ht0 (by omega)).mono ?_
  rintro e w3 ⟨rfl, hg3, hb3⟩
  obtain ⟨L3, hL3⟩ : ∃ L, L = splice (splice ((zeros 512).set 0 (.int .u8 kind)) 2 (bys (le 2 l.length))) 4 (bys (le 8 turn)) := ⟨_, rfl⟩
  rw [← hL3] at hg3
  have hl3 : L3.length = 512 := by rw [hL3]; simp [length_splice, bys, le_length, zeros_length]
  have HG3 := Lib.hid hg3
  have HL3 := Lib.hid hL3
  clear hg3 HG2 hb2 hsz1 hL3
  go_wp2_with (with_reducible refine wpList_copy_splice rfl (.tmp 25) (.tmp 26) 23 23 rfl 5 Try.underlying23 sizeU8 _ _ _ _ _ _ rfl rfl w.heap.size 12 L3 63 HG3.out (bys l) ?hn (fun _ => ⟨rfl, ?hp⟩) ?hf (bys_one _) w.heap.size w hb3 (Nat.le_refl _) ?_)
  case hn => rw [bys_length]; show l.length = min l.length 496; omega
  case hp =>
    obtain ⟨b, o, rfl⟩ := h.some_of (by rintro e; simp_all)
    exact ⟨_, rfl, (h.kept hb3).addr⟩
  case hf => rw [bys_length]; omega
  intro w4 hg4 hb4
  have hcur : splice L3 12 (bys l) = bys (sealHead kind turn l) ++ zeros 4 := by rw [HL3.out]; exact seal_steps kind turn hl
  have HG4 := Lib.hid (show w4.heap[w.heap.size]? = some (.cells (bys (sealHead kind turn l) ++ zeros 4).toArray 63 (0, 0)) by rw [← hcur]; exact hg4.out)
  have hlen := Lib.hid (sealHead_length kind turn hl)
  have hisB := sealHead_isB (turn := turn) hk0 hB
  have hml := more_lt (s := 0) (by decide) hisB
  have hrd : Rd w4.drew (some ⟨w.heap.size, 0, none⟩) (bys (sealHead kind turn l)) := by
    have := (rd_block HG4.out).take 508
    rwa [List.take_append_of_le_length (by rw [bys_length, hlen.out]; omega), List.take_of_length_le (by rw [bys_length, hlen.out]; omega)] at this
  have C1 := Lib.hid (crcsum_n (some ⟨w.heap.size, 0, none⟩) 512 508 (sealHead kind turn l) w4.drew hlen.out hrd (by decide) hisB)
  have C2 : Hid (∀ w5, Below w4.drew.heap.size w4.drew w5 → Calls Try.prog 40 #[.slice (some ⟨w.heap.size, 0, none⟩) 512 512, .int .i64 508, .int .i64 4, .int .u64 (more 0 (sealHead kind turn l) : Nat)] w5 fun e w' =>
      e = .returned (.tuple #[]) ∧ w'.heap[w.heap.size]? = some (.cells (splice (bys (sealHead kind turn l) ++ zeros 4) 508 (bys (le 4 (more 0 (sealHead kind turn l) : Nat)))).toArray 63 (0, 0)) ∧ Below w.heap.size w w') :=
    fun w5 hb5 => put_in w.heap.size (bys (sealHead kind turn l) ++ zeros 4) 63 508 4 (more 0 (sealHead kind turn l) : Nat) w.heap.size w w5 (hb4.drew.trans (hb5.mono hb4.size)) (Nat.le_refl _) (Nat.le_trans hb4.size hb5.size) ((hb5.block _ (Array.getElem?_eq_some_iff.1 HG4.out).1).trans HG4.out) (by rw [List.length_append, bys_length, hlen.out, zeros_length]) (by decide) (by decide) (by decide) (by omega) (by omega)
  clear hcur HG3 HL3 hl3 hb3 hg4 hrd
  have hwr := u64w (n := more 0 (sealHead kind turn l)) (by omega)
  go_wp2_with fail
  go_region_with (first
    | (go_at_call 41; (with_reducible refine (C1.out).mono ?_); rintro e w5 ⟨rfl, hb5⟩)
    | (go_at_call 40; (with_reducible refine (C2.out _ hb5).mono ?_); rintro e w6 ⟨rfl, hg6, hb6⟩))
  all_goals go_wp2
  all_goals go_ret2
  all_goals exact ⟨_, rfl, Nat.le_refl _, by rw [← seal_last kind turn hl]; assumption, by assumption⟩

theorem seal_okn (kind turn : Int) (A : Option Addr) (c n : Nat) (l : List Int) (w : World) (hn : l.length = n) (h : Rd w A (bys l)) (hk : knownB kind = true) (hl : n ≤ 496) (hB : IsB l) (hk0 : 0 ≤ kind ∧ kind < 256) (ht0 : 0 ≤ turn) (ht1 : turn < 18446744073709551616) :
    Calls Try.prog 26 #[.int .u8 kind, .int .u64 turn, .slice A n c] w fun e w' => ∃ g, e = .returned (.tuple #[.slice (some ⟨g, 0, none⟩) 512 512, .int .i64 0]) ∧ w.heap.size ≤ g ∧
      w'.heap[g]? = some (.cells (bys (sealed kind turn l)).toArray 63 (0, 0)) ∧ Below w.heap.size w w' := by
  subst hn; exact seal_ok kind turn A c l w h hk hl hB hk0 ht0 ht1
theorem seal_unk (kind turn : Int) (A : Option Addr) (n c : Nat) (w : World) (hk : knownB kind = false) :
    Calls Try.prog 26 #[.int .u8 kind, .int .u64 turn, .slice A n c] w fun e w' => e = .returned (.tuple #[.slice none 0 0, .int .i64 1]) ∧ w = w' := by
  have HK := Lib.hid hk
  clear hk
  go_enter Try.func26, Try.ntmps26
  go_wp2_with (go_at_call 39; refine (known_any _ _).mono ?_; rintro e w' ⟨rfl, rfl⟩; rw [HK.out])
  go_ret2
  exact ⟨rfl, rfl⟩
theorem seal_large (kind turn : Int) (A : Option Addr) (n c : Nat) (w : World) (hk : knownB kind = true) (hl : 496 < n) :
    Calls Try.prog 26 #[.int .u8 kind, .int .u64 turn, .slice A n c] w fun e w' => e = .returned (.tuple #[.slice none 0 0, .int .i64 4]) ∧ w = w' := by
  have HK := Lib.hid hk
  clear hk
  go_enter Try.func26, Try.ntmps26
  go_wp2_with (go_at_call 39; refine (known_any _ _).mono ?_; rintro e w' ⟨rfl, rfl⟩; rw [HK.out])
  go_ret2
  exact ⟨rfl, rfl⟩
theorem seal_err (kind turn : Int) (A : Option Addr) (n c : Nat) (w : World) (h : knownB kind = false ∨ 496 < n) :
    Calls Try.prog 26 #[.int .u8 kind, .int .u64 turn, .slice A n c] w fun e w' => ∃ er, e = .returned (.tuple #[.slice none 0 0, .int .i64 er]) ∧ (er != 0) = true ∧ w = w' := by
  cases hk : knownB kind with
  | false => exact (seal_unk kind turn A n c w hk).mono fun e w' h => ⟨1, h.1, rfl, h.2⟩
  | true => exact (seal_large kind turn A n c w hk (h.resolve_left (by simp [hk]))).mono fun e w' h => ⟨4, h.1, rfl, h.2⟩
theorem seal_tot (kind turn : Int) (A : Option Addr) (n c : Nat) (l : List Int) (w : World) (hn : l.length = n) (h : Rd w A (bys l)) (hB : IsB l) (hk0 : 0 ≤ kind ∧ kind < 256) (ht0 : 0 ≤ turn) (ht1 : turn < 18446744073709551616) :
    Calls Try.prog 26 #[.int .u8 kind, .int .u64 turn, .slice A n c] w fun e w' => ∃ v er, e = .returned (.tuple #[v, .int .i64 er]) ∧ Below w.heap.size w w' := by
  by_cases h1 : knownB kind = false ∨ 496 < n
  · exact (seal_err kind turn A n c w h1).mono fun e w' ⟨er, he, _, hw⟩ => ⟨_, er, he, hw ▸ Below.refl _ _⟩
  · have h2 : knownB kind = true := by cases hk : knownB kind with
      | true => rfl
      | false => exact absurd (.inl hk) h1
    exact (seal_okn kind turn A c n l w hn h h2 (by omega) hB hk0 ht0 ht1).mono fun e w' ⟨g, he, _, _, hb⟩ => ⟨_, 0, he, hb⟩
/-! Two sealed sectors. -/
theorem le_inj (n : Nat) : ∀ (v v' : Int), 0 ≤ v → 0 ≤ v' → v < 256 ^ n → v' < 256 ^ n → le n v = le n v' → v = v' := by
  induction n with
  | zero => intro v v' h1 h2 h3 h4 _; simp at h3 h4; omega
  | succ n ih =>
    intro v v' h1 h2 h3 h4 h
    simp only [le, List.cons.injEq] at h
    rw [Int.pow_succ] at h3 h4
    have := ih (v / 256) (v' / 256) (by omega) (by omega) (by omega) (by omega) h.2
    omega
theorem append_inj_len {α : Type} {a b c d : List α} (h : a ++ b = c ++ d) (hl : a.length = c.length) : a = c ∧ b = d := List.append_inj h hl
theorem sealed_length (kind turn : Int) {l : List Int} (h : l.length ≤ 496) : (sealed kind turn l).length = 512 := by
  rw [sealed, List.length_append, sealHead_length kind turn h, le_length]
theorem sealed_isB {kind turn : Int} {l : List Int} (hk : 0 ≤ kind ∧ kind < 256) (h : IsB l) : IsB (sealed kind turn l) := (sealHead_isB hk h).append (le_isB _ _)
theorem sealed_inj {k k' t t' : Int} {l l' : List Int} (hl : l.length ≤ 496) (hl' : l'.length ≤ 496) (ht0 : 0 ≤ t) (ht : t < 18446744073709551616) (ht0' : 0 ≤ t') (ht' : t' < 18446744073709551616)
    (h : sealed k t l = sealed k' t' l') : k = k' ∧ t = t' ∧ l = l' := by
  have h1 := (append_inj_len h (by rw [sealHead_length _ _ hl, sealHead_length _ _ hl'])).1
  unfold sealHead at h1
  simp only [List.append_assoc] at h1
  obtain ⟨e1, h2⟩ := append_inj_len h1 rfl
  obtain ⟨e2, h3⟩ := append_inj_len h2 (by rw [le_length, le_length])
  obtain ⟨e3, h4⟩ := append_inj_len h3 (by rw [le_length, le_length])
  have n1 := le_inj 2 _ _ (by omega) (by omega) (by omega) (by omega) e2
  obtain ⟨e4, _⟩ := append_inj_len h4 (by omega)
  exact ⟨by simpa using e1, le_inj 8 _ _ ht0 ht0' (by omega) (by omega) e3, e4⟩
end Go.Proofs.Ytdgciajdnmgcnaa
