/- Contracts: sector.Open, sector.Good; whatever bytes are handed in. -/
import Derived.Test.YtdgciajdnmgcnaaGet
import Derived.Test.YtdgciajdnmgcnaaSeal
import Derived.Deep.RegionHeld3
namespace Go.Proofs.Ytdgciajdnmgcnaa
open Go.RowKit

def bat (l : List Int) (i : Nat) : Int := l.getD i 0
/-- What bytes are as a sector: kind, turn, payload, error. -/
structure Sec where
  kind : Int
  turn : Int
  pay : List Int
  err : Int
def secForm (l : List Int) : Bool := knownB (bat l 0) && bat l 1 == 0 && decide (unle ((l.drop 2).take 2) ≤ 496) && ((l.drop (12 + (unle ((l.drop 2).take 2)).toNat)).take (496 - (unle ((l.drop 2).take 2)).toNat)).all (· == 0)
def sec (l : List Int) : Sec :=
  if l.length ≠ 512 then ⟨0, 0, [], 1⟩
  else if l.all (· == 0) = true then ⟨0, 0, [], 0⟩
  else if unle ((l.drop 508).take 4) ≠ (more 0 (l.take 508) : Nat) then ⟨0, 0, [], 30⟩
  else if secForm l = false then ⟨0, 0, [], 11⟩
  else ⟨bat l 0, unle ((l.drop 4).take 8), (l.drop 12).take (unle ((l.drop 2).take 2)).toNat, 0⟩

/-- The answer of Open: a sector by value, and an error. -/
def secAt (e : Ending) (base : Nat) (w' : World) (s : Sec) : Prop :=
  ∃ v, e = .returned (.tuple #[.agg #[.int .u8 s.kind, .int .u64 s.turn, v], .int .i64 s.err]) ∧ w'.ownsRow base 5 1 v s.pay.length (bys s.pay)

set_option maxHeartbeats 2000000 in
theorem open_len (A : Option Addr) (n c : Nat) (l : List Int) (w : World) (hn : l.length = n) (h : n ≠ 512) :
    Calls Try.prog 31 #[.slice A n c] w fun e w' => secAt e w.heap.size w' (sec l) ∧ Below w.heap.size w w' := by
  have hs : sec l = ⟨0, 0, [], 1⟩ := by unfold sec; rw [if_pos (by omega)]
  have HS := Lib.hid hs
  have h2 : ((n : Int) != 512) = true := by rw [bne_iff_ne]; omega
  clear hs h hn
  go_enter Try.func31, Try.ntmps31
  go_wp2
  refine bodyPost_ret (v := .tuple #[.agg #[.int .u8 0, .int .u64 0, .slice none 0 0], .int .i64 1]) (by simp [results, Try.results31, go_sem]) rfl ⟨⟨.slice none 0 0, by rw [HS.out], by rw [HS.out]; exact World.ownsRow_nil _ _ _ _⟩, ?_⟩
  exact (Below.refl _ _).alloc (Nat.le_refl _) _

/-- The variable of the struct result, still blank. -/
def ZB (w0 w : World) : Prop := w.heap[w0.heap.size]? = some (.cells [Value.int .u8 0, .int .u64 0, .slice none 0 0].toArray 56 (0, 0)) ∧ Below w0.heap.size w0 w
theorem ZB.init (w : World) : ZB w (w.alloc (.cells #[.int .u8 0, .int .u64 0, .slice none 0 0] 56)) := ⟨heap_alloc_new _ _, (Below.refl _ _).alloc (Nat.le_refl _) _⟩
theorem ZB.step {w0 w w' : World} (h : ZB w0 w) (hb : Below w.heap.size w w') : ZB w0 w' := ⟨(hb.block _ (Array.getElem?_eq_some_iff.1 h.1).1).trans h.1, h.2.trans (hb.mono h.2.size)⟩
theorem ZB.drewN {w0 w : World} (h : ZB w0 w) (n : Nat) : ZB w0 (w.drewN n) := ⟨h.1, h.2.trans (below_drewN _ _)⟩
theorem ZB.cells {w0 w : World} (h : ZB w0 w) : w.cell? ⟨w0.heap.size, 0, none⟩ = some (.int .u8 0) ∧ w.cell? ⟨w0.heap.size, 1, none⟩ = some (.int .u64 0) ∧ w.cell? ⟨w0.heap.size, 2, none⟩ = some (.slice none 0 0) ∧
    w.frozen? ⟨w0.heap.size, 0, none⟩ = false ∧ w.frozen? ⟨w0.heap.size, 1, none⟩ = false ∧ w.frozen? ⟨w0.heap.size, 2, none⟩ = false :=
  ⟨block_cell h.1 0, block_cell h.1 1, block_cell h.1 2, block_free h.1 0, block_free h.1 1, block_free h.1 2⟩
/-- Three stores into that variable. -/
theorem ZB.stored {w0 w : World} (h : ZB w0 w) (x y z : Value) : Below w0.heap.size w0 (((w.setCell ⟨w0.heap.size, 0, none⟩ x).setCell ⟨w0.heap.size, 1, none⟩ y).setCell ⟨w0.heap.size, 2, none⟩ z) :=
  ((h.2.setCell (p := ⟨w0.heap.size, 0, none⟩) (Nat.le_refl _) _).setCell (p := ⟨w0.heap.size, 1, none⟩) (Nat.le_refl _) _).setCell (p := ⟨w0.heap.size, 2, none⟩) (Nat.le_refl _) _

set_option maxHeartbeats 2000000 in
theorem open_zero (b o c : Nat) (l : List Int) (w : World) (hn : l.length = 512) (h : Rd w (some ⟨b, o, none⟩) (bys l)) (hz : l.all (· == 0) = true) :
    Calls Try.prog 31 #[.slice (some ⟨b, o, none⟩) 512 c] w fun e w' => secAt e w.heap.size w' (sec l) ∧ Below w.heap.size w w' := by
  have hs : sec l = ⟨0, 0, [], 0⟩ := by unfold sec; rw [if_neg (by omega), if_pos hz]
  have HS := Lib.hid hs
  have C1 := Lib.hid (fun (w1 : World) (hb : Below w.heap.size w w1) => zero_any (some ⟨b, o, none⟩) 512 c l w1 hn (h.kept hb) (by decide))
  have HZ := Lib.hid hz
  have hb0 := Lib.hid (ZB.init w)
  clear hs h hn hz
  go_enter Try.func31, Try.ntmps31
  go_wp2_with fail
  refine (C1.out _ hb0.out.2).mono ?_
  rintro e w1 ⟨rfl, hb1⟩
  rw [HZ.out]
  have HB := Lib.hid (hb0.out.step hb1)
  obtain ⟨k0, k1, k2, f0, f1, f2⟩ := HB.out.cells
  clear hb1
  go_wp2
  refine bodyPost_ret (v := .tuple #[.agg #[.int .u8 0, .int .u64 0, .slice none 0 0], .int .i64 0]) (by simp [results, Try.results31, go_sem, k0, k1, k2]) rfl ⟨⟨.slice none 0 0, by rw [HS.out], by rw [HS.out]; exact World.ownsRow_nil _ _ _ _⟩, ?_⟩
  exact HB.out.stored _ _ _

theorem isB_take {l : List Int} (h : IsB l) (n : Nat) : IsB (l.take n) := fun x hx => h x (List.mem_of_mem_take hx)
theorem isB_drop {l : List Int} (h : IsB l) (n : Nat) : IsB (l.drop n) := fun x hx => h x (List.mem_of_mem_drop hx)

set_option maxHeartbeats 2000000 in
theorem open_sum (b o c : Nat) (l : List Int) (w : World) (hn : l.length = 512) (hcc : 512 ≤ c) (h : Rd w (some ⟨b, o, none⟩) (bys l)) (hI : IsB l) (hz : l.all (· == 0) = false) (hsum : unle ((l.drop 508).take 4) ≠ (more 0 (l.take 508) : Nat)) :
    Calls Try.prog 31 #[.slice (some ⟨b, o, none⟩) 512 c] w fun e w' => secAt e w.heap.size w' (sec l) ∧ Below w.heap.size w w' := by
  have hs : sec l = ⟨0, 0, [], 30⟩ := by unfold sec; rw [if_neg (by omega), if_neg (by rw [hz]; simp), if_pos hsum]
  have HS := Lib.hid hs
  have C1 := Lib.hid (fun (w1 : World) (hb : Below w.heap.size w w1) => zero_any (some ⟨b, o, none⟩) 512 c l w1 hn (h.kept hb) (by decide))
  have C2 := Lib.hid (fun (w1 : World) (hb : Below w.heap.size w w1) => get_ok b o c l 508 4 512 w1 hn (h.kept hb) hI (by decide) (by decide) (by decide) (by decide) hcc)
  have C3 := Lib.hid (fun (w1 : World) (hb : Below w.heap.size w w1) => crcsum_n (some ⟨b, o, none⟩) c 508 (l.take 508) w1 (by rw [List.length_take]; omega) (by rw [bys_take]; exact (h.kept hb).take 508) (by decide) (isB_take hI 508))
  have HZ := Lib.hid hz
  have hb0 := Lib.hid (ZB.init w)
  have hneq : (unle ((l.drop 508).take 4) != ((more 0 (l.take 508) : Nat) : Int)) = true := bne_iff_ne.2 hsum
  have hml := more_lt (s := 0) (by decide) (isB_take hI 508)
  have hcut := run_cut_h (P := Try.prog) .i64 Try.underlying23 sizeU8 (some ⟨b, o, none⟩) 512 c 508 508 rfl (by omega)
  clear hs h hn hz hsum
  go_enter Try.func31, Try.ntmps31
  go_wp2_with fail
  refine (C1.out _ hb0.out.2).mono ?_
  rintro e w1 ⟨rfl, hb1⟩
  rw [HZ.out]
  have HB1 := Lib.hid (hb0.out.step hb1)
  clear hb1
  go_wp2_with fail
  refine (C2.out _ HB1.out.2).mono ?_
  rintro e w2 ⟨rfl, hb2⟩
  have HB2 := Lib.hid (HB1.out.step hb2)
  clear hb2
  go_wp2_with fail
  refine (C3.out _ HB2.out.2).mono ?_
  rintro e w3 ⟨rfl, hb3⟩
  have HB := Lib.hid (HB2.out.step hb3)
  obtain ⟨k0, k1, k2, f0, f1, f2⟩ := HB.out.cells
  clear hb3
  go_wp2
  refine bodyPost_ret (v := .tuple #[.agg #[.int .u8 0, .int .u64 0, .slice none 0 0], .int .i64 30]) (by simp [results, Try.results31, go_sem, k0, k1, k2]) rfl ⟨⟨.slice none 0 0, by rw [HS.out], by rw [HS.out]; exact World.ownsRow_nil _ _ _ _⟩, ?_⟩
  exact HB.out.stored _ _ _

theorem cell_3set {w : World} {b B : Nat} (h : b < B) (o : Nat) {o0 o1 o2 : Nat} {x y z : Value} : (((w.setCell ⟨B, o0, none⟩ x).setCell ⟨B, o1, none⟩ y).setCell ⟨B, o2, none⟩ z).cell? ⟨b, o, none⟩ = w.cell? ⟨b, o, none⟩ := by
  apply World.cell?_of_block
  show _ = w.heap[b]?
  rw [Below.heap_setCell _ _ _ _ (by simp; omega), Below.heap_setCell _ _ _ _ (by simp; omega), Below.heap_setCell _ _ _ _ (by simp; omega)]
theorem open_cell {w w1 : World} {b o i : Nat} {l : List Int} (hn : l.length = 512) (h : Rd w (some ⟨b, o, none⟩) (bys l)) (hb : Below w.heap.size w w1) (hi : i < 512) : w1.cell? ⟨b, o + i, none⟩ = some (.int .u8 (bat l i)) := by
  obtain ⟨b', o', h1, hc⟩ := (h.kept hb).at_ (j := i) (by rw [bys_length]; omega)
  obtain ⟨rfl, rfl⟩ : b = b' ∧ o = o' := by simpa using h1
  rw [hc]
  simp [bys, bat, List.getD_eq_getElem?_getD, List.getElem?_eq_getElem (show i < l.length by omega)]

set_option maxHeartbeats 2000000 in
theorem open_form1 (b o c : Nat) (l : List Int) (w : World) (hn : l.length = 512) (hcc : 512 ≤ c) (h : Rd w (some ⟨b, o, none⟩) (bys l)) (hI : IsB l) (hz : l.all (· == 0) = false) (hsum : unle ((l.drop 508).take 4) = (more 0 (l.take 508) : Nat)) (hkn : knownB (bat l 0) = false) :
    Calls Try.prog 31 #[.slice (some ⟨b, o, none⟩) 512 c] w fun e w' => secAt e w.heap.size w' (sec l) ∧ Below w.heap.size w w' := by
  have hs : sec l = ⟨0, 0, [], 11⟩ := by
    unfold sec; rw [if_neg (by omega), if_neg (by rw [hz]; simp), if_neg (by simp [hsum]), if_pos]
    simp [secForm, hkn]
  have HS := Lib.hid hs
  have hr := unle_range (isB_take (isB_drop hI 2) 2)
  have hl2 : ((l.drop 2).take 2).length = 2 := by simp; omega
  rw [hl2] at hr
  obtain ⟨N, hN⟩ := Int.eq_ofNat_of_zero_le hr.1
  have hN64 : N < 65536 := by omega
  have hN := Lib.hid hN
  have C1 := Lib.hid (fun (w1 : World) (hb : Below w.heap.size w w1) => zero_any (some ⟨b, o, none⟩) 512 c l w1 hn (h.kept hb) (by decide))
  have C2 := Lib.hid (fun (w1 : World) (hb : Below w.heap.size w w1) => get_ok b o c l 508 4 512 w1 hn (h.kept hb) hI (by decide) (by decide) (by decide) (by decide) hcc)
  have C3 := Lib.hid (fun (w1 : World) (hb : Below w.heap.size w w1) => crcsum_n (some ⟨b, o, none⟩) c 508 (l.take 508) w1 (by rw [List.length_take]; omega) (by rw [bys_take]; exact (h.kept hb).take 508) (by decide) (isB_take hI 508))
  have C4 := Lib.hid (fun (w1 : World) (hb : Below w.heap.size w w1) => get_ok b o c l 2 2 512 w1 hn (h.kept hb) hI (by decide) (by decide) (by decide) (by decide) hcc)
  have C5 := Lib.hid (fun (k : Int) (w1 : World) => known_any k w1)
  have HK := Lib.hid (fun (i : Nat) (hi : i < 512) (w1 : World) (hb : Below w.heap.size w w1) => open_cell hn h hb hi)
  have HZ := Lib.hid hz
  have hb0 := Lib.hid (ZB.init w)
  have hneq : (unle ((l.drop 508).take 4) != ((more 0 (l.take 508) : Nat) : Int)) = false := by rw [hsum]; simp
  have hml := more_lt (s := 0) (by decide) (isB_take hI 508)
  have hcut := run_cut_h (P := Try.prog) .i64 Try.underlying23 sizeU8 (some ⟨b, o, none⟩) 512 c 508 508 rfl (by omega)
  have HKN := Lib.hid hkn
  clear hs h hn hz hsum hkn hr hl2
  go_enter Try.func31, Try.ntmps31
  go_wp2_with fail
  refine (C1.out _ hb0.out.2).mono ?_
  rintro e w1 ⟨rfl, hb1⟩
  rw [HZ.out]
  have HB1 := Lib.hid (hb0.out.step hb1)
  clear hb1
  go_wp2_with fail
  refine (C2.out _ HB1.out.2).mono ?_
  rintro e w2 ⟨rfl, hb2⟩
  have HB2 := Lib.hid (HB1.out.step hb2)
  clear hb2
  go_wp2_with fail
  refine (C3.out _ HB2.out.2).mono ?_
  rintro e w3 ⟨rfl, hb3⟩
  have HB3 := Lib.hid (HB2.out.step hb3)
  clear hb3
  go_wp2_with fail
  refine (C4.out _ HB3.out.2).mono ?_
  rintro e w4 ⟨rfl, hb4⟩
  have HB4 := Lib.hid (HB3.out.step hb4)
  clear hb4
  have hc0 := HK.out 0 (by decide) _ HB4.out.2
  have hc1 := HK.out 1 (by decide) _ HB4.out.2
  simp only [Nat.add_zero] at hc0
  rw [hN.out]
  go_wp2_with fail
  refine (C5.out _ _).mono ?_
  rintro e w5 ⟨rfl, rfl⟩
  rw [HKN.out]
  have HB := HB4
  obtain ⟨k0, k1, k2, f0, f1, f2⟩ := HB.out.cells
  go_wp2
  refine bodyPost_ret (v := .tuple #[.agg #[.int .u8 0, .int .u64 0, .slice none 0 0], .int .i64 11]) (by simp [results, Try.results31, go_sem, k0, k1, k2]) rfl ⟨⟨.slice none 0 0, by rw [HS.out], by rw [HS.out]; exact World.ownsRow_nil _ _ _ _⟩, ?_⟩
  exact HB.out.stored _ _ _

set_option maxHeartbeats 2000000 in
theorem open_form2 (b o c : Nat) (l : List Int) (w : World) (hn : l.length = 512) (hcc : 512 ≤ c) (h : Rd w (some ⟨b, o, none⟩) (bys l)) (hI : IsB l) (hz : l.all (· == 0) = false) (hsum : unle ((l.drop 508).take 4) = (more 0 (l.take 508) : Nat)) (hkn : knownB (bat l 0) = true) (h1n : bat l 1 ≠ 0) :
    Calls Try.prog 31 #[.slice (some ⟨b, o, none⟩) 512 c] w fun e w' => secAt e w.heap.size w' (sec l) ∧ Below w.heap.size w w' := by
  have hs : sec l = ⟨0, 0, [], 11⟩ := by
    unfold sec; rw [if_neg (by omega), if_neg (by rw [hz]; simp), if_neg (by simp [hsum]), if_pos]
    simp [secForm, h1n]
  have HS := Lib.hid hs
  have hr := unle_range (isB_take (isB_drop hI 2) 2)
  have hl2 : ((l.drop 2).take 2).length = 2 := by simp; omega
  rw [hl2] at hr
  obtain ⟨N, hN⟩ := Int.eq_ofNat_of_zero_le hr.1
  have hN64 : N < 65536 := by omega
  have hN := Lib.hid hN
  have C1 := Lib.hid (fun (w1 : World) (hb : Below w.heap.size w w1) => zero_any (some ⟨b, o, none⟩) 512 c l w1 hn (h.kept hb) (by decide))
  have C2 := Lib.hid (fun (w1 : World) (hb : Below w.heap.size w w1) => get_ok b o c l 508 4 512 w1 hn (h.kept hb) hI (by decide) (by decide) (by decide) (by decide) hcc)
  have C3 := Lib.hid (fun (w1 : World) (hb : Below w.heap.size w w1) => crcsum_n (some ⟨b, o, none⟩) c 508 (l.take 508) w1 (by rw [List.length_take]; omega) (by rw [bys_take]; exact (h.kept hb).take 508) (by decide) (isB_take hI 508))
  have C4 := Lib.hid (fun (w1 : World) (hb : Below w.heap.size w w1) => get_ok b o c l 2 2 512 w1 hn (h.kept hb) hI (by decide) (by decide) (by decide) (by decide) hcc)
  have C5 := Lib.hid (fun (k : Int) (w1 : World) => known_any k w1)
  have HK := Lib.hid (fun (i : Nat) (hi : i < 512) (w1 : World) (hb : Below w.heap.size w w1) => open_cell hn h hb hi)
  have HZ := Lib.hid hz
  have hb0 := Lib.hid (ZB.init w)
  have hneq : (unle ((l.drop 508).take 4) != ((more 0 (l.take 508) : Nat) : Int)) = false := by rw [hsum]; simp
  have hml := more_lt (s := 0) (by decide) (isB_take hI 508)
  have hcut := run_cut_h (P := Try.prog) .i64 Try.underlying23 sizeU8 (some ⟨b, o, none⟩) 512 c 508 508 rfl (by omega)
  have HKN := Lib.hid hkn
  have h1b : (bat l 1 != 0) = true := bne_iff_ne.2 h1n
  clear hs h hn hz hsum hkn hr hl2 h1n
  go_enter Try.func31, Try.ntmps31
  go_wp2_with fail
  refine (C1.out _ hb0.out.2).mono ?_
  rintro e w1 ⟨rfl, hb1⟩
  rw [HZ.out]
  have HB1 := Lib.hid (hb0.out.step hb1)
  clear hb1
  go_wp2_with fail
  refine (C2.out _ HB1.out.2).mono ?_
  rintro e w2 ⟨rfl, hb2⟩
  have HB2 := Lib.hid (HB1.out.step hb2)
  clear hb2
  go_wp2_with fail
  refine (C3.out _ HB2.out.2).mono ?_
  rintro e w3 ⟨rfl, hb3⟩
  have HB3 := Lib.hid (HB2.out.step hb3)
  clear hb3
  go_wp2_with fail
  refine (C4.out _ HB3.out.2).mono ?_
  rintro e w4 ⟨rfl, hb4⟩
  have HB4 := Lib.hid (HB3.out.step hb4)
  clear hb4
  have hc0 := HK.out 0 (by decide) _ HB4.out.2
  have hc1 := HK.out 1 (by decide) _ HB4.out.2
  simp only [Nat.add_zero] at hc0
  rw [hN.out]
  go_wp2_with fail
  refine (C5.out _ _).mono ?_
  rintro e w5 ⟨rfl, rfl⟩
  rw [HKN.out]
  have HB := HB4
  obtain ⟨k0, k1, k2, f0, f1, f2⟩ := HB.out.cells
  go_wp2
  refine bodyPost_ret (v := .tuple #[.agg #[.int .u8 0, .int .u64 0, .slice none 0 0], .int .i64 11]) (by simp [results, Try.results31, go_sem, k0, k1, k2]) rfl ⟨⟨.slice none 0 0, by rw [HS.out], by rw [HS.out]; exact World.ownsRow_nil _ _ _ _⟩, ?_⟩
  exact HB.out.stored _ _ _

set_option maxHeartbeats 2000000 in
theorem open_form3 (b o c : Nat) (l : List Int) (w : World) (hn : l.length = 512) (hcc : 512 ≤ c) (h : Rd w (some ⟨b, o, none⟩) (bys l)) (hI : IsB l) (hz : l.all (· == 0) = false) (hsum : unle ((l.drop 508).take 4) = (more 0 (l.take 508) : Nat)) (hkn : knownB (bat l 0) = true) (h1n : bat l 1 = 0) (hbig : 496 < unle ((l.drop 2).take 2)) :
    Calls Try.prog 31 #[.slice (some ⟨b, o, none⟩) 512 c] w fun e w' => secAt e w.heap.size w' (sec l) ∧ Below w.heap.size w w' := by
  have hs : sec l = ⟨0, 0, [], 11⟩ := by
    unfold sec; rw [if_neg (by omega), if_neg (by rw [hz]; simp), if_neg (by simp [hsum]), if_pos]
    simp [secForm]; intro _ _ h; omega
  have HS := Lib.hid hs
  have hr := unle_range (isB_take (isB_drop hI 2) 2)
  have hl2 : ((l.drop 2).take 2).length = 2 := by simp; omega
  rw [hl2] at hr
  obtain ⟨N, hN⟩ := Int.eq_ofNat_of_zero_le hr.1
  have hN64 : N < 65536 := by omega
  have hN := Lib.hid hN
  have C1 := Lib.hid (fun (w1 : World) (hb : Below w.heap.size w w1) => zero_any (some ⟨b, o, none⟩) 512 c l w1 hn (h.kept hb) (by decide))
  have C2 := Lib.hid (fun (w1 : World) (hb : Below w.heap.size w w1) => get_ok b o c l 508 4 512 w1 hn (h.kept hb) hI (by decide) (by decide) (by decide) (by decide) hcc)
  have C3 := Lib.hid (fun (w1 : World) (hb : Below w.heap.size w w1) => crcsum_n (some ⟨b, o, none⟩) c 508 (l.take 508) w1 (by rw [List.length_take]; omega) (by rw [bys_take]; exact (h.kept hb).take 508) (by decide) (isB_take hI 508))
  have C4 := Lib.hid (fun (w1 : World) (hb : Below w.heap.size w w1) => get_ok b o c l 2 2 512 w1 hn (h.kept hb) hI (by decide) (by decide) (by decide) (by decide) hcc)
  have C5 := Lib.hid (fun (k : Int) (w1 : World) => known_any k w1)
  have HK := Lib.hid (fun (i : Nat) (hi : i < 512) (w1 : World) (hb : Below w.heap.size w w1) => open_cell hn h hb hi)
  have HZ := Lib.hid hz
  have hb0 := Lib.hid (ZB.init w)
  have hneq : (unle ((l.drop 508).take 4) != ((more 0 (l.take 508) : Nat) : Int)) = false := by rw [hsum]; simp
  have hml := more_lt (s := 0) (by decide) (isB_take hI 508)
  have hcut := run_cut_h (P := Try.prog) .i64 Try.underlying23 sizeU8 (some ⟨b, o, none⟩) 512 c 508 508 rfl (by omega)
  have HKN := Lib.hid hkn
  have h1b : (bat l 1 != 0) = false := by rw [h1n]; rfl
  have hbig2 : (496 : Int) < (N : Int) := by have := hN.out; omega
  clear hs h hn hz hsum hkn hr hl2 h1n hbig
  go_enter Try.func31, Try.ntmps31
  go_wp2_with fail
  refine (C1.out _ hb0.out.2).mono ?_
  rintro e w1 ⟨rfl, hb1⟩
  rw [HZ.out]
  have HB1 := Lib.hid (hb0.out.step hb1)
  clear hb1
  go_wp2_with fail
  refine (C2.out _ HB1.out.2).mono ?_
  rintro e w2 ⟨rfl, hb2⟩
  have HB2 := Lib.hid (HB1.out.step hb2)
  clear hb2
  go_wp2_with fail
  refine (C3.out _ HB2.out.2).mono ?_
  rintro e w3 ⟨rfl, hb3⟩
  have HB3 := Lib.hid (HB2.out.step hb3)
  clear hb3
  go_wp2_with fail
  refine (C4.out _ HB3.out.2).mono ?_
  rintro e w4 ⟨rfl, hb4⟩
  have HB4 := Lib.hid (HB3.out.step hb4)
  clear hb4
  have hc0 := HK.out 0 (by decide) _ HB4.out.2
  have hc1 := HK.out 1 (by decide) _ HB4.out.2
  simp only [Nat.add_zero] at hc0
  rw [hN.out]
  go_wp2_with fail
  refine (C5.out _ _).mono ?_
  rintro e w5 ⟨rfl, rfl⟩
  rw [HKN.out]
  have HB := HB4
  obtain ⟨k0, k1, k2, f0, f1, f2⟩ := HB.out.cells
  go_wp2
  refine bodyPost_ret (v := .tuple #[.agg #[.int .u8 0, .int .u64 0, .slice none 0 0], .int .i64 11]) (by simp [results, Try.results31, go_sem, k0, k1, k2]) rfl ⟨⟨.slice none 0 0, by rw [HS.out], by rw [HS.out]; exact World.ownsRow_nil _ _ _ _⟩, ?_⟩
  exact HB.out.stored _ _ _

set_option maxHeartbeats 2000000 in
theorem open_form4 (b o c : Nat) (l : List Int) (w : World) (hn : l.length = 512) (hcc : 512 ≤ c) (h : Rd w (some ⟨b, o, none⟩) (bys l)) (hI : IsB l) (hz : l.all (· == 0) = false) (hsum : unle ((l.drop 508).take 4) = (more 0 (l.take 508) : Nat)) (hkn : knownB (bat l 0) = true) (h1n : bat l 1 = 0) (hle : unle ((l.drop 2).take 2) ≤ 496) (hrest : ((l.drop (12 + (unle ((l.drop 2).take 2)).toNat)).take (496 - (unle ((l.drop 2).take 2)).toNat)).all (· == 0) = false) :
    Calls Try.prog 31 #[.slice (some ⟨b, o, none⟩) 512 c] w fun e w' => secAt e w.heap.size w' (sec l) ∧ Below w.heap.size w w' := by
  have hs : sec l = ⟨0, 0, [], 11⟩ := by
    unfold sec; rw [if_neg (by omega), if_neg (by rw [hz]; simp), if_neg (by simp [hsum]), if_pos]
    simp only [secForm, hrest, Bool.and_false]
  have HS := Lib.hid hs
  have hr := unle_range (isB_take (isB_drop hI 2) 2)
  have hl2 : ((l.drop 2).take 2).length = 2 := by simp; omega
  rw [hl2] at hr
  obtain ⟨N, hN⟩ := Int.eq_ofNat_of_zero_le hr.1
  have hN64 : N < 65536 := by omega
  have hN := Lib.hid hN
  have C1 := Lib.hid (fun (w1 : World) (hb : Below w.heap.size w w1) => zero_any (some ⟨b, o, none⟩) 512 c l w1 hn (h.kept hb) (by decide))
  have C2 := Lib.hid (fun (w1 : World) (hb : Below w.heap.size w w1) => get_ok b o c l 508 4 512 w1 hn (h.kept hb) hI (by decide) (by decide) (by decide) (by decide) hcc)
  have C3 := Lib.hid (fun (w1 : World) (hb : Below w.heap.size w w1) => crcsum_n (some ⟨b, o, none⟩) c 508 (l.take 508) w1 (by rw [List.length_take]; omega) (by rw [bys_take]; exact (h.kept hb).take 508) (by decide) (isB_take hI 508))
  have C4 := Lib.hid (fun (w1 : World) (hb : Below w.heap.size w w1) => get_ok b o c l 2 2 512 w1 hn (h.kept hb) hI (by decide) (by decide) (by decide) (by decide) hcc)
  have C5 := Lib.hid (fun (k : Int) (w1 : World) => known_any k w1)
  have HK := Lib.hid (fun (i : Nat) (hi : i < 512) (w1 : World) (hb : Below w.heap.size w w1) => open_cell hn h hb hi)
  have HZ := Lib.hid hz
  have hb0 := Lib.hid (ZB.init w)
  have hneq : (unle ((l.drop 508).take 4) != ((more 0 (l.take 508) : Nat) : Int)) = false := by rw [hsum]; simp
  have hml := more_lt (s := 0) (by decide) (isB_take hI 508)
  have hcut := run_cut_h (P := Try.prog) .i64 Try.underlying23 sizeU8 (some ⟨b, o, none⟩) 512 c 508 508 rfl (by omega)
  have HKN := Lib.hid hkn
  have h1b : (bat l 1 != 0) = false := by rw [h1n]; rfl
  rw [hN.out, Int.toNat_natCast] at hrest
  have HR := Lib.hid hrest
  have hNle : N ≤ 496 := by have := hN.out; omega
  have hw12 : IntKind.u64.wrap (12 + (N : Int)) = 12 + (N : Int) := by rw [show (12 : Int) + (N : Int) = ((12 + N : Nat) : Int) by omega]; exact u64w (by omega)
  have hcut2 := run_cut (P := Try.prog) .u64 .i64 Try.underlying23 sizeU8 b o 512 c (12 + N) 508 (12 + (N : Int)) 508 (by omega) rfl (by omega) (by omega) (by omega)
  have hrl : ((l.drop (12 + N)).take (496 - N)).length = 508 - (12 + N) := by simp; omega
  have C6 := Lib.hid (fun (w1 : World) (hb : Below w.heap.size w w1) => zero_any (some ⟨b, o + (12 + N), none⟩) (508 - (12 + N)) (c - (12 + N)) ((l.drop (12 + N)).take (496 - N)) w1 hrl (by rw [bys_take, bys_drop]; exact (h.kept hb).part (12 + N) (496 - N)) (by omega))
  have hne12 : ¬ c = 12 + N := by omega
  have b12 : (0 : Int) ≤ 12 + (N : Int) := by omega
  have b13 : (12 : Int) + (N : Int) ≤ 508 := by omega
  have b14 : (508 : Int) ≤ (c : Int) := by omega
  have b15 : ((12 : Int) + (N : Int)).toNat = 12 + N := by omega
  have hle2 : ¬ (496 : Int) < (N : Int) := by omega
  clear hs h hn hz hsum hkn hr hl2 h1n hle hrest hrl
  go_enter Try.func31, Try.ntmps31
  go_wp2_with fail
  refine (C1.out _ hb0.out.2).mono ?_
  rintro e w1 ⟨rfl, hb1⟩
  rw [HZ.out]
  have HB1 := Lib.hid (hb0.out.step hb1)
  clear hb1
  go_wp2_with fail
  refine (C2.out _ HB1.out.2).mono ?_
  rintro e w2 ⟨rfl, hb2⟩
  have HB2 := Lib.hid (HB1.out.step hb2)
  clear hb2
  go_wp2_with fail
  refine (C3.out _ HB2.out.2).mono ?_
  rintro e w3 ⟨rfl, hb3⟩
  have HB3 := Lib.hid (HB2.out.step hb3)
  clear hb3
  go_wp2_with fail
  refine (C4.out _ HB3.out.2).mono ?_
  rintro e w4 ⟨rfl, hb4⟩
  have HB4 := Lib.hid (HB3.out.step hb4)
  clear hb4
  have hc0 := HK.out 0 (by decide) _ HB4.out.2
  have hc1 := HK.out 1 (by decide) _ HB4.out.2
  simp only [Nat.add_zero] at hc0
  rw [hN.out]
  go_wp2_with fail
  refine (C5.out _ _).mono ?_
  rintro e w5 ⟨rfl, rfl⟩
  rw [HKN.out]
  go_wp2_with fail
  refine (C6.out _ HB4.out.2).mono ?_
  rintro e w6 ⟨rfl, hb6⟩
  rw [HR.out]
  have HB6 := Lib.hid (HB4.out.step hb6)
  have HB := HB6
  obtain ⟨k0, k1, k2, f0, f1, f2⟩ := HB.out.cells
  clear hb6 hc0 hc1
  go_wp2
  refine bodyPost_ret (v := .tuple #[.agg #[.int .u8 0, .int .u64 0, .slice none 0 0], .int .i64 11]) (by simp [results, Try.results31, go_sem, k0, k1, k2]) rfl ⟨⟨.slice none 0 0, by rw [HS.out], by rw [HS.out]; exact World.ownsRow_nil _ _ _ _⟩, ?_⟩
  exact HB.out.stored _ _ _

set_option maxHeartbeats 2000000 in
theorem open_good (b o c : Nat) (l : List Int) (w : World) (hn : l.length = 512) (hcc : 512 ≤ c) (h : Rd w (some ⟨b, o, none⟩) (bys l)) (hI : IsB l) (hz : l.all (· == 0) = false) (hsum : unle ((l.drop 508).take 4) = (more 0 (l.take 508) : Nat)) (hkn : knownB (bat l 0) = true) (h1n : bat l 1 = 0) (hle : unle ((l.drop 2).take 2) ≤ 496) (hrest : ((l.drop (12 + (unle ((l.drop 2).take 2)).toNat)).take (496 - (unle ((l.drop 2).take 2)).toNat)).all (· == 0) = true) :
    Calls Try.prog 31 #[.slice (some ⟨b, o, none⟩) 512 c] w fun e w' => secAt e w.heap.size w' (sec l) ∧ Below w.heap.size w w' := by
  have hs : sec l = ⟨bat l 0, unle ((l.drop 4).take 8), (l.drop 12).take (unle ((l.drop 2).take 2)).toNat, 0⟩ := by
    unfold sec; rw [if_neg (by omega), if_neg (by rw [hz]; simp), if_neg (by simp [hsum]), if_neg]
    simp only [secForm, hrest, hkn, h1n, Bool.and_true, decide_eq_true hle]; decide
  have hr := unle_range (isB_take (isB_drop hI 2) 2)
  have hl2 : ((l.drop 2).take 2).length = 2 := by simp; omega
  rw [hl2] at hr
  obtain ⟨N, hN⟩ := Int.eq_ofNat_of_zero_le hr.1
  have hN64 : N < 65536 := by omega
  have hN := Lib.hid hN
  rw [hN.out, Int.toNat_natCast] at hs
  have HS := Lib.hid hs
  have C1 := Lib.hid (fun (w1 : World) (hb : Below w.heap.size w w1) => zero_any (some ⟨b, o, none⟩) 512 c l w1 hn (h.kept hb) (by decide))
  have C2 := Lib.hid (fun (w1 : World) (hb : Below w.heap.size w w1) => get_ok b o c l 508 4 512 w1 hn (h.kept hb) hI (by decide) (by decide) (by decide) (by decide) hcc)
  have C3 := Lib.hid (fun (w1 : World) (hb : Below w.heap.size w w1) => crcsum_n (some ⟨b, o, none⟩) c 508 (l.take 508) w1 (by rw [List.length_take]; omega) (by rw [bys_take]; exact (h.kept hb).take 508) (by decide) (isB_take hI 508))
  have C4 := Lib.hid (fun (w1 : World) (hb : Below w.heap.size w w1) => get_ok b o c l 2 2 512 w1 hn (h.kept hb) hI (by decide) (by decide) (by decide) (by decide) hcc)
  have C5 := Lib.hid (fun (k : Int) (w1 : World) => known_any k w1)
  have HK := Lib.hid (fun (i : Nat) (hi : i < 512) (w1 : World) (hb : Below w.heap.size w w1) => open_cell hn h hb hi)
  have HZ := Lib.hid hz
  have hb0 := Lib.hid (ZB.init w)
  have hneq : (unle ((l.drop 508).take 4) != ((more 0 (l.take 508) : Nat) : Int)) = false := by rw [hsum]; simp
  have hml := more_lt (s := 0) (by decide) (isB_take hI 508)
  have hcut := run_cut_h (P := Try.prog) .i64 Try.underlying23 sizeU8 (some ⟨b, o, none⟩) 512 c 508 508 rfl (by omega)
  have HKN := Lib.hid hkn
  have h1b : (bat l 1 != 0) = false := by rw [h1n]; rfl
  rw [hN.out, Int.toNat_natCast] at hrest
  have HR := Lib.hid hrest
  have hNle : N ≤ 496 := by have := hN.out; omega
  have hw12 : IntKind.u64.wrap (12 + (N : Int)) = 12 + (N : Int) := by rw [show (12 : Int) + (N : Int) = ((12 + N : Nat) : Int) by omega]; exact u64w (by omega)
  have hcut2 := run_cut (P := Try.prog) .u64 .i64 Try.underlying23 sizeU8 b o 512 c (12 + N) 508 (12 + (N : Int)) 508 (by omega) rfl (by omega) (by omega) (by omega)
  have hrl : ((l.drop (12 + N)).take (496 - N)).length = 508 - (12 + N) := by simp; omega
  have C6 := Lib.hid (fun (w1 : World) (hb : Below w.heap.size w w1) => zero_any (some ⟨b, o + (12 + N), none⟩) (508 - (12 + N)) (c - (12 + N)) ((l.drop (12 + N)).take (496 - N)) w1 hrl (by rw [bys_take, bys_drop]; exact (h.kept hb).part (12 + N) (496 - N)) (by omega))
  have hne12 : ¬ c = 12 + N := by omega
  have b12 : (0 : Int) ≤ 12 + (N : Int) := by omega
  have b13 : (12 : Int) + (N : Int) ≤ 508 := by omega
  have b14 : (508 : Int) ≤ (c : Int) := by omega
  have b15 : ((12 : Int) + (N : Int)).toNat = 12 + N := by omega
  have hle2 : ¬ (496 : Int) < (N : Int) := by omega
  have C7 := Lib.hid (fun (w1 : World) (hb : Below w.heap.size w w1) => get_ok b o c l 4 8 512 w1 hn (h.kept hb) hI (by decide) (by decide) (by decide) (by decide) hcc)
  have hpl : ((l.drop 12).take N).length = N := by simp; omega
  have C8 := Lib.hid (fun (w1 : World) (hb : Below w.heap.size w w1) => clone_somen ⟨b, o + 12, none⟩ N (c - 12) ((l.drop 12).take N) w1 hpl (by rw [bys_take, bys_drop]; exact (h.kept hb).part 12 N) (by omega))
  have hcut3 := run_cut (P := Try.prog) .i64 .u64 Try.underlying23 sizeU8 b o 512 c 12 (12 + N) 12 (12 + (N : Int)) rfl (by omega) (by omega) (by omega) (by omega)
  rw [show 12 + N - 12 = N by omega] at hcut3
  have HBB := Lib.hid (h.lt ⟨b, o, none⟩ rfl (by intro e; have := congrArg List.length e; simp [bys_length] at this; simp [this] at hn) : b < w.heap.size)
  have c12 : ¬ c = 12 := by omega
  have b16 : (12 : Int) ≤ 12 + (N : Int) := by omega
  have b17 : (12 : Int) + (N : Int) ≤ (c : Int) := by omega
  clear hs h hn hz hsum hkn hr hl2 h1n hle hrest hrl
  go_enter Try.func31, Try.ntmps31
  go_wp2_with fail
  refine (C1.out _ hb0.out.2).mono ?_
  rintro e w1 ⟨rfl, hb1⟩
  rw [HZ.out]
  have HB1 := Lib.hid (hb0.out.step hb1)
  clear hb1
  go_wp2_with fail
  refine (C2.out _ HB1.out.2).mono ?_
  rintro e w2 ⟨rfl, hb2⟩
  have HB2 := Lib.hid (HB1.out.step hb2)
  clear hb2
  go_wp2_with fail
  refine (C3.out _ HB2.out.2).mono ?_
  rintro e w3 ⟨rfl, hb3⟩
  have HB3 := Lib.hid (HB2.out.step hb3)
  clear hb3
  go_wp2_with fail
  refine (C4.out _ HB3.out.2).mono ?_
  rintro e w4 ⟨rfl, hb4⟩
  have HB4 := Lib.hid (HB3.out.step hb4)
  clear hb4
  have hc0 := HK.out 0 (by decide) _ HB4.out.2
  have hc1 := HK.out 1 (by decide) _ HB4.out.2
  simp only [Nat.add_zero] at hc0
  rw [hN.out]
  go_wp2_with fail
  refine (C5.out _ _).mono ?_
  rintro e w5 ⟨rfl, rfl⟩
  rw [HKN.out]
  go_wp2_with fail
  refine (C6.out _ HB4.out.2).mono ?_
  rintro e w6 ⟨rfl, hb6⟩
  rw [HR.out]
  have HB6 := Lib.hid (HB4.out.step hb6)
  clear hb6 hc0 hc1
  go_wp2_with fail
  refine (C7.out _ HB6.out.2).mono ?_
  rintro e w7 ⟨rfl, hb7⟩
  have HB7 := Lib.hid (HB6.out.step hb7)
  clear hb7
  have hc0 := HK.out 0 (by decide) _ HB7.out.2
  simp only [Nat.add_zero] at hc0
  obtain ⟨k0, k1, k2, f0, f1, f2⟩ := HB7.out.cells
  have hbb : b < w.heap.size := HBB.out
  have hsz := HB7.out.2.size
  go_wp2_with fail
  go_region_held3 (fun w' => w'.cell? ⟨b, o, none⟩ = some (.int .u8 (bat l 0)))
    (first
      | exact hc0
      | exact hc0'
      | exact (cell_3set hbb _).trans hc0')
    ((go_at_call 50; (refine (C8.out w7.drew (HB7.out.2.drew)).mono ?_); rintro e w8 ⟨v, rfl, hown, hb8⟩; obtain ⟨A8, c8, rfl, hnc8, hcm8, hrd8, hlen8⟩ := own_rd hown; have HB8 := Lib.hid ((HB7.out.drewN 1).step hb8); obtain ⟨k0', k1', k2', f0', f1', f2'⟩ := HB8.out.cells; have hc0' := HK.out 0 (by decide) _ HB8.out.2; simp only [Nat.add_zero] at hc0'))
  go_wp2
  have hlt7 : w.heap.size < w7.heap.size := (Array.getElem?_eq_some_iff.1 HB7.out.1).1
  refine bodyPost_ret (v := .tuple #[.agg #[.int .u8 (bat l 0), .int .u64 (unle ((l.drop 4).take 8)), .slice A8 N c8], .int .i64 0]) (by simp [results, Try.results31, go_sem, k0', k1', k2']) rfl ⟨⟨_, by rw [HS.out], ?_⟩, ?_⟩
  · rw [HS.out]
    have := ownsRow_setCell_below (ownsRow_setCell_below (ownsRow_setCell_below hown (a := ⟨w.heap.size, 0, none⟩) hlt7 (.int .u8 (bat l 0))) (a := ⟨w.heap.size, 1, none⟩) hlt7 (.int .u64 (unle ((l.drop 4).take 8)))) (a := ⟨w.heap.size, 2, none⟩) hlt7 (.slice A8 N c8)
    have hpl2 : ((l.drop 12).take N).length = N := by simpa [bys_length] using hlen8
    rw [← hpl2] at this ⊢
    exact own_mono (by simpa [hpl2] using this) hsz
  · exact HB8.out.stored _ _ _

theorem open_any (A : Option Addr) (n c : Nat) (l : List Int) (w : World) (hn : l.length = n) (h : Rd w A (bys l)) (hI : IsB l) (hnc : n ≤ c) :
    Calls Try.prog 31 #[.slice A n c] w fun e w' => secAt e w.heap.size w' (sec l) ∧ Below w.heap.size w w' := by
  by_cases h512 : n = 512
  · subst h512
    obtain ⟨b, o, rfl⟩ := h.some_of (by intro e; have := congrArg List.length e; rw [bys_length] at this; simp at this; simp [this] at hn)
    cases hz : l.all (· == 0) with
    | true => exact open_zero b o c l w hn h hz
    | false =>
      by_cases hsum : unle ((l.drop 508).take 4) = (more 0 (l.take 508) : Nat)
      · cases hkn : knownB (bat l 0) with
        | false => exact open_form1 b o c l w hn hnc h hI hz hsum hkn
        | true =>
          by_cases h1n : bat l 1 = 0
          · by_cases hle : unle ((l.drop 2).take 2) ≤ 496
            · cases hrest : ((l.drop (12 + (unle ((l.drop 2).take 2)).toNat)).take (496 - (unle ((l.drop 2).take 2)).toNat)).all (· == 0) with
              | true => exact open_good b o c l w hn hnc h hI hz hsum hkn h1n hle hrest
              | false => exact open_form4 b o c l w hn hnc h hI hz hsum hkn h1n hle hrest
            · exact open_form3 b o c l w hn hnc h hI hz hsum hkn h1n (by omega)
          · exact open_form2 b o c l w hn hnc h hI hz hsum hkn h1n
      · exact open_sum b o c l w hn hnc h hI hz hsum
  · exact open_len A n c l w hn h512

theorem bat_range {l : List Int} (h : IsB l) (i : Nat) : 0 ≤ bat l i ∧ bat l i < 256 := by
  unfold bat
  rw [List.getD_eq_getElem?_getD]
  cases hx : l[i]? with
  | none => simp
  | some x => exact h x (List.mem_of_getElem? hx)
theorem sec_range {l : List Int} (h : IsB l) : (0 ≤ (sec l).kind ∧ (sec l).kind < 256) ∧ (0 ≤ (sec l).turn ∧ (sec l).turn < 18446744073709551616) ∧ IsB (sec l).pay ∧ (sec l).pay.length ≤ 496 := by
  have hz : IsB ([] : List Int) := fun x hx => by simp at hx
  unfold sec
  split
  · exact ⟨by simp, by simp, hz, by simp⟩
  split
  · exact ⟨by simp, by simp, hz, by simp⟩
  split
  · exact ⟨by simp, by simp, hz, by simp⟩
  split
  · exact ⟨by simp, by simp, hz, by simp⟩
  · rename_i h1 h2 h3 h4
    have hr := unle_range (isB_take (isB_drop h 4) 8)
    have hl : ((l.drop 4).take 8).length = 8 := by simp; omega
    rw [hl] at hr
    have h4' : secForm l = true := by cases hf : secForm l with
      | true => rfl
      | false => exact absurd hf h4
    simp only [secForm, Bool.and_eq_true, decide_eq_true_eq] at h4'
    exact ⟨bat_range h 0, (by show 0 ≤ unle ((l.drop 4).take 8) ∧ unle ((l.drop 4).take 8) < 18446744073709551616; omega), isB_take (isB_drop h 12) _, by simp; omega⟩

theorem good_any (A : Option Addr) (n c : Nat) (l : List Int) (w : World) (hn : l.length = n) (h : Rd w A (bys l)) (hI : IsB l) (hnc : n ≤ c) :
    Calls Try.prog 37 #[.slice A n c] w fun e w' => e = .returned (.bool ((sec l).err == 0)) ∧ Below w.heap.size w w' := by
  have C1 := Lib.hid (open_any A n c l w hn h hI hnc)
  clear h hn
  go_enter Try.func37, Try.ntmps37
  go_wp2_with fail
  refine C1.out.mono ?_
  rintro e w1 ⟨⟨v, rfl, hown⟩, hb⟩
  obtain ⟨A', c', rfl, _, _, _, _⟩ := own_rd hown
  clear hown
  go_wp2
  go_ret
  exact ⟨rfl, hb.alloc hb.size _⟩
end Go.Proofs.Ytdgciajdnmgcnaa
