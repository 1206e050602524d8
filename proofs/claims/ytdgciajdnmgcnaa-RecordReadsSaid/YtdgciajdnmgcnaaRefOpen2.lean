/- The contract of dunnageref03.Open; whatever bytes are handed in. -/
import Derived.Test.YtdgciajdnmgcnaaRefOpen
import Derived.Deep.AppendLies
namespace Go.Proofs.Ytdgciajdnmgcnaa
open Go.RowKit
set_option linter.unusedVariables false

set_option maxHeartbeats 2000000 in
theorem refopen_len (A : Option Addr) (n c : Nat) (l : List Int) (w : World) (hn : l.length = n) (h : n ≠ 512) :
    Calls Try.prog 33 #[.slice A n c] w fun e w' => secAt e w.heap.size w' (sec l) ∧ Below w.heap.size w w' := by
  have hs : sec l = ⟨0, 0, [], 1⟩ := by unfold sec; rw [if_pos (by omega)]
  have HS := Lib.hid hs
  have h2 : ((n : Int) != 512) = true := by rw [bne_iff_ne]; omega
  clear hs h hn
  go_enter Try.func33, Try.ntmps33
  go_wp2
  refine bodyPost_ret (v := .tuple #[.agg #[.int .u8 0, .int .u64 0, .slice none 0 0], .int .i64 1]) (by simp [results, Try.results33, go_sem]) rfl ⟨⟨.slice none 0 0, by rw [HS.out], by rw [HS.out]; exact World.ownsRow_nil _ _ _ _⟩, ?_⟩
  exact (Below.refl _ _).alloc (Nat.le_refl _) _

set_option maxHeartbeats 2000000 in
theorem refopen_zero (b o c : Nat) (l : List Int) (w : World) (hn : l.length = 512) (hcc : 512 ≤ c) (h : Rd w (some ⟨b, o, none⟩) (bys l)) (hI : IsB l) (hz : l.all (· == 0) = true) :
    Calls Try.prog 33 #[.slice (some ⟨b, o, none⟩) 512 c] w fun e w' => secAt e w.heap.size w' (sec l) ∧ Below w.heap.size w w' := by
  have hs : sec l = ⟨0, 0, [], 0⟩ := by unfold sec; rw [if_neg (by omega), if_pos hz]
  have HS := Lib.hid hs
  have h1 : Rd (w.alloc (.cells #[.int .u8 0, .int .u64 0, .slice none 0 0] 56)) (some ⟨b, o, none⟩) (bys l) := h.kept ((Below.refl _ _).alloc (Nat.le_refl _) _)
  have C1 := Lib.hid (refzero_any (some ⟨b, o, none⟩) 512 c l _ hn h1 (by decide))
  have HZ := Lib.hid hz
  clear hs h h1 hn hz
  go_enter Try.func33, Try.ntmps33
  go_wp2_with fail
  refine C1.out.mono ?_
  rintro e w1 ⟨rfl, rfl⟩
  rw [HZ.out]
  go_wp2
  refine bodyPost_ret (v := .tuple #[.agg #[.int .u8 0, .int .u64 0, .slice none 0 0], .int .i64 0]) (by simp [results, Try.results33, go_sem]) rfl ⟨⟨.slice none 0 0, by rw [HS.out], by rw [HS.out]; exact World.ownsRow_nil _ _ _ _⟩, ?_⟩
  exact (Below.refl _ _).alloc (Nat.le_refl _) _

set_option maxHeartbeats 2000000 in
theorem refopen_sum (b o c : Nat) (l : List Int) (w : World) (hn : l.length = 512) (hcc : 512 ≤ c) (h : Rd w (some ⟨b, o, none⟩) (bys l)) (hI : IsB l) (hz : l.all (· == 0) = false) (hsum : unle ((l.drop 508).take 4) ≠ (more 0 (l.take 508) : Nat)) :
    Calls Try.prog 33 #[.slice (some ⟨b, o, none⟩) 512 c] w fun e w' => secAt e w.heap.size w' (sec l) ∧ Below w.heap.size w w' := by
  have hs : sec l = ⟨0, 0, [], 30⟩ := by unfold sec; rw [if_neg (by omega), if_neg (by rw [hz]; simp), if_pos hsum]
  have HS := Lib.hid hs
  have h1 : Rd (w.alloc (.cells #[.int .u8 0, .int .u64 0, .slice none 0 0] 56)) (some ⟨b, o, none⟩) (bys l) := h.kept ((Below.refl _ _).alloc (Nat.le_refl _) _)
  have C1 := Lib.hid (refzero_any (some ⟨b, o, none⟩) 512 c l _ hn h1 (by decide))
  have HZ := Lib.hid hz
  have C2 := Lib.hid (refget_ok b o c l 508 4 512 _ hn h1 hI (by decide) (by decide) (by decide) (by decide))
  have C3 := Lib.hid (refsum_n (some ⟨b, o, none⟩) c 508 (l.take 508) _ (by rw [List.length_take]; omega) (by rw [bys_take]; exact h1.take 508) (by decide) (isB_take hI 508))
  have hr4 := unle_range (isB_take (isB_drop hI 508) 4)
  have hl4 : ((l.drop 508).take 4).length = 4 := by simp; omega
  rw [hl4] at hr4
  have hml := more_lt (s := 0) (by decide) (isB_take hI 508)
  have hw32 : IntKind.u32.wrap (unle ((l.drop 508).take 4)) = unle ((l.drop 508).take 4) := by rw [IntKind.wrap_u32]; omega
  have hcut := run_cut_h (P := Try.prog) .i64 Try.underlying23 sizeU8 (some ⟨b, o, none⟩) 512 c 508 508 rfl (by omega)
  clear hr4 hl4
  have hneq : (unle ((l.drop 508).take 4) != ((more 0 (l.take 508) : Nat) : Int)) = true := bne_iff_ne.2 hsum
  clear hs h h1 hn hz hsum
  go_enter Try.func33, Try.ntmps33
  go_wp2_with fail
  refine C1.out.mono ?_
  rintro e w1 ⟨rfl, rfl⟩
  rw [HZ.out]
  go_wp2_with fail
  refine C2.out.mono ?_
  rintro e w1 ⟨rfl, rfl⟩
  go_wp2_with fail
  refine C3.out.mono ?_
  rintro e w1 ⟨rfl, rfl⟩
  go_wp2
  refine bodyPost_ret (v := .tuple #[.agg #[.int .u8 0, .int .u64 0, .slice none 0 0], .int .i64 30]) (by simp [results, Try.results33, go_sem]) rfl ⟨⟨.slice none 0 0, by rw [HS.out], by rw [HS.out]; exact World.ownsRow_nil _ _ _ _⟩, ?_⟩
  exact (Below.refl _ _).alloc (Nat.le_refl _) _

set_option maxHeartbeats 2000000 in
theorem refopen_form1 (b o c : Nat) (l : List Int) (w : World) (hn : l.length = 512) (hcc : 512 ≤ c) (h : Rd w (some ⟨b, o, none⟩) (bys l)) (hI : IsB l) (hz : l.all (· == 0) = false) (hsum : unle ((l.drop 508).take 4) = (more 0 (l.take 508) : Nat)) (hkn : knownB (bat l 0) = false) :
    Calls Try.prog 33 #[.slice (some ⟨b, o, none⟩) 512 c] w fun e w' => secAt e w.heap.size w' (sec l) ∧ Below w.heap.size w w' := by
  have hs : sec l = ⟨0, 0, [], 11⟩ := by
    unfold sec; rw [if_neg (by omega), if_neg (by rw [hz]; simp), if_neg (by simp [hsum]), if_pos]
    simp [secForm, hkn]
  have HS := Lib.hid hs
  have hr := unle_range (isB_take (isB_drop hI 2) 2)
  have hl2 : ((l.drop 2).take 2).length = 2 := by simp; omega
  rw [hl2] at hr
  obtain ⟨N, hN⟩ := Int.eq_ofNat_of_zero_le hr.1
  have hN64 : N < 65536 := by omega
  have hN := Lib.hid hN
  have h1 : Rd (w.alloc (.cells #[.int .u8 0, .int .u64 0, .slice none 0 0] 56)) (some ⟨b, o, none⟩) (bys l) := h.kept ((Below.refl _ _).alloc (Nat.le_refl _) _)
  have C1 := Lib.hid (refzero_any (some ⟨b, o, none⟩) 512 c l _ hn h1 (by decide))
  have HZ := Lib.hid hz
  have C2 := Lib.hid (refget_ok b o c l 508 4 512 _ hn h1 hI (by decide) (by decide) (by decide) (by decide))
  have C3 := Lib.hid (refsum_n (some ⟨b, o, none⟩) c 508 (l.take 508) _ (by rw [List.length_take]; omega) (by rw [bys_take]; exact h1.take 508) (by decide) (isB_take hI 508))
  have hr4 := unle_range (isB_take (isB_drop hI 508) 4)
  have hl4 : ((l.drop 508).take 4).length = 4 := by simp; omega
  rw [hl4] at hr4
  have hml := more_lt (s := 0) (by decide) (isB_take hI 508)
  have hw32 : IntKind.u32.wrap (unle ((l.drop 508).take 4)) = unle ((l.drop 508).take 4) := by rw [IntKind.wrap_u32]; omega
  have hcut := run_cut_h (P := Try.prog) .i64 Try.underlying23 sizeU8 (some ⟨b, o, none⟩) 512 c 508 508 rfl (by omega)
  clear hr4 hl4
  have C4 := Lib.hid (refget_ok b o c l 2 2 512 _ hn h1 hI (by decide) (by decide) (by decide) (by decide))
  have C7 := Lib.hid (refget_ok b o c l 4 8 512 _ hn h1 hI (by decide) (by decide) (by decide) (by decide))
  have C5 := Lib.hid (fun (k : Int) (w1 : World) => refknown_any k w1)
  have hbel : Below w.heap.size w (w.alloc (.cells #[.int .u8 0, .int .u64 0, .slice none 0 0] 56)) := (Below.refl _ _).alloc (Nat.le_refl _) _
  have hc0 := open_cell hn h hbel (i := 0) (by decide)
  have hc1 := open_cell hn h hbel (i := 1) (by decide)
  simp only [Nat.add_zero] at hc0
  have hbb : b < w.heap.size := h.lt ⟨b, o, none⟩ rfl (by intro e; have := congrArg List.length e; simp [bys_length] at this; simp [this] at hn)
  have hneq : (unle ((l.drop 508).take 4) != ((more 0 (l.take 508) : Nat) : Int)) = false := by rw [hsum]; simp
  clear hbel
  have HKN := Lib.hid hkn
  clear hs h h1 hn hz hsum hkn hr hl2
  go_enter Try.func33, Try.ntmps33
  go_wp2_with fail
  refine C1.out.mono ?_
  rintro e w1 ⟨rfl, rfl⟩
  rw [HZ.out]
  go_wp2_with fail
  refine C2.out.mono ?_
  rintro e w1 ⟨rfl, rfl⟩
  go_wp2_with fail
  refine C3.out.mono ?_
  rintro e w1 ⟨rfl, rfl⟩
  go_wp2_with fail
  refine C4.out.mono ?_
  rintro e w1 ⟨rfl, rfl⟩
  go_wp2_with fail
  refine C7.out.mono ?_
  rintro e w1 ⟨rfl, rfl⟩
  go_wp2_with fail
  refine (C5.out _ _).mono ?_
  rintro e w1 ⟨rfl, rfl⟩
  rw [HKN.out]
  go_wp2
  refine bodyPost_ret (v := .tuple #[.agg #[.int .u8 0, .int .u64 0, .slice none 0 0], .int .i64 11]) (by simp [results, Try.results33, go_sem]) rfl ⟨⟨.slice none 0 0, by rw [HS.out], by rw [HS.out]; exact World.ownsRow_nil _ _ _ _⟩, ?_⟩
  exact (Below.refl _ _).alloc (Nat.le_refl _) _

set_option maxHeartbeats 2000000 in
theorem refopen_form2 (b o c : Nat) (l : List Int) (w : World) (hn : l.length = 512) (hcc : 512 ≤ c) (h : Rd w (some ⟨b, o, none⟩) (bys l)) (hI : IsB l) (hz : l.all (· == 0) = false) (hsum : unle ((l.drop 508).take 4) = (more 0 (l.take 508) : Nat)) (hkn : knownB (bat l 0) = true) (h1n : bat l 1 ≠ 0) :
    Calls Try.prog 33 #[.slice (some ⟨b, o, none⟩) 512 c] w fun e w' => secAt e w.heap.size w' (sec l) ∧ Below w.heap.size w w' := by
  have hs : sec l = ⟨0, 0, [], 11⟩ := by
    unfold sec; rw [if_neg (by omega), if_neg (by rw [hz]; simp), if_neg (by simp [hsum]), if_pos]
    simp [secForm, h1n]
  have HS := Lib.hid hs
  have hr := unle_range (isB_take (isB_drop hI 2) 2)
  have hl2 : ((l.drop 2).take 2).length = 2 := by simp; omega
  rw [hl2] at hr
  obtain ⟨N, hN⟩ := Int.eq_ofNat_of_zero_le hr.1
  have hN64 : N < 65536 := by omega
  have hN := Lib.hid hN
  have h1 : Rd (w.alloc (.cells #[.int .u8 0, .int .u64 0, .slice none 0 0] 56)) (some ⟨b, o, none⟩) (bys l) := h.kept ((Below.refl _ _).alloc (Nat.le_refl _) _)
  have C1 := Lib.hid (refzero_any (some ⟨b, o, none⟩) 512 c l _ hn h1 (by decide))
  have HZ := Lib.hid hz
  have C2 := Lib.hid (refget_ok b o c l 508 4 512 _ hn h1 hI (by decide) (by decide) (by decide) (by decide))
  have C3 := Lib.hid (refsum_n (some ⟨b, o, none⟩) c 508 (l.take 508) _ (by rw [List.length_take]; omega) (by rw [bys_take]; exact h1.take 508) (by decide) (isB_take hI 508))
  have hr4 := unle_range (isB_take (isB_drop hI 508) 4)
  have hl4 : ((l.drop 508).take 4).length = 4 := by simp; omega
  rw [hl4] at hr4
  have hml := more_lt (s := 0) (by decide) (isB_take hI 508)
  have hw32 : IntKind.u32.wrap (unle ((l.drop 508).take 4)) = unle ((l.drop 508).take 4) := by rw [IntKind.wrap_u32]; omega
  have hcut := run_cut_h (P := Try.prog) .i64 Try.underlying23 sizeU8 (some ⟨b, o, none⟩) 512 c 508 508 rfl (by omega)
  clear hr4 hl4
  have C4 := Lib.hid (refget_ok b o c l 2 2 512 _ hn h1 hI (by decide) (by decide) (by decide) (by decide))
  have C7 := Lib.hid (refget_ok b o c l 4 8 512 _ hn h1 hI (by decide) (by decide) (by decide) (by decide))
  have C5 := Lib.hid (fun (k : Int) (w1 : World) => refknown_any k w1)
  have hbel : Below w.heap.size w (w.alloc (.cells #[.int .u8 0, .int .u64 0, .slice none 0 0] 56)) := (Below.refl _ _).alloc (Nat.le_refl _) _
  have hc0 := open_cell hn h hbel (i := 0) (by decide)
  have hc1 := open_cell hn h hbel (i := 1) (by decide)
  simp only [Nat.add_zero] at hc0
  have hbb : b < w.heap.size := h.lt ⟨b, o, none⟩ rfl (by intro e; have := congrArg List.length e; simp [bys_length] at this; simp [this] at hn)
  have hneq : (unle ((l.drop 508).take 4) != ((more 0 (l.take 508) : Nat) : Int)) = false := by rw [hsum]; simp
  clear hbel
  have HKN := Lib.hid hkn
  have h1b : (bat l 1 != 0) = true := bne_iff_ne.2 h1n
  clear hs h h1 hn hz hsum hkn hr hl2 h1n
  go_enter Try.func33, Try.ntmps33
  go_wp2_with fail
  refine C1.out.mono ?_
  rintro e w1 ⟨rfl, rfl⟩
  rw [HZ.out]
  go_wp2_with fail
  refine C2.out.mono ?_
  rintro e w1 ⟨rfl, rfl⟩
  go_wp2_with fail
  refine C3.out.mono ?_
  rintro e w1 ⟨rfl, rfl⟩
  go_wp2_with fail
  refine C4.out.mono ?_
  rintro e w1 ⟨rfl, rfl⟩
  go_wp2_with fail
  refine C7.out.mono ?_
  rintro e w1 ⟨rfl, rfl⟩
  go_wp2_with fail
  refine (C5.out _ _).mono ?_
  rintro e w1 ⟨rfl, rfl⟩
  rw [HKN.out]
  go_wp2
  refine bodyPost_ret (v := .tuple #[.agg #[.int .u8 0, .int .u64 0, .slice none 0 0], .int .i64 11]) (by simp [results, Try.results33, go_sem]) rfl ⟨⟨.slice none 0 0, by rw [HS.out], by rw [HS.out]; exact World.ownsRow_nil _ _ _ _⟩, ?_⟩
  exact (Below.refl _ _).alloc (Nat.le_refl _) _

set_option maxHeartbeats 2000000 in
theorem refopen_form3 (b o c : Nat) (l : List Int) (w : World) (hn : l.length = 512) (hcc : 512 ≤ c) (h : Rd w (some ⟨b, o, none⟩) (bys l)) (hI : IsB l) (hz : l.all (· == 0) = false) (hsum : unle ((l.drop 508).take 4) = (more 0 (l.take 508) : Nat)) (hkn : knownB (bat l 0) = true) (h1n : bat l 1 = 0) (hbig : 496 < unle ((l.drop 2).take 2)) :
    Calls Try.prog 33 #[.slice (some ⟨b, o, none⟩) 512 c] w fun e w' => secAt e w.heap.size w' (sec l) ∧ Below w.heap.size w w' := by
  have hs : sec l = ⟨0, 0, [], 11⟩ := by
    unfold sec; rw [if_neg (by omega), if_neg (by rw [hz]; simp), if_neg (by simp [hsum]), if_pos]
    simp [secForm]; intro _ _ h; omega
  have HS := Lib.hid hs
  have hr := unle_range (isB_take (isB_drop hI 2) 2)
  have hl2 : ((l.drop 2).take 2).length = 2 := by simp; omega
  rw [hl2] at hr
  obtain ⟨N, hN⟩ := Int.eq_ofNat_of_zero_le hr.1
  have hN64 : N < 65536 := by omega
  have hN := Lib.hid hN
  have h1 : Rd (w.alloc (.cells #[.int .u8 0, .int .u64 0, .slice none 0 0] 56)) (some ⟨b, o, none⟩) (bys l) := h.kept ((Below.refl _ _).alloc (Nat.le_refl _) _)
  have C1 := Lib.hid (refzero_any (some ⟨b, o, none⟩) 512 c l _ hn h1 (by decide))
  have HZ := Lib.hid hz
  have C2 := Lib.hid (refget_ok b o c l 508 4 512 _ hn h1 hI (by decide) (by decide) (by decide) (by decide))
  have C3 := Lib.hid (refsum_n (some ⟨b, o, none⟩) c 508 (l.take 508) _ (by rw [List.length_take]; omega) (by rw [bys_take]; exact h1.take 508) (by decide) (isB_take hI 508))
  have hr4 := unle_range (isB_take (isB_drop hI 508) 4)
  have hl4 : ((l.drop 508).take 4).length = 4 := by simp; omega
  rw [hl4] at hr4
  have hml := more_lt (s := 0) (by decide) (isB_take hI 508)
  have hw32 : IntKind.u32.wrap (unle ((l.drop 508).take 4)) = unle ((l.drop 508).take 4) := by rw [IntKind.wrap_u32]; omega
  have hcut := run_cut_h (P := Try.prog) .i64 Try.underlying23 sizeU8 (some ⟨b, o, none⟩) 512 c 508 508 rfl (by omega)
  clear hr4 hl4
  have C4 := Lib.hid (refget_ok b o c l 2 2 512 _ hn h1 hI (by decide) (by decide) (by decide) (by decide))
  have C7 := Lib.hid (refget_ok b o c l 4 8 512 _ hn h1 hI (by decide) (by decide) (by decide) (by decide))
  have C5 := Lib.hid (fun (k : Int) (w1 : World) => refknown_any k w1)
  have hbel : Below w.heap.size w (w.alloc (.cells #[.int .u8 0, .int .u64 0, .slice none 0 0] 56)) := (Below.refl _ _).alloc (Nat.le_refl _) _
  have hc0 := open_cell hn h hbel (i := 0) (by decide)
  have hc1 := open_cell hn h hbel (i := 1) (by decide)
  simp only [Nat.add_zero] at hc0
  have hbb : b < w.heap.size := h.lt ⟨b, o, none⟩ rfl (by intro e; have := congrArg List.length e; simp [bys_length] at this; simp [this] at hn)
  have hneq : (unle ((l.drop 508).take 4) != ((more 0 (l.take 508) : Nat) : Int)) = false := by rw [hsum]; simp
  clear hbel
  have HKN := Lib.hid hkn
  have h1b : (bat l 1 != 0) = false := by rw [h1n]; rfl
  have hbig2 : (496 : Int) < (N : Int) := by have := hN.out; omega
  clear hs h h1 hn hz hsum hkn hr hl2 h1n hbig
  go_enter Try.func33, Try.ntmps33
  go_wp2_with fail
  refine C1.out.mono ?_
  rintro e w1 ⟨rfl, rfl⟩
  rw [HZ.out]
  go_wp2_with fail
  refine C2.out.mono ?_
  rintro e w1 ⟨rfl, rfl⟩
  go_wp2_with fail
  refine C3.out.mono ?_
  rintro e w1 ⟨rfl, rfl⟩
  go_wp2_with fail
  refine C4.out.mono ?_
  rintro e w1 ⟨rfl, rfl⟩
  go_wp2_with fail
  refine C7.out.mono ?_
  rintro e w1 ⟨rfl, rfl⟩
  go_wp2_with fail
  refine (C5.out _ _).mono ?_
  rintro e w1 ⟨rfl, rfl⟩
  rw [HKN.out]
  go_wp2
  refine bodyPost_ret (v := .tuple #[.agg #[.int .u8 0, .int .u64 0, .slice none 0 0], .int .i64 11]) (by simp [results, Try.results33, go_sem]) rfl ⟨⟨.slice none 0 0, by rw [HS.out], by rw [HS.out]; exact World.ownsRow_nil _ _ _ _⟩, ?_⟩
  exact (Below.refl _ _).alloc (Nat.le_refl _) _

set_option maxHeartbeats 2000000 in
theorem refopen_form4 (b o c : Nat) (l : List Int) (w : World) (hn : l.length = 512) (hcc : 512 ≤ c) (h : Rd w (some ⟨b, o, none⟩) (bys l)) (hI : IsB l) (hz : l.all (· == 0) = false) (hsum : unle ((l.drop 508).take 4) = (more 0 (l.take 508) : Nat)) (hkn : knownB (bat l 0) = true) (h1n : bat l 1 = 0) (hle : unle ((l.drop 2).take 2) ≤ 496) (hrest : ((l.drop (12 + (unle ((l.drop 2).take 2)).toNat)).take (496 - (unle ((l.drop 2).take 2)).toNat)).all (· == 0) = false) :
    Calls Try.prog 33 #[.slice (some ⟨b, o, none⟩) 512 c] w fun e w' => secAt e w.heap.size w' (sec l) ∧ Below w.heap.size w w' := by
  have hs : sec l = ⟨0, 0, [], 11⟩ := by
    unfold sec; rw [if_neg (by omega), if_neg (by rw [hz]; simp), if_neg (by simp [hsum]), if_pos]
    simp only [secForm, hrest, Bool.and_false]
  have HS := Lib.hid hs
  have hr := unle_range (isB_take (isB_drop hI 2) 2)
  have hl2 : ((l.drop 2).take 2).length = 2 := by simp; omega
  rw [hl2] at hr
  obtain ⟨N, hN⟩ := Int.eq_ofNat_of_zero_le hr.1
  have hN64 : N < 65536 := by omega
  have hN := Lib.hid hN
  have h1 : Rd (w.alloc (.cells #[.int .u8 0, .int .u64 0, .slice none 0 0] 56)) (some ⟨b, o, none⟩) (bys l) := h.kept ((Below.refl _ _).alloc (Nat.le_refl _) _)
  have C1 := Lib.hid (refzero_any (some ⟨b, o, none⟩) 512 c l _ hn h1 (by decide))
  have HZ := Lib.hid hz
  have C2 := Lib.hid (refget_ok b o c l 508 4 512 _ hn h1 hI (by decide) (by decide) (by decide) (by decide))
  have C3 := Lib.hid (refsum_n (some ⟨b, o, none⟩) c 508 (l.take 508) _ (by rw [List.length_take]; omega) (by rw [bys_take]; exact h1.take 508) (by decide) (isB_take hI 508))
  have hr4 := unle_range (isB_take (isB_drop hI 508) 4)
  have hl4 : ((l.drop 508).take 4).length = 4 := by simp; omega
  rw [hl4] at hr4
  have hml := more_lt (s := 0) (by decide) (isB_take hI 508)
  have hw32 : IntKind.u32.wrap (unle ((l.drop 508).take 4)) = unle ((l.drop 508).take 4) := by rw [IntKind.wrap_u32]; omega
  have hcut := run_cut_h (P := Try.prog) .i64 Try.underlying23 sizeU8 (some ⟨b, o, none⟩) 512 c 508 508 rfl (by omega)
  clear hr4 hl4
  have C4 := Lib.hid (refget_ok b o c l 2 2 512 _ hn h1 hI (by decide) (by decide) (by decide) (by decide))
  have C7 := Lib.hid (refget_ok b o c l 4 8 512 _ hn h1 hI (by decide) (by decide) (by decide) (by decide))
  have C5 := Lib.hid (fun (k : Int) (w1 : World) => refknown_any k w1)
  have hbel : Below w.heap.size w (w.alloc (.cells #[.int .u8 0, .int .u64 0, .slice none 0 0] 56)) := (Below.refl _ _).alloc (Nat.le_refl _) _
  have hc0 := open_cell hn h hbel (i := 0) (by decide)
  have hc1 := open_cell hn h hbel (i := 1) (by decide)
  simp only [Nat.add_zero] at hc0
  have hbb : b < w.heap.size := h.lt ⟨b, o, none⟩ rfl (by intro e; have := congrArg List.length e; simp [bys_length] at this; simp [this] at hn)
  have hneq : (unle ((l.drop 508).take 4) != ((more 0 (l.take 508) : Nat) : Int)) = false := by rw [hsum]; simp
  clear hbel
  have HKN := Lib.hid hkn
  have h1b : (bat l 1 != 0) = false := by rw [h1n]; rfl
  rw [hN.out, Int.toNat_natCast] at hrest
  have HR := Lib.hid hrest
  have hNle : N ≤ 496 := by have := hN.out; omega
  have hw12 : IntKind.i64.wrap (12 + (N : Int)) = 12 + (N : Int) := IntWalk.i64_in _ (by omega)
  have hwN : IntKind.i64.wrap (N : Int) = (N : Int) := IntWalk.i64_in _ (by omega)
  have hcut2 := run_cut (P := Try.prog) .i64 .i64 Try.underlying23 sizeU8 b o 512 c (12 + N) 508 (12 + (N : Int)) 508 (by omega) rfl (by omega) (by omega) (by omega)
  have hrl : ((l.drop (12 + N)).take (496 - N)).length = 508 - (12 + N) := by simp; omega
  have C6 := Lib.hid (refzero_any (some ⟨b, o + (12 + N), none⟩) (508 - (12 + N)) (c - (12 + N)) ((l.drop (12 + N)).take (496 - N)) _ hrl (by rw [bys_take, bys_drop]; exact h1.part (12 + N) (496 - N)) (by omega))
  have hne12 : ¬ c = 12 + N := by omega
  have b12 : (0 : Int) ≤ 12 + (N : Int) := by omega
  have b13 : (12 : Int) + (N : Int) ≤ 508 := by omega
  have b14 : (508 : Int) ≤ (c : Int) := by omega
  have b15 : ((12 : Int) + (N : Int)).toNat = 12 + N := by omega
  have hle2 : ¬ (496 : Int) < (N : Int) := by omega
  clear hs h h1 hn hz hsum hkn hr hl2 h1n hle hrest hrl
  go_enter Try.func33, Try.ntmps33
  go_wp2_with fail
  refine C1.out.mono ?_
  rintro e w1 ⟨rfl, rfl⟩
  rw [HZ.out]
  go_wp2_with fail
  refine C2.out.mono ?_
  rintro e w1 ⟨rfl, rfl⟩
  go_wp2_with fail
  refine C3.out.mono ?_
  rintro e w1 ⟨rfl, rfl⟩
  go_wp2_with fail
  refine C4.out.mono ?_
  rintro e w1 ⟨rfl, rfl⟩
  go_wp2_with fail
  refine C7.out.mono ?_
  rintro e w1 ⟨rfl, rfl⟩
  go_wp2_with fail
  refine (C5.out _ _).mono ?_
  rintro e w1 ⟨rfl, rfl⟩
  rw [HKN.out]
  go_wp2_with fail
  refine C6.out.mono ?_
  rintro e w1 ⟨rfl, rfl⟩
  rw [HR.out]
  go_wp2
  refine bodyPost_ret (v := .tuple #[.agg #[.int .u8 0, .int .u64 0, .slice none 0 0], .int .i64 11]) (by simp [results, Try.results33, go_sem]) rfl ⟨⟨.slice none 0 0, by rw [HS.out], by rw [HS.out]; exact World.ownsRow_nil _ _ _ _⟩, ?_⟩
  exact (Below.refl _ _).alloc (Nat.le_refl _) _

set_option maxHeartbeats 2000000 in
theorem refopen_good (b o c : Nat) (l : List Int) (w : World) (hn : l.length = 512) (hcc : 512 ≤ c) (h : Rd w (some ⟨b, o, none⟩) (bys l)) (hI : IsB l) (hz : l.all (· == 0) = false) (hsum : unle ((l.drop 508).take 4) = (more 0 (l.take 508) : Nat)) (hkn : knownB (bat l 0) = true) (h1n : bat l 1 = 0) (hle : unle ((l.drop 2).take 2) ≤ 496) (hrest : ((l.drop (12 + (unle ((l.drop 2).take 2)).toNat)).take (496 - (unle ((l.drop 2).take 2)).toNat)).all (· == 0) = true) :
    Calls Try.prog 33 #[.slice (some ⟨b, o, none⟩) 512 c] w fun e w' => secAt e w.heap.size w' (sec l) ∧ Below w.heap.size w w' := by
  have hs : sec l = ⟨bat l 0, unle ((l.drop 4).take 8), (l.drop 12).take (unle ((l.drop 2).take 2)).toNat, 0⟩ := by
    unfold sec; rw [if_neg (by omega), if_neg (by rw [hz]; simp), if_neg (by simp [hsum]), if_neg]
    simp only [secForm, hrest, hkn, h1n, Bool.and_true, decide_eq_true hle]; decide
  have hr := unle_range (isB_take (isB_drop hI 2) 2)
  have hl2 : ((l.drop 2).take 2).length = 2 := by simp; omega
  rw [hl2] at hr
  obtain ⟨N, hN⟩ := Int.eq_ofNat_of_zero_le hr.1
  have hN64 : N < 65536 := by omega
  have hN := Lib.hid hN
  rw [hN.out, Int.toNat_natCast] at hs
  have HS := Lib.hid hs
  have h1 : Rd (w.alloc (.cells #[.int .u8 0, .int .u64 0, .slice none 0 0] 56)) (some ⟨b, o, none⟩) (bys l) := h.kept ((Below.refl _ _).alloc (Nat.le_refl _) _)
  have C1 := Lib.hid (refzero_any (some ⟨b, o, none⟩) 512 c l _ hn h1 (by decide))
  have HZ := Lib.hid hz
  have C2 := Lib.hid (refget_ok b o c l 508 4 512 _ hn h1 hI (by decide) (by decide) (by decide) (by decide))
  have C3 := Lib.hid (refsum_n (some ⟨b, o, none⟩) c 508 (l.take 508) _ (by rw [List.length_take]; omega) (by rw [bys_take]; exact h1.take 508) (by decide) (isB_take hI 508))
  have hr4 := unle_range (isB_take (isB_drop hI 508) 4)
  have hl4 : ((l.drop 508).take 4).length = 4 := by simp; omega
  rw [hl4] at hr4
  have hml := more_lt (s := 0) (by decide) (isB_take hI 508)
  have hw32 : IntKind.u32.wrap (unle ((l.drop 508).take 4)) = unle ((l.drop 508).take 4) := by rw [IntKind.wrap_u32]; omega
  have hcut := run_cut_h (P := Try.prog) .i64 Try.underlying23 sizeU8 (some ⟨b, o, none⟩) 512 c 508 508 rfl (by omega)
  clear hr4 hl4
  have C4 := Lib.hid (refget_ok b o c l 2 2 512 _ hn h1 hI (by decide) (by decide) (by decide) (by decide))
  have C7 := Lib.hid (refget_ok b o c l 4 8 512 _ hn h1 hI (by decide) (by decide) (by decide) (by decide))
  have C5 := Lib.hid (fun (k : Int) (w1 : World) => refknown_any k w1)
  have hbel : Below w.heap.size w (w.alloc (.cells #[.int .u8 0, .int .u64 0, .slice none 0 0] 56)) := (Below.refl _ _).alloc (Nat.le_refl _) _
  have hc0 := open_cell hn h hbel (i := 0) (by decide)
  have hc1 := open_cell hn h hbel (i := 1) (by decide)
  simp only [Nat.add_zero] at hc0
  have hbb : b < w.heap.size := h.lt ⟨b, o, none⟩ rfl (by intro e; have := congrArg List.length e; simp [bys_length] at this; simp [this] at hn)
  have hneq : (unle ((l.drop 508).take 4) != ((more 0 (l.take 508) : Nat) : Int)) = false := by rw [hsum]; simp
  clear hbel
  have HKN := Lib.hid hkn
  have h1b : (bat l 1 != 0) = false := by rw [h1n]; rfl
  rw [hN.out, Int.toNat_natCast] at hrest
  have HR := Lib.hid hrest
  have hNle : N ≤ 496 := by have := hN.out; omega
  have hw12 : IntKind.i64.wrap (12 + (N : Int)) = 12 + (N : Int) := IntWalk.i64_in _ (by omega)
  have hwN : IntKind.i64.wrap (N : Int) = (N : Int) := IntWalk.i64_in _ (by omega)
  have hcut2 := run_cut (P := Try.prog) .i64 .i64 Try.underlying23 sizeU8 b o 512 c (12 + N) 508 (12 + (N : Int)) 508 (by omega) rfl (by omega) (by omega) (by omega)
  have hrl : ((l.drop (12 + N)).take (496 - N)).length = 508 - (12 + N) := by simp; omega
  have C6 := Lib.hid (refzero_any (some ⟨b, o + (12 + N), none⟩) (508 - (12 + N)) (c - (12 + N)) ((l.drop (12 + N)).take (496 - N)) _ hrl (by rw [bys_take, bys_drop]; exact h1.part (12 + N) (496 - N)) (by omega))
  have hne12 : ¬ c = 12 + N := by omega
  have b12 : (0 : Int) ≤ 12 + (N : Int) := by omega
  have b13 : (12 : Int) + (N : Int) ≤ 508 := by omega
  have b14 : (508 : Int) ≤ (c : Int) := by omega
  have b15 : ((12 : Int) + (N : Int)).toNat = 12 + N := by omega
  have hle2 : ¬ (496 : Int) < (N : Int) := by omega
  have hpl : ((l.drop 12).take N).length = N := by simp; omega
  have HPL := Lib.hid hpl
  have hR12 : Rd (w.alloc (.cells #[.int .u8 0, .int .u64 0, .slice none 0 0] 56)).drew (some ⟨b, o + 12, none⟩) (bys ((l.drop 12).take N)) := by rw [bys_take, bys_drop]; exact h1.part 12 N
  have HR12 := Lib.hid hR12
  have hcut3 := run_cut (P := Try.prog) .i64 .i64 Try.underlying23 sizeU8 b o 512 c 12 (12 + N) 12 (12 + (N : Int)) rfl (by omega) (by omega) (by omega) (by omega)
  rw [show 12 + N - 12 = N by omega] at hcut3
  have c12 : ¬ c = 12 := by omega
  have b16 : (12 : Int) ≤ 12 + (N : Int) := by omega
  have b17 : (12 : Int) + (N : Int) ≤ (c : Int) := by omega
  have HCW : Hid (w.cell? ⟨b, o, none⟩ = some (.int .u8 (bat l 0))) := by have := open_cell hn h (Below.refl _ w) (i := 0) (by decide); simp only [Nat.add_zero] at this; exact this
  clear hs h h1 hn hz hsum hkn hr hl2 h1n hle hrest hrl hpl hR12
  go_enter Try.func33, Try.ntmps33
  go_wp2_with fail
  refine C1.out.mono ?_
  rintro e w1 ⟨rfl, rfl⟩
  rw [HZ.out]
  go_wp2_with fail
  refine C2.out.mono ?_
  rintro e w1 ⟨rfl, rfl⟩
  go_wp2_with fail
  refine C3.out.mono ?_
  rintro e w1 ⟨rfl, rfl⟩
  go_wp2_with fail
  refine C4.out.mono ?_
  rintro e w1 ⟨rfl, rfl⟩
  go_wp2_with fail
  refine C7.out.mono ?_
  rintro e w1 ⟨rfl, rfl⟩
  go_wp2_with fail
  refine (C5.out _ _).mono ?_
  rintro e w1 ⟨rfl, rfl⟩
  rw [HKN.out]
  go_wp2_with fail
  refine C6.out.mono ?_
  rintro e w1 ⟨rfl, rfl⟩
  rw [HR.out]
  go_wp2_with fail
  go_region_held3 (fun w' => w'.cell? ⟨b, o, none⟩ = some (.int .u8 (bat l 0)))
    (first
      | exact hc0
      | exact hc0'
      | exact (cell_3set hbb _).trans hc0')
    ((refine step_append_sh (by rfl) _ _ _ (by rfl) (w.heap.size + 1) 5 (.int .u8 0) 1 1 Try.underlying23 infoU8 rfl (by decide) (.slice none 0 0) 0 [] (by rfl) (World.ownsRow_nil _ _ _ _) (some ⟨b, o + 12, none⟩) N (c - 12) (bys ((l.drop 12).take N)) (by rfl) (by simp) (by rw [bys_length, HPL.out]; omega) HR12.out (bys_one _) (by unfold maxLen; omega) (by omega) (by simp) ?_; intro A8 c8 w8 hown8 hgrow8; have HB8 := Lib.hid (((ZB.init w).drewN 1).step ((Below.refl _ _).grown (B := (w.alloc (.cells #[.int .u8 0, .int .u64 0, .slice none 0 0] 56)).heap.size) hgrow8 (Nat.le_refl _) (fun k e => by cases e))); have hc0' := (HB8.out.2.cell (p := ⟨b, o, none⟩) hbb).trans (HCW.out); obtain ⟨k0', k1', k2', f0', f1', f2'⟩ := HB8.out.cells))
  go_wp2
  simp only [Nat.zero_add, List.nil_append] at hown8
  refine bodyPost_ret (v := .tuple #[.agg #[.int .u8 (bat l 0), .int .u64 (unle ((l.drop 4).take 8)), .slice A8 N c8], .int .i64 0]) (by simp [results, Try.results33, go_sem, k0', k1', k2']) rfl ⟨⟨_, by rw [HS.out], ?_⟩, ?_⟩
  · rw [HS.out]
    have hlt7 : w.heap.size < w.heap.size + 1 := Nat.lt_succ_self _
    have := ownsRow_setCell_below (ownsRow_setCell_below (ownsRow_setCell_below hown8 (a := ⟨w.heap.size, 0, none⟩) hlt7 (.int .u8 (bat l 0))) (a := ⟨w.heap.size, 1, none⟩) hlt7 (.int .u64 (unle ((l.drop 4).take 8)))) (a := ⟨w.heap.size, 2, none⟩) hlt7 (.slice A8 N c8)
    have hpl2 : ((l.drop 12).take N).length = N := HPL.out
    rw [← hpl2] at this ⊢
    exact own_mono (by simpa [hpl2] using this) (Nat.le_succ _)
  · exact HB8.out.stored _ _ _

theorem refopen_any (A : Option Addr) (n c : Nat) (l : List Int) (w : World) (hn : l.length = n) (h : Rd w A (bys l)) (hI : IsB l) (hnc : n ≤ c) :
    Calls Try.prog 33 #[.slice A n c] w fun e w' => secAt e w.heap.size w' (sec l) ∧ Below w.heap.size w w' := by
  by_cases h512 : n = 512
  · subst h512
    obtain ⟨b, o, rfl⟩ := h.some_of (by intro e; have := congrArg List.length e; rw [bys_length] at this; simp at this; simp [this] at hn)
    cases hz : l.all (· == 0) with
    | true => exact refopen_zero b o c l w hn hnc h hI hz
    | false =>
      by_cases hsum : unle ((l.drop 508).take 4) = (more 0 (l.take 508) : Nat)
      · cases hkn : knownB (bat l 0) with
        | false => exact refopen_form1 b o c l w hn hnc h hI hz hsum hkn
        | true =>
          by_cases h1n : bat l 1 = 0
          · by_cases hle : unle ((l.drop 2).take 2) ≤ 496
            · cases hrest : ((l.drop (12 + (unle ((l.drop 2).take 2)).toNat)).take (496 - (unle ((l.drop 2).take 2)).toNat)).all (· == 0) with
              | true => exact refopen_good b o c l w hn hnc h hI hz hsum hkn h1n hle hrest
              | false => exact refopen_form4 b o c l w hn hnc h hI hz hsum hkn h1n hle hrest
            · exact refopen_form3 b o c l w hn hnc h hI hz hsum hkn h1n (by omega)
          · exact refopen_form2 b o c l w hn hnc h hI hz hsum hkn h1n
      · exact refopen_sum b o c l w hn hnc h hI hz hsum
  · exact refopen_len A n c l w hn h512
end Go.Proofs.Ytdgciajdnmgcnaa
