/- The walk of SectorOpens: whatever is handed in within the reach of a slice, it answers true and writes nothing that was there. -/
import Derived.Test.YtchiopfanplebaaLawCom
import Derived.Test.YtchiopfanplebaaRefOpen2
import Derived.Test.YtchiopfanplebaaOwn
import Derived.Test.YtchiopfanplebaaHelp2
namespace Go.Proofs.Ytchiopfanplebaa
open Go.RowKit
set_option linter.unusedVariables false

theorem own_free {w : World} {base e size n : Nat} {A : Option Addr} {c : Nat} {xs : List Value} (h : w.ownsRow base e size (.slice A n c) n xs) : ∀ b o, A = some ⟨b, o, none⟩ → ∀ j, w.frozen? ⟨b, j, none⟩ = false := by
  intro b o hA j
  rcases h.2 with ⟨h, _⟩ | ⟨g, cap, cur, h1, h2, h3, _⟩
  · simp at h; rw [h.1] at hA; cases hA
  · simp at h1; rw [h1.1] at hA; simp at hA; obtain ⟨rfl, _⟩ := hA
    exact block_free (L := cur.toList) (by simpa using h3) j

set_option maxHeartbeats 4000000 in
theorem opens_good (A : Option Addr) (n c : Nat) (l : List Int) (w : World)
    (hn : l.length = n) (hA : A = none → n = 0 ∧ c = 0) (hl : Rd w A (bys l)) (bl : IsB l) (hnc : n ≤ c) (hnb : n ≤ 140737488355320) (he : (sec l).err = 0) :
    Calls Try.prog 7 #[.slice A n c] w fun e w' => e = .returned (.bool true) ∧ Below w.heap.size w w' := by
  have C0 := Lib.hid (own_any A n c l 71 w hn hA hl hnb)
  have C1 := Lib.hid (fun (w4 : World) (gi : Nat) (hg : Rd w4 (some ⟨gi, 0, none⟩) (bys l)) => open_any (some ⟨gi, 0, none⟩) n (n + 3) l w4 hn hg bl (by omega))
  have C2 := Lib.hid (fun (w4 : World) (h' : Rd w4 A (bys l)) => refopen_any A n c l w4 hn h' bl hnc)
  have C3 := Lib.hid (fun w => awake_any w)
  obtain ⟨_, _, r3, r4⟩ := sec_range bl
  have C4 := Lib.hid (fun (w4 : World) (A' : Option Addr) (c' : Nat) (B' : Option Addr) (d' : Nat) (h1 : Rd w4 A' (bys (sec l).pay)) (h2 : Rd w4 B' (bys (sec l).pay)) => sector_eq (sec l).kind (sec l).turn A' (sec l).pay.length c' (sec l).pay (sec l).kind (sec l).turn B' (sec l).pay.length d' (sec l).pay w4 rfl rfl h1 h2 r3 r3)
  have C5 := Lib.hid (fun (w4 : World) (gi : Nat) (hg : Rd w4 (some ⟨gi, 0, none⟩) (bys l)) => good_any (some ⟨gi, 0, none⟩) n (n + 3) l w4 hn hg bl (by omega))
  have C7 := Lib.hid (fun (w4 : World) (A' : Option Addr) (c' : Nat) (h1 : Rd w4 A' (bys (sec l).pay)) (hf : ∀ b o, A' = some ⟨b, o, none⟩ → ∀ j, w4.frozen? ⟨b, j, none⟩ = false) => spoil_any A' (sec l).pay.length c' (sec l).pay w4 rfl h1 hf (by omega))
  have C9 := Lib.hid (fun (w4 : World) (g : Nat) (hg : w4.heap[g]? = some (.cells (ownCells l 71).toArray 5 (0, 0))) (h' : Rd w4 A (bys l)) => kept_any g n l 71 A c w4 hn hg h' hnb)
  have hee : ((sec l).err != (sec l).err) = false := by simp
  have heb : ((sec l).err == 0) = true := by simpa using he
  have HN := Lib.hid hn
  clear hn hA he r3 r4
  go_enter Try.func7, Try.ntmps7
  go_wp2_with fail
  refine C0.out.mono ?_
  rintro e w1 ⟨gi, rfl, hgi, hhi, hb1⟩
  have HI := Lib.hid hhi
  have HB1 := Lib.hid hb1
  have hlt1 := lt_of_block hhi
  have HRI := Lib.hid (fun (W : World) (h : W.heap[gi]? = some (.cells (ownCells l 71).toArray 5 (0, 0))) => (by
    have := (rd_block h).take n
    rwa [ownCells, List.take_append_of_le_length (by rw [bys_length, HN.out]; exact Nat.le_refl _), List.take_of_length_le (by rw [bys_length, HN.out]; exact Nat.le_refl _)] at this : Rd W (some ⟨gi, 0, none⟩) (bys l)))
  clear hhi hb1
  go_wp2_with fail
  refine (C1.out _ gi (HRI.out _ HI.out)).mono ?_
  rintro e w2 ⟨⟨v2, rfl, hown2⟩, hb2⟩
  obtain ⟨A2, c2, rfl, hcc2⟩ := own_sh hown2
  have HO2 := Lib.hid (own_kept hown2 ((Below.refl _ w2).alloc (Nat.le_refl _) (.cells #[.int .u8 (sec l).kind, .int .u64 (sec l).turn, .slice A2 (sec l).pay.length c2] 36)))
  have HB2 := Lib.hid ((HB1.out.trans (hb2.mono HB1.out.size)).alloc (Nat.le_trans HB1.out.size hb2.size) (.cells #[.int .u8 (sec l).kind, .int .u64 (sec l).turn, .slice A2 (sec l).pay.length c2] 36))
  have HI2 := Lib.hid ((Below.heap_alloc w2 (.cells #[.int .u8 (sec l).kind, .int .u64 (sec l).turn, .slice A2 (sec l).pay.length c2] 36) gi (Nat.lt_of_lt_of_le hlt1 hb2.size)).trans ((hb2.block gi hlt1).trans HI.out))
  have BL2 := Lib.hid (heap_alloc_new w2 (.cells #[.int .u8 (sec l).kind, .int .u64 (sec l).turn, .slice A2 (sec l).pay.length c2] 36))
  have hs2 := hb2.size
  clear hown2 hb2
  go_wp2_with fail
  refine (C2.out _ (hl.kept HB2.out)).mono ?_
  rintro e w3 ⟨⟨v3, rfl, hown3⟩, hb3⟩
  obtain ⟨A3, c3, rfl, hcc3⟩ := own_sh hown3
  have HO3 := Lib.hid (own_kept hown3 ((Below.refl _ w3).alloc (Nat.le_refl _) (.cells #[.int .u8 (sec l).kind, .int .u64 (sec l).turn, .slice A3 (sec l).pay.length c3] 36)))
  have hs3 : w2.heap.size + 1 ≤ w3.heap.size := by have := hb3.size; simpa using this
  have K3 := Lib.hid ((hb3.mono (Nat.le_refl _)).trans ((Below.refl _ w3).alloc hb3.size (.cells #[.int .u8 (sec l).kind, .int .u64 (sec l).turn, .slice A3 (sec l).pay.length c3] 36)))
  have HP3 := Lib.hid (own_kept HO2.out K3.out)
  have HB3 := Lib.hid (HB2.out.trans (K3.out.mono HB2.out.size))
  have HI3 := Lib.hid ((K3.out.block gi (by simp; omega)).trans HI2.out)
  have BL3 := Lib.hid ((K3.out.block w2.heap.size (by simp)).trans BL2.out)
  have BM3 := Lib.hid (heap_alloc_new w3 (.cells #[.int .u8 (sec l).kind, .int .u64 (sec l).turn, .slice A3 (sec l).pay.length c3] 36))
  clear hown3 hb3 K3 HO2 HB2 HI2 BL2
  go_wp2_with fail
  refine (C3.out _).mono ?_
  rintro e w4 ⟨rfl, hb4⟩
  have HO4 := Lib.hid (own_kept HO3.out hb4)
  have HP4 := Lib.hid (own_kept HP3.out hb4)
  have HB4 := Lib.hid (HB3.out.trans (hb4.mono HB3.out.size))
  have HI4 := Lib.hid ((hb4.block gi (lt_of_block HI3.out)).trans HI3.out)
  have BL4 := Lib.hid ((hb4.block _ (lt_of_block BL3.out)).trans BL3.out)
  have BM4 := Lib.hid ((hb4.block _ (lt_of_block BM3.out)).trans BM3.out)
  clear hb4 HO3 HP3 HB3 HI3 BL3 BM3
  have x0 := block_cell (L := [.int .u8 (sec l).kind, .int .u64 (sec l).turn, .slice A2 (sec l).pay.length c2]) BL4.out 0
  have x1 := block_cell (L := [.int .u8 (sec l).kind, .int .u64 (sec l).turn, .slice A2 (sec l).pay.length c2]) BL4.out 1
  have x2 := block_cell (L := [.int .u8 (sec l).kind, .int .u64 (sec l).turn, .slice A2 (sec l).pay.length c2]) BL4.out 2
  have y0 := block_cell (L := [.int .u8 (sec l).kind, .int .u64 (sec l).turn, .slice A3 (sec l).pay.length c3]) BM4.out 0
  have y1 := block_cell (L := [.int .u8 (sec l).kind, .int .u64 (sec l).turn, .slice A3 (sec l).pay.length c3]) BM4.out 1
  have y2 := block_cell (L := [.int .u8 (sec l).kind, .int .u64 (sec l).turn, .slice A3 (sec l).pay.length c3]) BM4.out 2
  have R2 : Hid (Rd w4 A2 (bys (sec l).pay)) := by
    obtain ⟨A', c', he, _, _, hrd, _⟩ := own_rd HP4.out
    obtain ⟨rfl, rfl⟩ : A2 = A' ∧ c2 = c' := by simpa using he
    exact hrd
  have R3 : Hid (Rd w4 A3 (bys (sec l).pay)) := by
    obtain ⟨A', c', he, _, _, hrd, _⟩ := own_rd HO4.out
    obtain ⟨rfl, rfl⟩ : A3 = A' ∧ c3 = c' := by simpa using he
    exact hrd
  clear HO4 BM4
  go_wp2_with fail
  refine (C4.out _ A2 c2 A3 c3 R2.out R3.out).mono ?_
  rintro e w5 ⟨rfl, hb5⟩
  rw [show decide (True ∧ True ∧ True) = true by decide]
  have HP5 := Lib.hid (own_kept HP4.out hb5)
  have HR5 := Lib.hid (R2.out.kept hb5)
  have HB5 := Lib.hid (HB4.out.trans (hb5.mono HB4.out.size))
  have HI5 := Lib.hid ((hb5.block gi (lt_of_block HI4.out)).trans HI4.out)
  have BL5 := Lib.hid ((hb5.block _ (lt_of_block BL4.out)).trans BL4.out)
  clear hb5 HP4 HB4 HI4 BL4 R2 R3 x0 x1 x2 y0 y1 y2
  go_wp2_with fail
  refine (C5.out _ gi (HRI.out _ HI5.out)).mono ?_
  rintro e w6 ⟨rfl, hb6⟩
  rw [heb]
  have HP6 := Lib.hid (own_kept HP5.out hb6)
  have HR6 := Lib.hid (HR5.out.kept hb6)
  have HB6 := Lib.hid (HB5.out.trans (hb6.mono HB5.out.size))
  have HI6 := Lib.hid ((hb6.block gi (lt_of_block HI5.out)).trans HI5.out)
  have BL6 := Lib.hid ((hb6.block _ (lt_of_block BL5.out)).trans BL5.out)
  clear hb6 HP5 HR5 HB5 HI5 BL5
  have x2 := block_cell (L := [.int .u8 (sec l).kind, .int .u64 (sec l).turn, .slice A2 (sec l).pay.length c2]) BL6.out 2
  go_wp2_with fail
  refine (C7.out _ A2 c2 HR6.out (own_free HP6.out)).mono ?_
  rintro e w7 ⟨rfl, hc7⟩
  have hb7 : Below w1.heap.size w6 w7 := hc7.below (fun k hk ⟨a, ha, hk2⟩ => by have := (own_base' HP6.out a ha).1; omega) (Nat.le_of_lt (Nat.lt_of_le_of_lt hs2 (lt_of_block BL6.out)))
  have HB7 := Lib.hid (HB6.out.trans (hb7.mono HB1.out.size))
  have HI7 := Lib.hid ((hb7.block gi hlt1).trans HI6.out)
  clear hb7 hc7 x2
  go_wp2_with fail
  refine (C9.out _ gi HI7.out (hl.kept HB7.out)).mono ?_
  rintro e w8 ⟨rfl, hb8⟩
  have HB8 := Lib.hid (HB7.out.trans (hb8.mono HB7.out.size))
  clear hb8
  go_wp2
  go_ret
  exact ⟨rfl, HB8.out⟩

set_option maxHeartbeats 4000000 in
theorem opens_bad (A : Option Addr) (n c : Nat) (l : List Int) (w : World)
    (hn : l.length = n) (hA : A = none → n = 0 ∧ c = 0) (hl : Rd w A (bys l)) (bl : IsB l) (hnc : n ≤ c) (hnb : n ≤ 140737488355320) (he : (sec l).err ≠ 0) :
    Calls Try.prog 7 #[.slice A n c] w fun e w' => e = .returned (.bool true) ∧ Below w.heap.size w w' := by
  have C0 := Lib.hid (own_any A n c l 71 w hn hA hl hnb)
  have C1 := Lib.hid (fun (w4 : World) (gi : Nat) (hg : Rd w4 (some ⟨gi, 0, none⟩) (bys l)) => open_any (some ⟨gi, 0, none⟩) n (n + 3) l w4 hn hg bl (by omega))
  have C2 := Lib.hid (fun (w4 : World) (h' : Rd w4 A (bys l)) => refopen_any A n c l w4 hn h' bl hnc)
  have C3 := Lib.hid (fun w => awake_any w)
  obtain ⟨_, _, r3, r4⟩ := sec_range bl
  have C4 := Lib.hid (fun (w4 : World) (A' : Option Addr) (c' : Nat) (B' : Option Addr) (d' : Nat) (h1 : Rd w4 A' (bys (sec l).pay)) (h2 : Rd w4 B' (bys (sec l).pay)) => sector_eq (sec l).kind (sec l).turn A' (sec l).pay.length c' (sec l).pay (sec l).kind (sec l).turn B' (sec l).pay.length d' (sec l).pay w4 rfl rfl h1 h2 r3 r3)
  have C5 := Lib.hid (fun (w4 : World) (gi : Nat) (hg : Rd w4 (some ⟨gi, 0, none⟩) (bys l)) => good_any (some ⟨gi, 0, none⟩) n (n + 3) l w4 hn hg bl (by omega))
  have C7 := Lib.hid (fun (w4 : World) (A' : Option Addr) (c' : Nat) (h1 : Rd w4 A' (bys (sec l).pay)) (hf : ∀ b o, A' = some ⟨b, o, none⟩ → ∀ j, w4.frozen? ⟨b, j, none⟩ = false) => spoil_any A' (sec l).pay.length c' (sec l).pay w4 rfl h1 hf (by omega))
  have C9 := Lib.hid (fun (w4 : World) (g : Nat) (hg : w4.heap[g]? = some (.cells (ownCells l 71).toArray 5 (0, 0))) (h' : Rd w4 A (bys l)) => kept_any g n l 71 A c w4 hn hg h' hnb)
  have hee : ((sec l).err != (sec l).err) = false := by simp
  have heb : ((sec l).err == 0) = false := by simpa using he
  have HN := Lib.hid hn
  clear hn hA he r3 r4
  go_enter Try.func7, Try.ntmps7
  go_wp2_with fail
  refine C0.out.mono ?_
  rintro e w1 ⟨gi, rfl, hgi, hhi, hb1⟩
  have HI := Lib.hid hhi
  have HB1 := Lib.hid hb1
  have hlt1 := lt_of_block hhi
  have HRI := Lib.hid (fun (W : World) (h : W.heap[gi]? = some (.cells (ownCells l 71).toArray 5 (0, 0))) => (by
    have := (rd_block h).take n
    rwa [ownCells, List.take_append_of_le_length (by rw [bys_length, HN.out]; exact Nat.le_refl _), List.take_of_length_le (by rw [bys_length, HN.out]; exact Nat.le_refl _)] at this : Rd W (some ⟨gi, 0, none⟩) (bys l)))
  clear hhi hb1
  go_wp2_with fail
  refine (C1.out _ gi (HRI.out _ HI.out)).mono ?_
  rintro e w2 ⟨⟨v2, rfl, hown2⟩, hb2⟩
  obtain ⟨A2, c2, rfl, hcc2⟩ := own_sh hown2
  have HO2 := Lib.hid (own_kept hown2 ((Below.refl _ w2).alloc (Nat.le_refl _) (.cells #[.int .u8 (sec l).kind, .int .u64 (sec l).turn, .slice A2 (sec l).pay.length c2] 36)))
  have HB2 := Lib.hid ((HB1.out.trans (hb2.mono HB1.out.size)).alloc (Nat.le_trans HB1.out.size hb2.size) (.cells #[.int .u8 (sec l).kind, .int .u64 (sec l).turn, .slice A2 (sec l).pay.length c2] 36))
  have HI2 := Lib.hid ((Below.heap_alloc w2 (.cells #[.int .u8 (sec l).kind, .int .u64 (sec l).turn, .slice A2 (sec l).pay.length c2] 36) gi (Nat.lt_of_lt_of_le hlt1 hb2.size)).trans ((hb2.block gi hlt1).trans HI.out))
  have BL2 := Lib.hid (heap_alloc_new w2 (.cells #[.int .u8 (sec l).kind, .int .u64 (sec l).turn, .slice A2 (sec l).pay.length c2] 36))
  have hs2 := hb2.size
  clear hown2 hb2
  go_wp2_with fail
  refine (C2.out _ (hl.kept HB2.out)).mono ?_
  rintro e w3 ⟨⟨v3, rfl, hown3⟩, hb3⟩
  obtain ⟨A3, c3, rfl, hcc3⟩ := own_sh hown3
  have HO3 := Lib.hid (own_kept hown3 ((Below.refl _ w3).alloc (Nat.le_refl _) (.cells #[.int .u8 (sec l).kind, .int .u64 (sec l).turn, .slice A3 (sec l).pay.length c3] 36)))
  have hs3 : w2.heap.size + 1 ≤ w3.heap.size := by have := hb3.size; simpa using this
  have K3 := Lib.hid ((hb3.mono (Nat.le_refl _)).trans ((Below.refl _ w3).alloc hb3.size (.cells #[.int .u8 (sec l).kind, .int .u64 (sec l).turn, .slice A3 (sec l).pay.length c3] 36)))
  have HP3 := Lib.hid (own_kept HO2.out K3.out)
  have HB3 := Lib.hid (HB2.out.trans (K3.out.mono HB2.out.size))
  have HI3 := Lib.hid ((K3.out.block gi (by simp; omega)).trans HI2.out)
  have BL3 := Lib.hid ((K3.out.block w2.heap.size (by simp)).trans BL2.out)
  have BM3 := Lib.hid (heap_alloc_new w3 (.cells #[.int .u8 (sec l).kind, .int .u64 (sec l).turn, .slice A3 (sec l).pay.length c3] 36))
  clear hown3 hb3 K3 HO2 HB2 HI2 BL2
  go_wp2_with fail
  refine (C3.out _).mono ?_
  rintro e w4 ⟨rfl, hb4⟩
  have HO4 := Lib.hid (own_kept HO3.out hb4)
  have HP4 := Lib.hid (own_kept HP3.out hb4)
  have HB4 := Lib.hid (HB3.out.trans (hb4.mono HB3.out.size))
  have HI4 := Lib.hid ((hb4.block gi (lt_of_block HI3.out)).trans HI3.out)
  have BL4 := Lib.hid ((hb4.block _ (lt_of_block BL3.out)).trans BL3.out)
  have BM4 := Lib.hid ((hb4.block _ (lt_of_block BM3.out)).trans BM3.out)
  clear hb4 HO3 HP3 HB3 HI3 BL3 BM3
  have x0 := block_cell (L := [.int .u8 (sec l).kind, .int .u64 (sec l).turn, .slice A2 (sec l).pay.length c2]) BL4.out 0
  have x1 := block_cell (L := [.int .u8 (sec l).kind, .int .u64 (sec l).turn, .slice A2 (sec l).pay.length c2]) BL4.out 1
  have x2 := block_cell (L := [.int .u8 (sec l).kind, .int .u64 (sec l).turn, .slice A2 (sec l).pay.length c2]) BL4.out 2
  have y0 := block_cell (L := [.int .u8 (sec l).kind, .int .u64 (sec l).turn, .slice A3 (sec l).pay.length c3]) BM4.out 0
  have y1 := block_cell (L := [.int .u8 (sec l).kind, .int .u64 (sec l).turn, .slice A3 (sec l).pay.length c3]) BM4.out 1
  have y2 := block_cell (L := [.int .u8 (sec l).kind, .int .u64 (sec l).turn, .slice A3 (sec l).pay.length c3]) BM4.out 2
  have R2 : Hid (Rd w4 A2 (bys (sec l).pay)) := by
    obtain ⟨A', c', he, _, _, hrd, _⟩ := own_rd HP4.out
    obtain ⟨rfl, rfl⟩ : A2 = A' ∧ c2 = c' := by simpa using he
    exact hrd
  have R3 : Hid (Rd w4 A3 (bys (sec l).pay)) := by
    obtain ⟨A', c', he, _, _, hrd, _⟩ := own_rd HO4.out
    obtain ⟨rfl, rfl⟩ : A3 = A' ∧ c3 = c' := by simpa using he
    exact hrd
  clear HO4 BM4
  go_wp2_with fail
  refine (C4.out _ A2 c2 A3 c3 R2.out R3.out).mono ?_
  rintro e w5 ⟨rfl, hb5⟩
  rw [show decide (True ∧ True ∧ True) = true by decide]
  have HP5 := Lib.hid (own_kept HP4.out hb5)
  have HR5 := Lib.hid (R2.out.kept hb5)
  have HB5 := Lib.hid (HB4.out.trans (hb5.mono HB4.out.size))
  have HI5 := Lib.hid ((hb5.block gi (lt_of_block HI4.out)).trans HI4.out)
  have BL5 := Lib.hid ((hb5.block _ (lt_of_block BL4.out)).trans BL4.out)
  clear hb5 HP4 HB4 HI4 BL4 R2 R3 x0 x1 x2 y0 y1 y2
  go_wp2_with fail
  refine (C5.out _ gi (HRI.out _ HI5.out)).mono ?_
  rintro e w6 ⟨rfl, hb6⟩
  rw [heb]
  have HP6 := Lib.hid (own_kept HP5.out hb6)
  have HR6 := Lib.hid (HR5.out.kept hb6)
  have HB6 := Lib.hid (HB5.out.trans (hb6.mono HB5.out.size))
  have HI6 := Lib.hid ((hb6.block gi (lt_of_block HI5.out)).trans HI5.out)
  have BL6 := Lib.hid ((hb6.block _ (lt_of_block BL5.out)).trans BL5.out)
  clear hb6 HP5 HR5 HB5 HI5 BL5
  have x2 := block_cell (L := [.int .u8 (sec l).kind, .int .u64 (sec l).turn, .slice A2 (sec l).pay.length c2]) BL6.out 2
  go_wp2_with fail
  refine (C7.out _ A2 c2 HR6.out (own_free HP6.out)).mono ?_
  rintro e w7 ⟨rfl, hc7⟩
  have hb7 : Below w1.heap.size w6 w7 := hc7.below (fun k hk ⟨a, ha, hk2⟩ => by have := (own_base' HP6.out a ha).1; omega) (Nat.le_of_lt (Nat.lt_of_le_of_lt hs2 (lt_of_block BL6.out)))
  have HB7 := Lib.hid (HB6.out.trans (hb7.mono HB1.out.size))
  have HI7 := Lib.hid ((hb7.block gi hlt1).trans HI6.out)
  clear hb7 hc7 x2
  go_wp2_with fail
  refine (C9.out _ gi HI7.out (hl.kept HB7.out)).mono ?_
  rintro e w8 ⟨rfl, hb8⟩
  have HB8 := Lib.hid (HB7.out.trans (hb8.mono HB7.out.size))
  clear hb8
  go_wp2
  go_ret
  exact ⟨rfl, HB8.out⟩

theorem opens_walk (A : Option Addr) (n c : Nat) (z : List Int) (w : World) (w2 : IsRow .u8 w A n c z) (r2 : c * 1 ≤ 140737488351232) :
    Calls Try.prog 7 #[.slice A n c] w fun e w' => e = .returned (.bool true) ∧ Below w.heap.size w w' := by
  obtain ⟨l, hn, hl, bl, _, hA, hnc⟩ := row_rd w2
  by_cases he : (sec l).err = 0
  · exact opens_good A n c l w hn hA hl bl hnc (by omega) he
  · exact opens_bad A n c l w hn hA hl bl hnc (by omega) he
end Go.Proofs.Ytchiopfanplebaa
