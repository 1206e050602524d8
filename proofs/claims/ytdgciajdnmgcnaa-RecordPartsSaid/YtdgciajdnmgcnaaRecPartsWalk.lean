/- The walk of RecordParts: whatever is handed in within the reach of a slice, it answers true and writes nothing that was there. -/
import Derived.Test.YtdgciajdnmgcnaaRecRefPart
import Derived.Test.YtdgciajdnmgcnaaRecFrame
namespace Go.Proofs.Ytdgciajdnmgcnaa
open Go.RowKit
set_option linter.unusedVariables false

/-- Data that lies in a block that was not there before. -/
def DataAt (base : Nat) (w : World) (A : Option Addr) (l : List Int) : Prop :=
  Rd w A (bys l) ∧ ∀ a, A = some a → base ≤ a.block ∧ a.block < w.heap.size ∧ ∀ j, w.frozen? ⟨a.block, j, none⟩ = false
theorem DataAt.kept {base : Nat} {w w' : World} {A : Option Addr} {l : List Int} (h : DataAt base w A l) (hb : Below w.heap.size w w') : DataAt base w' A l :=
  ⟨h.1.kept hb, fun a ha => ⟨(h.2 a ha).1, Nat.lt_of_lt_of_le (h.2 a ha).2.1 hb.size, fun j => (hb.frozen (p := ⟨a.block, j, none⟩) (h.2 a ha).2.1).trans ((h.2 a ha).2.2 j)⟩⟩
theorem frm_data {l : List Int} (hI : IsB l) : IsB (frm l).data ∧ (frm l).data.length ≤ 496 := by
  obtain ⟨_, _, r3, r4⟩ := sec_range hI
  unfold frm frmS
  split
  · exact ⟨fun x hx => by simp at hx, by simp⟩
  split
  · exact ⟨isB_drop r3 2, by simp; omega⟩
  · exact ⟨fun x hx => by simp at hx, by simp⟩

set_option maxRecDepth 100000 in
set_option maxHeartbeats 4000000 in
theorem parts_all (A : Option Addr) (n c : Nat) (l : List Int) (w : World)
    (hn : l.length = n) (hA : A = none → n = 0 ∧ c = 0) (hl : Rd w A (bys l)) (bl : IsB l) (hnc : n ≤ c) (hnb : n ≤ 140737488355320) :
    Calls Try.prog 4 #[.slice A n c] w fun e w' => e = .returned (.bool true) ∧ Below w.heap.size w w' := by
  have C0 := Lib.hid (own_any A n c l 71 w hn hA hl hnb)
  have C1 := Lib.hid (fun (w4 : World) (gi : Nat) (hg : Rd w4 (some ⟨gi, 0, none⟩) (bys l)) => part_any (some ⟨gi, 0, none⟩) n (n + 3) l w4 hn hg bl (by omega))
  have C2 := Lib.hid (fun (w4 : World) (h' : Rd w4 A (bys l)) => refpart_any A n c l w4 hn h' bl hnc)
  have C3 := Lib.hid (fun w => awake_any w)
  obtain ⟨r3, r4⟩ := frm_data bl
  have C4 := Lib.hid (fun (w4 : World) (A' : Option Addr) (c' : Nat) (B' : Option Addr) (d' : Nat) (h1 : Rd w4 A' (bys (frm l).data)) (h2 : Rd w4 B' (bys (frm l).data)) => frame_same (frm l).age (frm l).first (frm l).of A' (frm l).data.length c' B' d' (frm l).data w4 rfl h1 h2 r3)
  have C7 := Lib.hid (fun (w4 : World) (A' : Option Addr) (c' : Nat) (h1 : Rd w4 A' (bys (frm l).data)) (hf : ∀ b o, A' = some ⟨b, o, none⟩ → ∀ j, w4.frozen? ⟨b, j, none⟩ = false) => spoil_any A' (frm l).data.length c' (frm l).data w4 rfl h1 hf (by omega))
  have C9 := Lib.hid (fun (w4 : World) (g : Nat) (hg : w4.heap[g]? = some (.cells (ownCells l 71).toArray 5 (0, 0))) (h' : Rd w4 A (bys l)) => kept_any g n l 71 A c w4 hn hg h' hnb)
  have hee : ((frm l).err != (frm l).err) = false := by simp
  have HN := Lib.hid hn
  clear hn hA r3 r4
  go_enter Try.func4, Try.ntmps4
  go_wp2_with fail
  refine C0.out.mono ?_
  rintro e w1 ⟨gi, rfl, hgi, hhi, hb1⟩
  have HI := Lib.hid hhi
  have HB1 := Lib.hid hb1
  have hlt1 := lt_of_block hhi
  have HRI : Hid (Rd w1 (some ⟨gi, 0, none⟩) (bys l)) := by
    have := (rd_block HI.out).take n
    rwa [ownCells, List.take_append_of_le_length (by rw [bys_length, HN.out]; exact Nat.le_refl _), List.take_of_length_le (by rw [bys_length, HN.out]; exact Nat.le_refl _)] at this
  clear hhi hb1
  go_wp2_with fail
  refine (C1.out _ gi HRI.out).mono ?_
  rintro e w2 ⟨⟨A2, c2, rfl, hcc2, hrd2, hat2⟩, hb2⟩
  have hD2 : DataAt w1.heap.size w2 A2 (frm l).data := ⟨hrd2, hat2⟩
  have HO2 := Lib.hid (hD2.kept ((Below.refl _ w2).alloc (Nat.le_refl _) (.cells #[.int .u64 (frm l).age, .int .u64 (frm l).first, .int .i64 (frm l).of, .slice A2 (frm l).data.length c2] 36)))
  have HB2 := Lib.hid ((HB1.out.trans (hb2.mono HB1.out.size)).alloc (Nat.le_trans HB1.out.size hb2.size) (.cells #[.int .u64 (frm l).age, .int .u64 (frm l).first, .int .i64 (frm l).of, .slice A2 (frm l).data.length c2] 36))
  have HI2 := Lib.hid ((Below.heap_alloc w2 (.cells #[.int .u64 (frm l).age, .int .u64 (frm l).first, .int .i64 (frm l).of, .slice A2 (frm l).data.length c2] 36) gi (Nat.lt_of_lt_of_le hlt1 hb2.size)).trans ((hb2.block gi hlt1).trans HI.out))
  have BL2 := Lib.hid (heap_alloc_new w2 (.cells #[.int .u64 (frm l).age, .int .u64 (frm l).first, .int .i64 (frm l).of, .slice A2 (frm l).data.length c2] 36))
  have hs2 := hb2.size
  clear hrd2 hat2 hD2 hb2
  go_wp2_with fail
  refine (C2.out _ (hl.kept HB2.out)).mono ?_
  rintro e w3 ⟨⟨A3, c3, rfl, hcc3, hrd3, hat3⟩, hb3⟩
  have HO3 := Lib.hid (hrd3.kept ((Below.refl _ w3).alloc (Nat.le_refl _) (.cells #[.int .u64 (frm l).age, .int .u64 (frm l).first, .int .i64 (frm l).of, .slice A3 (frm l).data.length c3] 36)))
  have hs3 : w2.heap.size + 1 ≤ w3.heap.size := by have := hb3.size; simpa using this
  have K3 := Lib.hid ((hb3.mono (Nat.le_refl _)).trans ((Below.refl _ w3).alloc hb3.size (.cells #[.int .u64 (frm l).age, .int .u64 (frm l).first, .int .i64 (frm l).of, .slice A3 (frm l).data.length c3] 36)))
  have HP3 := Lib.hid (HO2.out.kept K3.out)
  have HB3 := Lib.hid (HB2.out.trans (K3.out.mono HB2.out.size))
  have HI3 := Lib.hid ((K3.out.block gi (by simp; omega)).trans HI2.out)
  have BL3 := Lib.hid ((K3.out.block w2.heap.size (by simp)).trans BL2.out)
  have BM3 := Lib.hid (heap_alloc_new w3 (.cells #[.int .u64 (frm l).age, .int .u64 (frm l).first, .int .i64 (frm l).of, .slice A3 (frm l).data.length c3] 36))
  clear hrd3 hat3 hb3 K3 HO2 HB2 HI2 BL2
  go_wp2_with fail
  refine (C3.out _).mono ?_
  rintro e w4 ⟨rfl, hb4⟩
  have HO4 := Lib.hid (HO3.out.kept hb4)
  have HP4 := Lib.hid (HP3.out.kept hb4)
  have HB4 := Lib.hid (HB3.out.trans (hb4.mono HB3.out.size))
  have HI4 := Lib.hid ((hb4.block gi (lt_of_block HI3.out)).trans HI3.out)
  have BL4 := Lib.hid ((hb4.block _ (lt_of_block BL3.out)).trans BL3.out)
  have BM4 := Lib.hid ((hb4.block _ (lt_of_block BM3.out)).trans BM3.out)
  clear hb4 HO3 HP3 HB3 HI3 BL3 BM3
  have x0 := block_cell (L := [.int .u64 (frm l).age, .int .u64 (frm l).first, .int .i64 (frm l).of, .slice A2 (frm l).data.length c2]) BL4.out 0
  have x1 := block_cell (L := [.int .u64 (frm l).age, .int .u64 (frm l).first, .int .i64 (frm l).of, .slice A2 (frm l).data.length c2]) BL4.out 1
  have x2 := block_cell (L := [.int .u64 (frm l).age, .int .u64 (frm l).first, .int .i64 (frm l).of, .slice A2 (frm l).data.length c2]) BL4.out 2
  have x3 := block_cell (L := [.int .u64 (frm l).age, .int .u64 (frm l).first, .int .i64 (frm l).of, .slice A2 (frm l).data.length c2]) BL4.out 3
  have y0 := block_cell (L := [.int .u64 (frm l).age, .int .u64 (frm l).first, .int .i64 (frm l).of, .slice A3 (frm l).data.length c3]) BM4.out 0
  have y1 := block_cell (L := [.int .u64 (frm l).age, .int .u64 (frm l).first, .int .i64 (frm l).of, .slice A3 (frm l).data.length c3]) BM4.out 1
  have y2 := block_cell (L := [.int .u64 (frm l).age, .int .u64 (frm l).first, .int .i64 (frm l).of, .slice A3 (frm l).data.length c3]) BM4.out 2
  have y3 := block_cell (L := [.int .u64 (frm l).age, .int .u64 (frm l).first, .int .i64 (frm l).of, .slice A3 (frm l).data.length c3]) BM4.out 3
  clear BM4
  go_wp2_with fail
  refine (C4.out _ A2 c2 A3 c3 HP4.out.1 HO4.out).mono ?_
  rintro e w5 ⟨rfl, hb5⟩
  have HP5 := Lib.hid (HP4.out.kept hb5)
  have HB5 := Lib.hid (HB4.out.trans (hb5.mono HB4.out.size))
  have HI5 := Lib.hid ((hb5.block gi (lt_of_block HI4.out)).trans HI4.out)
  have BL5 := Lib.hid ((hb5.block _ (lt_of_block BL4.out)).trans BL4.out)
  clear hb5 HP4 HB4 HI4 BL4 x0 x1 x2 x3 y0 y1 y2 y3
  have x3 := block_cell (L := [.int .u64 (frm l).age, .int .u64 (frm l).first, .int .i64 (frm l).of, .slice A2 (frm l).data.length c2]) BL5.out 3
  go_wp2_with fail
  refine (C7.out _ A2 c2 HP5.out.1 (fun b o ha j => (HP5.out.2 _ ha).2.2 j)).mono ?_
  rintro e w7 ⟨rfl, hc7⟩
  have hb7 : Below w1.heap.size w5 w7 := hc7.below (fun k hk ⟨a, ha, hk2⟩ => by have := (HP5.out.2 a ha).1; omega) (Nat.le_of_lt (Nat.lt_of_le_of_lt hs2 (lt_of_block BL5.out)))
  have HB7 := Lib.hid (HB5.out.trans (hb7.mono HB1.out.size))
  have HI7 := Lib.hid ((hb7.block gi hlt1).trans HI5.out)
  clear hb7 hc7 x3
  go_wp2_with fail
  refine (C9.out _ gi HI7.out (hl.kept HB7.out)).mono ?_
  rintro e w8 ⟨rfl, hb8⟩
  have HB8 := Lib.hid (HB7.out.trans (hb8.mono HB7.out.size))
  clear hb8
  go_wp2
  go_ret
  exact ⟨rfl, HB8.out⟩

theorem parts_walk (A : Option Addr) (n c : Nat) (z : List Int) (w : World) (w0 : IsRow .u8 w A n c z) (r0 : c * 1 ≤ 140737488351232) :
    Calls Try.prog 4 #[.slice A n c] w fun e w' => e = .returned (.bool true) ∧ Below w.heap.size w w' := by
  obtain ⟨l, hn, hl, bl, _, hA, hnc⟩ := row_rd w0
  exact parts_all A n c l w hn hA hl bl hnc (by omega)
end Go.Proofs.Ytdgciajdnmgcnaa
