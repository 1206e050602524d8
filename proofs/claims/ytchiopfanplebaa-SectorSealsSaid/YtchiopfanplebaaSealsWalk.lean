/- The walk of SectorSeals: whatever is handed in within the reach of a slice, it answers true and writes nothing that was there. -/
import Derived.Test.YtchiopfanplebaaLawCom
import Derived.Test.YtchiopfanplebaaRefSeal
import Derived.Test.YtchiopfanplebaaOwn
namespace Go.Proofs.Ytchiopfanplebaa
open Go.RowKit
set_option linter.unusedVariables false

set_option maxHeartbeats 2000000 in
theorem seals_unk (k t : Int) (A : Option Addr) (n c : Nat) (l : List Int) (w : World) (hk : 0 ≤ k ∧ k < 256) (ht : 0 ≤ t ∧ t < 18446744073709551616)
    (hn : l.length = n) (hA : A = none → n = 0 ∧ c = 0) (hl : Rd w A (bys l)) (bl : IsB l) (hnb : n ≤ 140737488355320) (h1 : knownB k = false) :
    Calls Try.prog 3 #[.int .u8 k, .int .u64 t, .slice A n c] w fun e w' => e = .returned (.bool true) ∧ Below w.heap.size w w' := by
  have C0 := Lib.hid (own_any A n c l 71 w hn hA hl hnb)
  have C3 := Lib.hid (fun w => awake_any w)
  have C4 := Lib.hid (fun w => known_any k w)
  have C5 := Lib.hid (fun w => refknown_any k w)
  have C9 := Lib.hid (fun (w4 : World) (g : Nat) (hg : w4.heap[g]? = some (.cells (ownCells l 71).toArray 5 (0, 0))) (h' : Rd w4 A (bys l)) => kept_any g n l 71 A c w4 hn hg h' hnb)
  have C1 := Lib.hid (fun (w4 : World) (A' : Option Addr) (c' : Nat) => seal_unk k t A' n c' w4 h1)
  have C2 := Lib.hid (fun (w4 : World) => refseal_unk k t A n c w4 h1)
  have C6 := Lib.hid (fun (w4 : World) => bytes_any none 0 0 [] none 0 0 [] w4 rfl rfl (Rd.nil _ _) (Rd.nil _ _) (fun x hx => by simp at hx) (fun x hx => by simp at hx))
  have C7 := Lib.hid (fun (w4 : World) => spoil_any none 0 0 [] w4 rfl (Rd.nil _ _) (fun b o e => by cases e) (by decide))
  clear h1 hn hA
  go_enter Try.func3, Try.ntmps3
  go_wp2_with fail
  refine C0.out.mono ?_
  rintro e w1 ⟨gi, rfl, hgi, hhi, hb1⟩
  have HI := Lib.hid hhi
  have HB1 := Lib.hid hb1
  clear hhi hb1
  go_wp2_with fail
  refine (C1.out _ _ _).mono ?_
  rintro e w2 ⟨rfl, rfl⟩
  go_wp2_with fail
  refine (C2.out _).mono ?_
  rintro e w2 ⟨rfl, rfl⟩
  go_wp2_with fail
  refine (C3.out _).mono ?_
  rintro e w2 ⟨rfl, hb2⟩
  have HB2 := Lib.hid (HB1.out.trans (hb2.mono HB1.out.size))
  have HI2 := Lib.hid ((hb2.block gi (lt_of_block HI.out)).trans HI.out)
  clear hb2
  go_wp2_with fail
  refine (C4.out _).mono ?_
  rintro e w3 ⟨rfl, rfl⟩
  go_wp2_with fail
  refine (C5.out _).mono ?_
  rintro e w3 ⟨rfl, rfl⟩
  go_wp2_with fail
  refine (C6.out _).mono ?_
  rintro e w3 ⟨rfl, rfl⟩
  rw [show decide True = true from rfl]
  go_wp2_with fail
  refine (C7.out _).mono ?_
  rintro e w3 ⟨rfl, hc3⟩
  have hb3 : Below w2.heap.size w2 w3 := hc3.below (fun k hk ⟨a, ha, _⟩ => by cases ha) (Nat.le_refl _)
  have HB3 := Lib.hid (HB2.out.trans (hb3.mono HB2.out.size))
  have HI3 := Lib.hid ((hb3.block gi (lt_of_block HI2.out)).trans HI2.out)
  clear hb3 hc3
  go_wp2_with fail
  refine (C9.out _ gi HI3.out (hl.kept HB3.out)).mono ?_
  rintro e w4 ⟨rfl, hb4⟩
  have HB4 := Lib.hid (HB3.out.trans (hb4.mono HB3.out.size))
  clear hb4
  go_wp2
  go_ret
  exact ⟨rfl, HB4.out⟩

set_option maxHeartbeats 2000000 in
theorem seals_large (k t : Int) (A : Option Addr) (n c : Nat) (l : List Int) (w : World) (hk : 0 ≤ k ∧ k < 256) (ht : 0 ≤ t ∧ t < 18446744073709551616)
    (hn : l.length = n) (hA : A = none → n = 0 ∧ c = 0) (hl : Rd w A (bys l)) (bl : IsB l) (hnb : n ≤ 140737488355320) (h1 : knownB k = true) (h2 : 496 < n) :
    Calls Try.prog 3 #[.int .u8 k, .int .u64 t, .slice A n c] w fun e w' => e = .returned (.bool true) ∧ Below w.heap.size w w' := by
  have C0 := Lib.hid (own_any A n c l 71 w hn hA hl hnb)
  have C3 := Lib.hid (fun w => awake_any w)
  have C4 := Lib.hid (fun w => known_any k w)
  have C5 := Lib.hid (fun w => refknown_any k w)
  have C9 := Lib.hid (fun (w4 : World) (g : Nat) (hg : w4.heap[g]? = some (.cells (ownCells l 71).toArray 5 (0, 0))) (h' : Rd w4 A (bys l)) => kept_any g n l 71 A c w4 hn hg h' hnb)
  have C1 := Lib.hid (fun (w4 : World) (A' : Option Addr) (c' : Nat) => seal_large k t A' n c' w4 h1 h2)
  have C2 := Lib.hid (fun (w4 : World) => refseal_large k t A n c w4 h1 h2)
  have C6 := Lib.hid (fun (w4 : World) => bytes_any none 0 0 [] none 0 0 [] w4 rfl rfl (Rd.nil _ _) (Rd.nil _ _) (fun x hx => by simp at hx) (fun x hx => by simp at hx))
  have C7 := Lib.hid (fun (w4 : World) => spoil_any none 0 0 [] w4 rfl (Rd.nil _ _) (fun b o e => by cases e) (by decide))
  clear h1 h2 hn hA
  go_enter Try.func3, Try.ntmps3
  go_wp2_with fail
  refine C0.out.mono ?_
  rintro e w1 ⟨gi, rfl, hgi, hhi, hb1⟩
  have HI := Lib.hid hhi
  have HB1 := Lib.hid hb1
  clear hhi hb1
  go_wp2_with fail
  refine (C1.out _ _ _).mono ?_
  rintro e w2 ⟨rfl, rfl⟩
  go_wp2_with fail
  refine (C2.out _).mono ?_
  rintro e w2 ⟨rfl, rfl⟩
  go_wp2_with fail
  refine (C3.out _).mono ?_
  rintro e w2 ⟨rfl, hb2⟩
  have HB2 := Lib.hid (HB1.out.trans (hb2.mono HB1.out.size))
  have HI2 := Lib.hid ((hb2.block gi (lt_of_block HI.out)).trans HI.out)
  clear hb2
  go_wp2_with fail
  refine (C4.out _).mono ?_
  rintro e w3 ⟨rfl, rfl⟩
  go_wp2_with fail
  refine (C5.out _).mono ?_
  rintro e w3 ⟨rfl, rfl⟩
  go_wp2_with fail
  refine (C6.out _).mono ?_
  rintro e w3 ⟨rfl, rfl⟩
  rw [show decide True = true from rfl]
  go_wp2_with fail
  refine (C7.out _).mono ?_
  rintro e w3 ⟨rfl, hc3⟩
  have hb3 : Below w2.heap.size w2 w3 := hc3.below (fun k hk ⟨a, ha, _⟩ => by cases ha) (Nat.le_refl _)
  have HB3 := Lib.hid (HB2.out.trans (hb3.mono HB2.out.size))
  have HI3 := Lib.hid ((hb3.block gi (lt_of_block HI2.out)).trans HI2.out)
  clear hb3 hc3
  go_wp2_with fail
  refine (C9.out _ gi HI3.out (hl.kept HB3.out)).mono ?_
  rintro e w4 ⟨rfl, hb4⟩
  have HB4 := Lib.hid (HB3.out.trans (hb4.mono HB3.out.size))
  clear hb4
  go_wp2
  go_ret
  exact ⟨rfl, HB4.out⟩

set_option maxHeartbeats 2000000 in
theorem seals_ok (k t : Int) (A : Option Addr) (n c : Nat) (l : List Int) (w : World) (hk : 0 ≤ k ∧ k < 256) (ht : 0 ≤ t ∧ t < 18446744073709551616)
    (hn : l.length = n) (hA : A = none → n = 0 ∧ c = 0) (hl : Rd w A (bys l)) (bl : IsB l) (hnb : n ≤ 140737488355320) (h1 : knownB k = true) (h2 : n ≤ 496) :
    Calls Try.prog 3 #[.int .u8 k, .int .u64 t, .slice A n c] w fun e w' => e = .returned (.bool true) ∧ Below w.heap.size w w' := by
  have C0 := Lib.hid (own_any A n c l 71 w hn hA hl hnb)
  have C3 := Lib.hid (fun w => awake_any w)
  have C4 := Lib.hid (fun w => known_any k w)
  have C5 := Lib.hid (fun w => refknown_any k w)
  have C9 := Lib.hid (fun (w4 : World) (g : Nat) (hg : w4.heap[g]? = some (.cells (ownCells l 71).toArray 5 (0, 0))) (h' : Rd w4 A (bys l)) => kept_any g n l 71 A c w4 hn hg h' hnb)
  have C1 := Lib.hid (fun (w4 : World) (gi : Nat) (hg : Rd w4 (some ⟨gi, 0, none⟩) (bys l)) => seal_okn k t (some ⟨gi, 0, none⟩) (n + 3) n l w4 hn hg h1 h2 bl hk ht.1 ht.2)
  have C2 := Lib.hid (fun (w4 : World) (h' : Rd w4 A (bys l)) => refseal_okn k t A c n l w4 hn hA h' h1 h2 bl ht.1)
  have C6 := Lib.hid (fun (w4 : World) (g : Nat) (A' : Option Addr) (c' : Nat) (hg : w4.heap[g]? = some (.cells (bys (sealed k t l)).toArray 46 (0, 0))) (h' : Rd w4 A' (bys (sealed k t l))) =>
    bytes_any (some ⟨g, 0, none⟩) 512 512 _ A' 512 c' _ w4 (sealed_length k t (by omega)) (sealed_length k t (by omega)) (rd_block hg) h' (sealed_isB hk bl) (sealed_isB hk bl))
  have C7 := Lib.hid (fun (w4 : World) (g : Nat) (hg : w4.heap[g]? = some (.cells (bys (sealed k t l)).toArray 46 (0, 0))) => spoil_any (some ⟨g, 0, none⟩) 512 512 _ w4 (sealed_length k t (by omega)) (rd_block hg) (fun b o e j => by cases e; exact block_free hg j) (by decide))
  have HN := Lib.hid hn
  clear h1 h2 hn hA
  go_enter Try.func3, Try.ntmps3
  go_wp2_with fail
  refine C0.out.mono ?_
  rintro e w1 ⟨gi, rfl, hgi, hhi, hb1⟩
  have HI := Lib.hid hhi
  have HB1 := Lib.hid hb1
  clear hhi hb1
  go_wp2_with fail
  have hri : Rd w1 (some ⟨gi, 0, none⟩) (bys l) := by
    have := (rd_block HI.out).take n
    rwa [ownCells, List.take_append_of_le_length (by rw [bys_length, HN.out]; exact Nat.le_refl _), List.take_of_length_le (by rw [bys_length, HN.out]; exact Nat.le_refl _)] at this
  refine (C1.out _ gi hri).mono ?_
  rintro e w2 ⟨g, rfl, hgg, hhg, hb2⟩
  have HG2 := Lib.hid hhg
  have HI2 := Lib.hid ((hb2.block gi (lt_of_block HI.out)).trans HI.out)
  have HB2 := Lib.hid (HB1.out.trans (hb2.mono HB1.out.size))
  have hig : gi < g := Nat.lt_of_lt_of_le (lt_of_block HI.out) hgg
  clear hri hhg hb2
  go_wp2_with fail
  refine (C2.out _ (hl.kept HB2.out)).mono ?_
  rintro e w3 ⟨v3, rfl, hown3, hb3⟩
  obtain ⟨A3, c3, rfl, hcc3⟩ := own_sh hown3
  have HO3 := Lib.hid hown3
  have HG3 := Lib.hid ((hb3.block g (lt_of_block HG2.out)).trans HG2.out)
  have HI3 := Lib.hid ((hb3.block gi (lt_of_block HI2.out)).trans HI2.out)
  have HB3 := Lib.hid (HB2.out.trans (hb3.mono HB2.out.size))
  clear hown3 hb3
  go_wp2_with fail
  refine (C3.out _).mono ?_
  rintro e w4 ⟨rfl, hb4⟩
  have HR4 : Hid (Rd w4 A3 (bys (sealed k t l))) := by
    obtain ⟨A', c', he, _, _, hrd, _⟩ := own_rd (own_kept HO3.out hb4)
    obtain ⟨rfl, rfl⟩ : A3 = A' ∧ c3 = c' := by simpa using he
    exact hrd
  have HG4 := Lib.hid ((hb4.block g (lt_of_block HG3.out)).trans HG3.out)
  have HI4 := Lib.hid ((hb4.block gi (lt_of_block HI3.out)).trans HI3.out)
  have HB4 := Lib.hid (HB3.out.trans (hb4.mono HB3.out.size))
  clear hb4
  go_wp2_with fail
  refine (C4.out _).mono ?_
  rintro e w5 ⟨rfl, rfl⟩
  go_wp2_with fail
  refine (C5.out _).mono ?_
  rintro e w5 ⟨rfl, rfl⟩
  go_wp2_with fail
  refine (C6.out _ g A3 c3 HG4.out HR4.out).mono ?_
  rintro e w5 ⟨rfl, rfl⟩
  rw [show decide True = true from rfl]
  go_wp2_with fail
  refine (C7.out _ g HG4.out).mono ?_
  rintro e w5 ⟨rfl, hc5⟩
  have hb5 : Below g w4 w5 := hc5.below (fun k hk ⟨a, ha, hk2⟩ => by cases ha; simp at hk2; omega) (Nat.le_of_lt (lt_of_block HG4.out))
  have HB5 := Lib.hid (HB4.out.trans (hb5.mono (by omega)))
  have HI5 := Lib.hid ((hb5.block gi hig).trans HI4.out)
  clear hb5 hc5
  go_wp2_with fail
  refine (C9.out _ gi HI5.out (hl.kept HB5.out)).mono ?_
  rintro e w6 ⟨rfl, hb6⟩
  have HB6 := Lib.hid (HB5.out.trans (hb6.mono HB5.out.size))
  clear hb6
  go_wp2
  go_ret
  exact ⟨rfl, HB6.out⟩

theorem seals_walk (k t : Int) (A : Option Addr) (n c : Nat) (z : List Int) (w : World) (w0 : (Lit.int .u8 k).wf = true) (w1 : (Lit.int .u64 t).wf = true) (w2 : IsRow .u8 w A n c z) (r2 : c * 1 ≤ 140737488351232) :
    Calls Try.prog 3 #[.int .u8 k, .int .u64 t, .slice A n c] w fun e w' => e = .returned (.bool true) ∧ Below w.heap.size w w' := by
  obtain ⟨l, hn, hl, bl, _, hA, hnc⟩ := row_rd w2
  have hk := wf_u8b w0
  have ht := wf_u64b w1
  cases h1 : knownB k with
  | false => exact seals_unk k t A n c l w hk ht hn hA hl bl (by omega) h1
  | true =>
    by_cases h2 : n ≤ 496
    · exact seals_ok k t A n c l w hk ht hn hA hl bl (by omega) h1 h2
    · exact seals_large k t A n c l w hk ht hn hA hl bl (by omega) h1 (by omega)
end Go.Proofs.Ytchiopfanplebaa
