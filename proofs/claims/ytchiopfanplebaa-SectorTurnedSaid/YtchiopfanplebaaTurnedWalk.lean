/- The walk of SectorTurned: whatever is handed in, it answers true and writes nothing that was there. -/
import Derived.Test.YtchiopfanplebaaLawCom
import Derived.Test.YtchiopfanplebaaTurn
namespace Go.Proofs.Ytchiopfanplebaa
open Go.RowKit
set_option linter.unusedVariables false

theorem u64_nat (i : Int) : ∃ p : Nat, IntKind.u64.wrap i = (p : Int) ∧ p < 18446744073709551616 := by
  have h0 : 0 ≤ IntKind.u64.wrap i := by simp only [IntKind.wrap, IntKind.bits, IntKind.signed]; simp; omega
  have h1 : IntKind.u64.wrap i < 18446744073709551616 := by simp only [IntKind.wrap, IntKind.bits, IntKind.signed]; simp; omega
  obtain ⟨p, hp⟩ := Int.eq_ofNat_of_zero_le h0
  exact ⟨p, hp, by omega⟩
theorem mod4096 (p : Nat) : ∃ x : Nat, (p : Int).tmod 4096 = (x : Int) ∧ x < 4096 := ⟨p % 4096, by rw [Int.tmod_eq_emod_of_nonneg (by omega)]; omega, by omega⟩
set_option maxHeartbeats 2000000 in
theorem turned_err (k t : Int) (A : Option Addr) (n c : Nat) (i j q : Int) (w : World) (h1 : knownB k = false ∨ 496 < n) :
    Calls Try.prog 6 #[.int .u8 k, .int .u64 t, .slice A n c, .int .i64 i, .int .i64 j, .int .i64 q] w fun e w' => e = .returned (.bool true) ∧ Below w.heap.size w w' := by
  have C3 := Lib.hid (fun w => awake_any w)
  have C1 := Lib.hid (seal_err k t A n c w h1)
  clear h1
  go_enter Try.func6, Try.ntmps6
  go_wp2_with fail
  refine C1.out.mono ?_
  rintro e w1 ⟨er, rfl, her, rfl⟩
  go_wp2_with fail
  refine (C3.out _).mono ?_
  rintro e w2 ⟨rfl, hb1⟩
  go_wp2_with fail
  refine (C3.out _).mono ?_
  rintro e w3 ⟨rfl, hb2⟩
  go_wp2
  go_ret
  exact ⟨rfl, hb1.trans (hb2.mono hb1.size)⟩

/-- A blank sector. -/
def zsec : List Int := List.replicate 512 0
theorem zsec_length : zsec.length = 512 := List.length_replicate
theorem zsec_isB : IsB zsec := isB_zeros 512
theorem sec_eq_true (A' : Option Addr) (c' : Nat) (W : World) : Calls Try.prog 18 #[.agg #[.int .u8 0, .int .u64 0, .slice A' 0 c'], .agg #[.int .u8 0, .int .u64 0, .slice none 0 0]] W fun e w' => e = .returned (.bool true) ∧ Below W.heap.size W w' :=
  (sector_eq 0 0 A' 0 c' [] 0 0 none 0 0 [] W rfl rfl (Rd.nil _ _) (Rd.nil _ _) (fun x hx => by simp at hx) (fun x hx => by simp at hx)).mono fun e w' h => ⟨by rw [h.1]; rfl, h.2⟩
set_option maxRecDepth 100000 in
set_option maxHeartbeats 4000000 in
theorem turned_a (k t : Int) (A : Option Addr) (n c : Nat) (l : List Int) (i j q : Int) (w : World) (hk : 0 ≤ k ∧ k < 256) (ht : 0 ≤ t ∧ t < 18446744073709551616) (hn : l.length = n) (hl : Rd w A (bys l)) (bl : IsB l) (h1 : knownB k = true) (hle : n ≤ 496)
    (p0 p1 p2 x0 x1 x2 : Nat) (f0 : IntKind.u64.wrap i = (p0 : Int)) (f1 : IntKind.u64.wrap j = (p1 : Int)) (f2 : IntKind.u64.wrap q = (p2 : Int)) (g0 : p0 < 18446744073709551616) (g1 : p1 < 18446744073709551616) (g2 : p2 < 18446744073709551616)
    (d0 : (p0 : Int).tmod 4096 = (x0 : Int)) (d1 : (p1 : Int).tmod 4096 = (x1 : Int)) (d2 : (p2 : Int).tmod 4096 = (x2 : Int)) (l0 : x0 < 4096) (l1 : x1 < 4096) (l2 : x2 < 4096) (e01 : x0 = x1) :
    Calls Try.prog 6 #[.int .u8 k, .int .u64 t, .slice A n c, .int .i64 i, .int .i64 j, .int .i64 q] w fun e w' => e = .returned (.bool true) ∧ Below w.heap.size w w' := by
  have C3 := Lib.hid (fun w => awake_any w)
  have C1 := Lib.hid (seal_okn k t A c n l w hn hl h1 hle bl hk ht.1 ht.2)
  have w4 : IntKind.u64.wrap 4096 = 4096 := rfl
  have v0 : IntKind.i64.wrap (x0 : Int) = (x0 : Int) := IntWalk.i64_in _ (by omega)
  have v1 : IntKind.i64.wrap (x1 : Int) = (x1 : Int) := IntWalk.i64_in _ (by omega)
  have v2 : IntKind.i64.wrap (x2 : Int) = (x2 : Int) := IntWalk.i64_in _ (by omega)
  have q01 : ((x0 : Int) == (x1 : Int)) = true := by rw [e01]; simp
  clear e01
  have hin : ∀ b ∈ [x0], b / 8 < 512 := by intro b hb; simp at hb; omega
  have hbig : ∀ b ∈ [x0], b < 9223372036854775807 := by intro b hb; simp at hb; omega
  have T1 := Lib.hid (fun (W : World) (g gb : Nat) (hg : W.heap[g]? = some (.cells (bys (sealed k t l)).toArray 46 (0, 0))) (hb : Rd W (some ⟨gb, 0, none⟩) (ins [x0])) => turn_any (some ⟨g, 0, none⟩) 512 512 (sealed k t l) (some ⟨gb, 0, none⟩) 1 3 [x0] W (sealed_length k t (by omega)) rfl (by simp) (rd_block hg) hb (sealed_isB hk bl) hin hbig (by decide) (by decide) (by decide))
  have T2 := Lib.hid (fun (W : World) (g gb : Nat) (hg : Rd W (some ⟨g, 0, none⟩) (bys zsec)) (hb : Rd W (some ⟨gb, 0, none⟩) (ins [x0])) => turn_any (some ⟨g, 0, none⟩) 512 512 zsec (some ⟨gb, 0, none⟩) 1 3 [x0] W zsec_length rfl (by simp) hg hb zsec_isB hin hbig (by decide) (by decide) (by decide))
  have hp1 : parL (turned (sealed k t l) [x0]) = true := by rw [parL_turned _ _ (by rw [sealed_length k t (by omega)]; exact hin), parL_sealed h1 bl]; simp
  have hp2 : parL (turned zsec [x0]) = true := by rw [parL_turned _ _ (by rw [zsec_length]; exact hin), show parL zsec = false from parL_zeros 512]; simp
  have S1 := Lib.hid (sec_odd (turned_isB [x0] (sealed_isB hk bl)) (by rw [turned_length, sealed_length k t (by omega)]) hp1)
  have S2 := Lib.hid (sec_odd (turned_isB [x0] zsec_isB) (by rw [turned_length, zsec_length]) hp2)
  have O1 := Lib.hid (fun (W : World) (A' : Option Addr) (c' : Nat) (hc : 512 ≤ c') (h' : Rd W A' (bys (turned (sealed k t l) [x0]))) => open_any A' 512 c' _ W (by rw [turned_length, sealed_length k t (by omega)]) h' (turned_isB [x0] (sealed_isB hk bl)) hc)
  have O2 := Lib.hid (fun (W : World) (A' : Option Addr) (c' : Nat) (hc : 512 ≤ c') (h' : Rd W A' (bys (turned zsec [x0]))) => open_any A' 512 c' _ W (by rw [turned_length, zsec_length]) h' (turned_isB [x0] zsec_isB) hc)
  have Q := Lib.hid (fun (W : World) (A' : Option Addr) (c' : Nat) => sec_eq_true A' c' W)
  clear hn hl h1 hle hin hbig hp1 hp2
  go_enter Try.func6, Try.ntmps6
  go_wp2_with fail
  refine C1.out.mono ?_
  rintro e w1 ⟨g, rfl, hg, hh, hb1⟩
  have HH := Lib.hid hh
  clear hh
  go_wp2_with fail
  refine (C3.out _).mono ?_
  rintro e w2 ⟨rfl, hb2⟩
  have HH2 := Lib.hid ((hb2.block g (Array.getElem?_eq_some_iff.1 HH.out).1).trans HH.out)
  have HB2 := Lib.hid (hb1.trans (hb2.mono hb1.size))
  clear hb1 hb2
  go_wp2_with fail
  go_still_tail 18, (by kernel_rfl)
  change wpList _ _ _ _ _ w2.drew
  go_wp2_with fail
  have hblk := heap_alloc_new w2 (.cells #[.int .i64 x0, .int .i64 x1, .int .i64 x2] 3)
  have kc0 : (w2.alloc (.cells #[.int .i64 x0, .int .i64 x1, .int .i64 x2] 3)).drew.cell? ⟨w2.heap.size, 0, none⟩ = some (.int .i64 x0) := block_cell (L := [.int .i64 x0, .int .i64 x1, .int .i64 x2]) hblk 0
  have kc1 : (w2.alloc (.cells #[.int .i64 x0, .int .i64 x1, .int .i64 x2] 3)).drew.cell? ⟨w2.heap.size, 1, none⟩ = some (.int .i64 x1) := block_cell (L := [.int .i64 x0, .int .i64 x1, .int .i64 x2]) hblk 1
  have kc2 : (w2.alloc (.cells #[.int .i64 x0, .int .i64 x1, .int .i64 x2] 3)).drew.cell? ⟨w2.heap.size, 2, none⟩ = some (.int .i64 x2) := block_cell (L := [.int .i64 x0, .int .i64 x1, .int .i64 x2]) hblk 2
  clear hblk
  go_quiet (fail)
  go_wp2_with fail
  obtain ⟨W, hW⟩ : ∃ W, W = (w2.alloc (.cells #[.int .i64 x0, .int .i64 x1, .int .i64 x2] 3)).drewN (1 + nq) := ⟨_, rfl⟩
  rw [← hW]
  have HB3 : Hid (Below w.heap.size w W) := by rw [hW]; exact (HB2.out.alloc HB2.out.size _).trans (below_drewN _ _)
  have HH3 : Hid (W.heap[g]? = some (.cells (bys (sealed k t l)).toArray 46 (0, 0))) := by rw [hW]; exact (Below.heap_alloc w2 _ g (Array.getElem?_eq_some_iff.1 HH2.out).1).trans HH2.out
  have RB : Hid (Rd W (some ⟨w2.heap.size, 0, none⟩) (ins [x0])) := by rw [hW]; exact (rd_block (L := [.int .i64 x0, .int .i64 x1, .int .i64 x2]) (heap_alloc_new w2 _)).take 1
  clear hW
  have hw2 := HB2.out.size
  clear kc0 kc1 kc2 HH2 HB2 HH
  refine (T1.out _ g w2.heap.size HH3.out RB.out).mono ?_
  rintro e w5 ⟨v5, rfl, hown5, hb5⟩
  obtain ⟨A5, c5, rfl, hnc5, hcm5, hrd5, hlen5⟩ := own_rd hown5
  have RB5 := Lib.hid (RB.out.kept hb5)
  have HB5 := Lib.hid (HB3.out.trans (hb5.mono HB3.out.size))
  have RD5 := Lib.hid hrd5
  clear hb5 hown5 HH3 HB3 RB hrd5 hlen5 hcm5
  go_wp2_with fail
  refine (O1.out _ A5 c5 hnc5 RD5.out).mono ?_
  rintro e w6 ⟨⟨v6, rfl, hown6⟩, hb6⟩
  rw [S1.out] at hown6 ⊢
  obtain ⟨A6, c6, rfl, _, _, _, _⟩ := own_rd hown6
  have RB6 := Lib.hid (RB5.out.kept hb6)
  have HB6 := Lib.hid (HB5.out.trans (hb6.mono HB5.out.size))
  have HB6a := Lib.hid (HB6.out.alloc HB6.out.size (.cells #[.int .u8 0, .int .u64 0, .slice A6 0 c6] 36))
  have RB6a := Lib.hid (RB6.out.kept ((Below.refl _ w6).alloc (Nat.le_refl _) (.cells #[.int .u8 0, .int .u64 0, .slice A6 0 c6] 36)))
  have BL6 := Lib.hid (heap_alloc_new w6 (.cells #[.int .u8 0, .int .u64 0, .slice A6 0 c6] 36))
  clear hb6 hown6 RD5 RB5 HB5 hnc5 RB6
  have hs6 := HB6.out.size
  go_wp2_with (with_reducible refine wpList_make_bytes _ rfl (.const (.int .i64 512)) (.const (.int .i64 512)) 23 rfl w.heap.size 5 Try.underlying23 infoU8 .i64 .i64 512 512 512 rfl rfl rfl rfl (by decide) (by simp; omega) ?_)
  intro w7 hown7 hg7
  have hb7 : Below (w6.heap.size + 1) (w6.alloc (.cells #[.int .u8 0, .int .u64 0, .slice A6 0 c6] 36)) w7 := ((Below.refl _ _).grown hg7 (by simp) (fun k e => by cases e))
  obtain ⟨A7, c7, hA7, hnc7, hcm7, hrd7, hlen7⟩ := own_rd hown7.out
  obtain ⟨rfl, rfl⟩ : some ⟨w6.heap.size + 1, 0, none⟩ = A7 ∧ 512 = c7 := by simpa using hA7
  have RB7 := Lib.hid (RB6a.out.kept (by rw [World.size_alloc]; exact hb7))
  have HB7 := Lib.hid (HB6a.out.trans (hb7.mono (by omega)))
  have BL7 := Lib.hid ((hb7.block w6.heap.size (by omega)).trans BL6.out)
  have RD7 := Lib.hid hrd7
  have hs7 : w6.heap.size + 1 ≤ w7.heap.size := by have := hb7.size; simpa using this
  clear hb7 hg7 hown7 hA7 hrd7 hlen7 hcm7 hnc7 RB6a HB6a BL6 HB6
  go_wp2_with fail
  refine (T2.out _ (w6.heap.size + 1) w2.heap.size RD7.out RB7.out).mono ?_
  rintro e w8 ⟨v8, rfl, hown8, hb8⟩
  obtain ⟨A8, c8, rfl, hnc8, hcm8, hrd8, hlen8⟩ := own_rd hown8
  have HB8 := Lib.hid (HB7.out.trans (hb8.mono HB7.out.size))
  have BL8 := Lib.hid ((hb8.block w6.heap.size (by omega)).trans BL7.out)
  have RD8 := Lib.hid hrd8
  have hs8 := hb8.size
  clear hb8 hown8 hrd8 hlen8 hcm8 HB7 BL7 RD7 RB7
  go_wp2_with fail
  refine (O2.out _ A8 c8 hnc8 RD8.out).mono ?_
  rintro e w9 ⟨⟨v9, rfl, hown9⟩, hb9⟩
  rw [S2.out] at hown9 ⊢
  obtain ⟨A9, c9, rfl, _, _, _, _⟩ := own_rd hown9
  have HB9 := Lib.hid (HB8.out.trans (hb9.mono HB8.out.size))
  have BL9 := Lib.hid ((hb9.block w6.heap.size (by omega)).trans BL8.out)
  have hs9 := hb9.size
  have HB9a := Lib.hid (HB9.out.alloc HB9.out.size (.cells #[.int .u8 0, .int .u64 0, .slice A9 0 c9] 36))
  have z0 := block_cell (L := [.int .u8 0, .int .u64 0, .slice A6 0 c6]) BL9.out 0
  have z1 := block_cell (L := [.int .u8 0, .int .u64 0, .slice A6 0 c6]) BL9.out 1
  have z2 := block_cell (L := [.int .u8 0, .int .u64 0, .slice A6 0 c6]) BL9.out 2
  have hlt9 : w6.heap.size < w9.heap.size := by omega
  clear hb9 hown9 HB8 BL8 RD8
  go_wp2_with fail
  refine (Q.out _ A6 c6).mono ?_
  rintro e w10 ⟨rfl, hb10⟩
  have BL10 := (hb10.block w9.heap.size (by simp)).trans (heap_alloc_new w9 (.cells #[.int .u8 0, .int .u64 0, .slice A9 0 c9] 36))
  have y0 := block_cell (L := [.int .u8 0, .int .u64 0, .slice A9 0 c9]) BL10 0
  have y1 := block_cell (L := [.int .u8 0, .int .u64 0, .slice A9 0 c9]) BL10 1
  have y2 := block_cell (L := [.int .u8 0, .int .u64 0, .slice A9 0 c9]) BL10 2
  have HB10 := Lib.hid (HB9a.out.trans (hb10.mono HB9a.out.size))
  clear BL10 hb10
  go_wp2_with fail
  refine (Q.out _ A9 c9).mono ?_
  rintro e w11 ⟨rfl, hb11⟩
  have HB11 := Lib.hid (HB10.out.trans (hb11.mono HB10.out.size))
  clear hb11
  go_wp2
  go_ret
  exact ⟨rfl, HB11.out⟩
set_option maxRecDepth 100000 in
set_option maxHeartbeats 4000000 in
theorem turned_b (k t : Int) (A : Option Addr) (n c : Nat) (l : List Int) (i j q : Int) (w : World) (hk : 0 ≤ k ∧ k < 256) (ht : 0 ≤ t ∧ t < 18446744073709551616) (hn : l.length = n) (hl : Rd w A (bys l)) (bl : IsB l) (h1 : knownB k = true) (hle : n ≤ 496)
    (p0 p1 p2 x0 x1 x2 : Nat) (f0 : IntKind.u64.wrap i = (p0 : Int)) (f1 : IntKind.u64.wrap j = (p1 : Int)) (f2 : IntKind.u64.wrap q = (p2 : Int)) (g0 : p0 < 18446744073709551616) (g1 : p1 < 18446744073709551616) (g2 : p2 < 18446744073709551616)
    (d0 : (p0 : Int).tmod 4096 = (x0 : Int)) (d1 : (p1 : Int).tmod 4096 = (x1 : Int)) (d2 : (p2 : Int).tmod 4096 = (x2 : Int)) (l0 : x0 < 4096) (l1 : x1 < 4096) (l2 : x2 < 4096) (e01 : x0 ≠ x1) (e12 : x1 = x2) :
    Calls Try.prog 6 #[.int .u8 k, .int .u64 t, .slice A n c, .int .i64 i, .int .i64 j, .int .i64 q] w fun e w' => e = .returned (.bool true) ∧ Below w.heap.size w w' := by
  have C3 := Lib.hid (fun w => awake_any w)
  have C1 := Lib.hid (seal_okn k t A c n l w hn hl h1 hle bl hk ht.1 ht.2)
  have w4 : IntKind.u64.wrap 4096 = 4096 := rfl
  have v0 : IntKind.i64.wrap (x0 : Int) = (x0 : Int) := IntWalk.i64_in _ (by omega)
  have v1 : IntKind.i64.wrap (x1 : Int) = (x1 : Int) := IntWalk.i64_in _ (by omega)
  have v2 : IntKind.i64.wrap (x2 : Int) = (x2 : Int) := IntWalk.i64_in _ (by omega)
  have q01 : ((x0 : Int) == (x1 : Int)) = false := by rw [beq_eq_false_iff_ne]; omega
  have q12 : ((x1 : Int) == (x2 : Int)) = true := by rw [e12]; simp
  clear e01 e12
  have hin : ∀ b ∈ [x0], b / 8 < 512 := by intro b hb; simp at hb; omega
  have hbig : ∀ b ∈ [x0], b < 9223372036854775807 := by intro b hb; simp at hb; omega
  have T1 := Lib.hid (fun (W : World) (g gb : Nat) (hg : W.heap[g]? = some (.cells (bys (sealed k t l)).toArray 46 (0, 0))) (hb : Rd W (some ⟨gb, 0, none⟩) (ins [x0])) => turn_any (some ⟨g, 0, none⟩) 512 512 (sealed k t l) (some ⟨gb, 0, none⟩) 1 3 [x0] W (sealed_length k t (by omega)) rfl (by simp) (rd_block hg) hb (sealed_isB hk bl) hin hbig (by decide) (by decide) (by decide))
  have T2 := Lib.hid (fun (W : World) (g gb : Nat) (hg : Rd W (some ⟨g, 0, none⟩) (bys zsec)) (hb : Rd W (some ⟨gb, 0, none⟩) (ins [x0])) => turn_any (some ⟨g, 0, none⟩) 512 512 zsec (some ⟨gb, 0, none⟩) 1 3 [x0] W zsec_length rfl (by simp) hg hb zsec_isB hin hbig (by decide) (by decide) (by decide))
  have hp1 : parL (turned (sealed k t l) [x0]) = true := by rw [parL_turned _ _ (by rw [sealed_length k t (by omega)]; exact hin), parL_sealed h1 bl]; simp
  have hp2 : parL (turned zsec [x0]) = true := by rw [parL_turned _ _ (by rw [zsec_length]; exact hin), show parL zsec = false from parL_zeros 512]; simp
  have S1 := Lib.hid (sec_odd (turned_isB [x0] (sealed_isB hk bl)) (by rw [turned_length, sealed_length k t (by omega)]) hp1)
  have S2 := Lib.hid (sec_odd (turned_isB [x0] zsec_isB) (by rw [turned_length, zsec_length]) hp2)
  have O1 := Lib.hid (fun (W : World) (A' : Option Addr) (c' : Nat) (hc : 512 ≤ c') (h' : Rd W A' (bys (turned (sealed k t l) [x0]))) => open_any A' 512 c' _ W (by rw [turned_length, sealed_length k t (by omega)]) h' (turned_isB [x0] (sealed_isB hk bl)) hc)
  have O2 := Lib.hid (fun (W : World) (A' : Option Addr) (c' : Nat) (hc : 512 ≤ c') (h' : Rd W A' (bys (turned zsec [x0]))) => open_any A' 512 c' _ W (by rw [turned_length, zsec_length]) h' (turned_isB [x0] zsec_isB) hc)
  have Q := Lib.hid (fun (W : World) (A' : Option Addr) (c' : Nat) => sec_eq_true A' c' W)
  clear hn hl h1 hle hin hbig hp1 hp2
  go_enter Try.func6, Try.ntmps6
  go_wp2_with fail
  refine C1.out.mono ?_
  rintro e w1 ⟨g, rfl, hg, hh, hb1⟩
  have HH := Lib.hid hh
  clear hh
  go_wp2_with fail
  refine (C3.out _).mono ?_
  rintro e w2 ⟨rfl, hb2⟩
  have HH2 := Lib.hid ((hb2.block g (Array.getElem?_eq_some_iff.1 HH.out).1).trans HH.out)
  have HB2 := Lib.hid (hb1.trans (hb2.mono hb1.size))
  clear hb1 hb2
  go_wp2_with fail
  go_still_tail 18, (by kernel_rfl)
  change wpList _ _ _ _ _ w2.drew
  go_wp2_with fail
  have hblk := heap_alloc_new w2 (.cells #[.int .i64 x0, .int .i64 x1, .int .i64 x2] 3)
  have kc0 : (w2.alloc (.cells #[.int .i64 x0, .int .i64 x1, .int .i64 x2] 3)).drew.cell? ⟨w2.heap.size, 0, none⟩ = some (.int .i64 x0) := block_cell (L := [.int .i64 x0, .int .i64 x1, .int .i64 x2]) hblk 0
  have kc1 : (w2.alloc (.cells #[.int .i64 x0, .int .i64 x1, .int .i64 x2] 3)).drew.cell? ⟨w2.heap.size, 1, none⟩ = some (.int .i64 x1) := block_cell (L := [.int .i64 x0, .int .i64 x1, .int .i64 x2]) hblk 1
  have kc2 : (w2.alloc (.cells #[.int .i64 x0, .int .i64 x1, .int .i64 x2] 3)).drew.cell? ⟨w2.heap.size, 2, none⟩ = some (.int .i64 x2) := block_cell (L := [.int .i64 x0, .int .i64 x1, .int .i64 x2]) hblk 2
  clear hblk
  go_quiet (fail)
  go_wp2_with fail
  obtain ⟨W, hW⟩ : ∃ W, W = (w2.alloc (.cells #[.int .i64 x0, .int .i64 x1, .int .i64 x2] 3)).drewN (1 + nq) := ⟨_, rfl⟩
  rw [← hW]
  have HB3 : Hid (Below w.heap.size w W) := by rw [hW]; exact (HB2.out.alloc HB2.out.size _).trans (below_drewN _ _)
  have HH3 : Hid (W.heap[g]? = some (.cells (bys (sealed k t l)).toArray 46 (0, 0))) := by rw [hW]; exact (Below.heap_alloc w2 _ g (Array.getElem?_eq_some_iff.1 HH2.out).1).trans HH2.out
  have RB : Hid (Rd W (some ⟨w2.heap.size, 0, none⟩) (ins [x0])) := by rw [hW]; exact (rd_block (L := [.int .i64 x0, .int .i64 x1, .int .i64 x2]) (heap_alloc_new w2 _)).take 1
  clear hW
  have hw2 := HB2.out.size
  clear kc0 kc1 kc2 HH2 HB2 HH
  refine (T1.out _ g w2.heap.size HH3.out RB.out).mono ?_
  rintro e w5 ⟨v5, rfl, hown5, hb5⟩
  obtain ⟨A5, c5, rfl, hnc5, hcm5, hrd5, hlen5⟩ := own_rd hown5
  have RB5 := Lib.hid (RB.out.kept hb5)
  have HB5 := Lib.hid (HB3.out.trans (hb5.mono HB3.out.size))
  have RD5 := Lib.hid hrd5
  clear hb5 hown5 HH3 HB3 RB hrd5 hlen5 hcm5
  go_wp2_with fail
  refine (O1.out _ A5 c5 hnc5 RD5.out).mono ?_
  rintro e w6 ⟨⟨v6, rfl, hown6⟩, hb6⟩
  rw [S1.out] at hown6 ⊢
  obtain ⟨A6, c6, rfl, _, _, _, _⟩ := own_rd hown6
  have RB6 := Lib.hid (RB5.out.kept hb6)
  have HB6 := Lib.hid (HB5.out.trans (hb6.mono HB5.out.size))
  have HB6a := Lib.hid (HB6.out.alloc HB6.out.size (.cells #[.int .u8 0, .int .u64 0, .slice A6 0 c6] 36))
  have RB6a := Lib.hid (RB6.out.kept ((Below.refl _ w6).alloc (Nat.le_refl _) (.cells #[.int .u8 0, .int .u64 0, .slice A6 0 c6] 36)))
  have BL6 := Lib.hid (heap_alloc_new w6 (.cells #[.int .u8 0, .int .u64 0, .slice A6 0 c6] 36))
  clear hb6 hown6 RD5 RB5 HB5 hnc5 RB6
  have hs6 := HB6.out.size
  go_wp2_with (with_reducible refine wpList_make_bytes _ rfl (.const (.int .i64 512)) (.const (.int .i64 512)) 23 rfl w.heap.size 5 Try.underlying23 infoU8 .i64 .i64 512 512 512 rfl rfl rfl rfl (by decide) (by simp; omega) ?_)
  intro w7 hown7 hg7
  have hb7 : Below (w6.heap.size + 1) (w6.alloc (.cells #[.int .u8 0, .int .u64 0, .slice A6 0 c6] 36)) w7 := ((Below.refl _ _).grown hg7 (by simp) (fun k e => by cases e))
  obtain ⟨A7, c7, hA7, hnc7, hcm7, hrd7, hlen7⟩ := own_rd hown7.out
  obtain ⟨rfl, rfl⟩ : some ⟨w6.heap.size + 1, 0, none⟩ = A7 ∧ 512 = c7 := by simpa using hA7
  have RB7 := Lib.hid (RB6a.out.kept (by rw [World.size_alloc]; exact hb7))
  have HB7 := Lib.hid (HB6a.out.trans (hb7.mono (by omega)))
  have BL7 := Lib.hid ((hb7.block w6.heap.size (by omega)).trans BL6.out)
  have RD7 := Lib.hid hrd7
  have hs7 : w6.heap.size + 1 ≤ w7.heap.size := by have := hb7.size; simpa using this
  clear hb7 hg7 hown7 hA7 hrd7 hlen7 hcm7 hnc7 RB6a HB6a BL6 HB6
  go_wp2_with fail
  refine (T2.out _ (w6.heap.size + 1) w2.heap.size RD7.out RB7.out).mono ?_
  rintro e w8 ⟨v8, rfl, hown8, hb8⟩
  obtain ⟨A8, c8, rfl, hnc8, hcm8, hrd8, hlen8⟩ := own_rd hown8
  have HB8 := Lib.hid (HB7.out.trans (hb8.mono HB7.out.size))
  have BL8 := Lib.hid ((hb8.block w6.heap.size (by omega)).trans BL7.out)
  have RD8 := Lib.hid hrd8
  have hs8 := hb8.size
  clear hb8 hown8 hrd8 hlen8 hcm8 HB7 BL7 RD7 RB7
  go_wp2_with fail
  refine (O2.out _ A8 c8 hnc8 RD8.out).mono ?_
  rintro e w9 ⟨⟨v9, rfl, hown9⟩, hb9⟩
  rw [S2.out] at hown9 ⊢
  obtain ⟨A9, c9, rfl, _, _, _, _⟩ := own_rd hown9
  have HB9 := Lib.hid (HB8.out.trans (hb9.mono HB8.out.size))
  have BL9 := Lib.hid ((hb9.block w6.heap.size (by omega)).trans BL8.out)
  have hs9 := hb9.size
  have HB9a := Lib.hid (HB9.out.alloc HB9.out.size (.cells #[.int .u8 0, .int .u64 0, .slice A9 0 c9] 36))
  have z0 := block_cell (L := [.int .u8 0, .int .u64 0, .slice A6 0 c6]) BL9.out 0
  have z1 := block_cell (L := [.int .u8 0, .int .u64 0, .slice A6 0 c6]) BL9.out 1
  have z2 := block_cell (L := [.int .u8 0, .int .u64 0, .slice A6 0 c6]) BL9.out 2
  have hlt9 : w6.heap.size < w9.heap.size := by omega
  clear hb9 hown9 HB8 BL8 RD8
  go_wp2_with fail
  refine (Q.out _ A6 c6).mono ?_
  rintro e w10 ⟨rfl, hb10⟩
  have BL10 := (hb10.block w9.heap.size (by simp)).trans (heap_alloc_new w9 (.cells #[.int .u8 0, .int .u64 0, .slice A9 0 c9] 36))
  have y0 := block_cell (L := [.int .u8 0, .int .u64 0, .slice A9 0 c9]) BL10 0
  have y1 := block_cell (L := [.int .u8 0, .int .u64 0, .slice A9 0 c9]) BL10 1
  have y2 := block_cell (L := [.int .u8 0, .int .u64 0, .slice A9 0 c9]) BL10 2
  have HB10 := Lib.hid (HB9a.out.trans (hb10.mono HB9a.out.size))
  clear BL10 hb10
  go_wp2_with fail
  refine (Q.out _ A9 c9).mono ?_
  rintro e w11 ⟨rfl, hb11⟩
  have HB11 := Lib.hid (HB10.out.trans (hb11.mono HB10.out.size))
  clear hb11
  go_wp2
  go_ret
  exact ⟨rfl, HB11.out⟩
set_option maxRecDepth 100000 in
set_option maxHeartbeats 4000000 in
theorem turned_c (k t : Int) (A : Option Addr) (n c : Nat) (l : List Int) (i j q : Int) (w : World) (hk : 0 ≤ k ∧ k < 256) (ht : 0 ≤ t ∧ t < 18446744073709551616) (hn : l.length = n) (hl : Rd w A (bys l)) (bl : IsB l) (h1 : knownB k = true) (hle : n ≤ 496)
    (p0 p1 p2 x0 x1 x2 : Nat) (f0 : IntKind.u64.wrap i = (p0 : Int)) (f1 : IntKind.u64.wrap j = (p1 : Int)) (f2 : IntKind.u64.wrap q = (p2 : Int)) (g0 : p0 < 18446744073709551616) (g1 : p1 < 18446744073709551616) (g2 : p2 < 18446744073709551616)
    (d0 : (p0 : Int).tmod 4096 = (x0 : Int)) (d1 : (p1 : Int).tmod 4096 = (x1 : Int)) (d2 : (p2 : Int).tmod 4096 = (x2 : Int)) (l0 : x0 < 4096) (l1 : x1 < 4096) (l2 : x2 < 4096) (e01 : x0 ≠ x1) (e12 : x1 ≠ x2) (e02 : x0 = x2) :
    Calls Try.prog 6 #[.int .u8 k, .int .u64 t, .slice A n c, .int .i64 i, .int .i64 j, .int .i64 q] w fun e w' => e = .returned (.bool true) ∧ Below w.heap.size w w' := by
  have C3 := Lib.hid (fun w => awake_any w)
  have C1 := Lib.hid (seal_okn k t A c n l w hn hl h1 hle bl hk ht.1 ht.2)
  have w4 : IntKind.u64.wrap 4096 = 4096 := rfl
  have v0 : IntKind.i64.wrap (x0 : Int) = (x0 : Int) := IntWalk.i64_in _ (by omega)
  have v1 : IntKind.i64.wrap (x1 : Int) = (x1 : Int) := IntWalk.i64_in _ (by omega)
  have v2 : IntKind.i64.wrap (x2 : Int) = (x2 : Int) := IntWalk.i64_in _ (by omega)
  have q01 : ((x0 : Int) == (x1 : Int)) = false := by rw [beq_eq_false_iff_ne]; omega
  have q12 : ((x1 : Int) == (x2 : Int)) = false := by rw [beq_eq_false_iff_ne]; omega
  have q02 : ((x0 : Int) == (x2 : Int)) = true := by rw [e02]; simp
  clear e01 e12 e02
  have hin : ∀ b ∈ [x0], b / 8 < 512 := by intro b hb; simp at hb; omega
  have hbig : ∀ b ∈ [x0], b < 9223372036854775807 := by intro b hb; simp at hb; omega
  have T1 := Lib.hid (fun (W : World) (g gb : Nat) (hg : W.heap[g]? = some (.cells (bys (sealed k t l)).toArray 46 (0, 0))) (hb : Rd W (some ⟨gb, 0, none⟩) (ins [x0])) => turn_any (some ⟨g, 0, none⟩) 512 512 (sealed k t l) (some ⟨gb, 0, none⟩) 1 3 [x0] W (sealed_length k t (by omega)) rfl (by simp) (rd_block hg) hb (sealed_isB hk bl) hin hbig (by decide) (by decide) (by decide))
  have T2 := Lib.hid (fun (W : World) (g gb : Nat) (hg : Rd W (some ⟨g, 0, none⟩) (bys zsec)) (hb : Rd W (some ⟨gb, 0, none⟩) (ins [x0])) => turn_any (some ⟨g, 0, none⟩) 512 512 zsec (some ⟨gb, 0, none⟩) 1 3 [x0] W zsec_length rfl (by simp) hg hb zsec_isB hin hbig (by decide) (by decide) (by decide))
  have hp1 : parL (turned (sealed k t l) [x0]) = true := by rw [parL_turned _ _ (by rw [sealed_length k t (by omega)]; exact hin), parL_sealed h1 bl]; simp
  have hp2 : parL (turned zsec [x0]) = true := by rw [parL_turned _ _ (by rw [zsec_length]; exact hin), show parL zsec = false from parL_zeros 512]; simp
  have S1 := Lib.hid (sec_odd (turned_isB [x0] (sealed_isB hk bl)) (by rw [turned_length, sealed_length k t (by omega)]) hp1)
  have S2 := Lib.hid (sec_odd (turned_isB [x0] zsec_isB) (by rw [turned_length, zsec_length]) hp2)
  have O1 := Lib.hid (fun (W : World) (A' : Option Addr) (c' : Nat) (hc : 512 ≤ c') (h' : Rd W A' (bys (turned (sealed k t l) [x0]))) => open_any A' 512 c' _ W (by rw [turned_length, sealed_length k t (by omega)]) h' (turned_isB [x0] (sealed_isB hk bl)) hc)
  have O2 := Lib.hid (fun (W : World) (A' : Option Addr) (c' : Nat) (hc : 512 ≤ c') (h' : Rd W A' (bys (turned zsec [x0]))) => open_any A' 512 c' _ W (by rw [turned_length, zsec_length]) h' (turned_isB [x0] zsec_isB) hc)
  have Q := Lib.hid (fun (W : World) (A' : Option Addr) (c' : Nat) => sec_eq_true A' c' W)
  clear hn hl h1 hle hin hbig hp1 hp2
  go_enter Try.func6, Try.ntmps6
  go_wp2_with fail
  refine C1.out.mono ?_
  rintro e w1 ⟨g, rfl, hg, hh, hb1⟩
  have HH := Lib.hid hh
  clear hh
  go_wp2_with fail
  refine (C3.out _).mono ?_
  rintro e w2 ⟨rfl, hb2⟩
  have HH2 := Lib.hid ((hb2.block g (Array.getElem?_eq_some_iff.1 HH.out).1).trans HH.out)
  have HB2 := Lib.hid (hb1.trans (hb2.mono hb1.size))
  clear hb1 hb2
  go_wp2_with fail
  go_still_tail 18, (by kernel_rfl)
  change wpList _ _ _ _ _ w2.drew
  go_wp2_with fail
  have hblk := heap_alloc_new w2 (.cells #[.int .i64 x0, .int .i64 x1, .int .i64 x2] 3)
  have kc0 : (w2.alloc (.cells #[.int .i64 x0, .int .i64 x1, .int .i64 x2] 3)).drew.cell? ⟨w2.heap.size, 0, none⟩ = some (.int .i64 x0) := block_cell (L := [.int .i64 x0, .int .i64 x1, .int .i64 x2]) hblk 0
  have kc1 : (w2.alloc (.cells #[.int .i64 x0, .int .i64 x1, .int .i64 x2] 3)).drew.cell? ⟨w2.heap.size, 1, none⟩ = some (.int .i64 x1) := block_cell (L := [.int .i64 x0, .int .i64 x1, .int .i64 x2]) hblk 1
  have kc2 : (w2.alloc (.cells #[.int .i64 x0, .int .i64 x1, .int .i64 x2] 3)).drew.cell? ⟨w2.heap.size, 2, none⟩ = some (.int .i64 x2) := block_cell (L := [.int .i64 x0, .int .i64 x1, .int .i64 x2]) hblk 2
  clear hblk
  go_quiet (fail)
  go_wp2_with fail
  obtain ⟨W, hW⟩ : ∃ W, W = (w2.alloc (.cells #[.int .i64 x0, .int .i64 x1, .int .i64 x2] 3)).drewN (1 + nq) := ⟨_, rfl⟩
  rw [← hW]
  have HB3 : Hid (Below w.heap.size w W) := by rw [hW]; exact (HB2.out.alloc HB2.out.size _).trans (below_drewN _ _)
  have HH3 : Hid (W.heap[g]? = some (.cells (bys (sealed k t l)).toArray 46 (0, 0))) := by rw [hW]; exact (Below.heap_alloc w2 _ g (Array.getElem?_eq_some_iff.1 HH2.out).1).trans HH2.out
  have RB : Hid (Rd W (some ⟨w2.heap.size, 0, none⟩) (ins [x0])) := by rw [hW]; exact (rd_block (L := [.int .i64 x0, .int .i64 x1, .int .i64 x2]) (heap_alloc_new w2 _)).take 1
  clear hW
  have hw2 := HB2.out.size
  clear kc0 kc1 kc2 HH2 HB2 HH
  refine (T1.out _ g w2.heap.size HH3.out RB.out).mono ?_
  rintro e w5 ⟨v5, rfl, hown5, hb5⟩
  obtain ⟨A5, c5, rfl, hnc5, hcm5, hrd5, hlen5⟩ := own_rd hown5
  have RB5 := Lib.hid (RB.out.kept hb5)
  have HB5 := Lib.hid (HB3.out.trans (hb5.mono HB3.out.size))
  have RD5 := Lib.hid hrd5
  clear hb5 hown5 HH3 HB3 RB hrd5 hlen5 hcm5
  go_wp2_with fail
  refine (O1.out _ A5 c5 hnc5 RD5.out).mono ?_
  rintro e w6 ⟨⟨v6, rfl, hown6⟩, hb6⟩
  rw [S1.out] at hown6 ⊢
  obtain ⟨A6, c6, rfl, _, _, _, _⟩ := own_rd hown6
  have RB6 := Lib.hid (RB5.out.kept hb6)
  have HB6 := Lib.hid (HB5.out.trans (hb6.mono HB5.out.size))
  have HB6a := Lib.hid (HB6.out.alloc HB6.out.size (.cells #[.int .u8 0, .int .u64 0, .slice A6 0 c6] 36))
  have RB6a := Lib.hid (RB6.out.kept ((Below.refl _ w6).alloc (Nat.le_refl _) (.cells #[.int .u8 0, .int .u64 0, .slice A6 0 c6] 36)))
  have BL6 := Lib.hid (heap_alloc_new w6 (.cells #[.int .u8 0, .int .u64 0, .slice A6 0 c6] 36))
  clear hb6 hown6 RD5 RB5 HB5 hnc5 RB6
  have hs6 := HB6.out.size
  go_wp2_with (with_reducible refine wpList_make_bytes _ rfl (.const (.int .i64 512)) (.const (.int .i64 512)) 23 rfl w.heap.size 5 Try.underlying23 infoU8 .i64 .i64 512 512 512 rfl rfl rfl rfl (by decide) (by simp; omega) ?_)
  intro w7 hown7 hg7
  have hb7 : Below (w6.heap.size + 1) (w6.alloc (.cells #[.int .u8 0, .int .u64 0, .slice A6 0 c6] 36)) w7 := ((Below.refl _ _).grown hg7 (by simp) (fun k e => by cases e))
  obtain ⟨A7, c7, hA7, hnc7, hcm7, hrd7, hlen7⟩ := own_rd hown7.out
  obtain ⟨rfl, rfl⟩ : some ⟨w6.heap.size + 1, 0, none⟩ = A7 ∧ 512 = c7 := by simpa using hA7
  have RB7 := Lib.hid (RB6a.out.kept (by rw [World.size_alloc]; exact hb7))
  have HB7 := Lib.hid (HB6a.out.trans (hb7.mono (by omega)))
  have BL7 := Lib.hid ((hb7.block w6.heap.size (by omega)).trans BL6.out)
  have RD7 := Lib.hid hrd7
  have hs7 : w6.heap.size + 1 ≤ w7.heap.size := by have := hb7.size; simpa using this
  clear hb7 hg7 hown7 hA7 hrd7 hlen7 hcm7 hnc7 RB6a HB6a BL6 HB6
  go_wp2_with fail
  refine (T2.out _ (w6.heap.size + 1) w2.heap.size RD7.out RB7.out).mono ?_
  rintro e w8 ⟨v8, rfl, hown8, hb8⟩
  obtain ⟨A8, c8, rfl, hnc8, hcm8, hrd8, hlen8⟩ := own_rd hown8
  have HB8 := Lib.hid (HB7.out.trans (hb8.mono HB7.out.size))
  have BL8 := Lib.hid ((hb8.block w6.heap.size (by omega)).trans BL7.out)
  have RD8 := Lib.hid hrd8
  have hs8 := hb8.size
  clear hb8 hown8 hrd8 hlen8 hcm8 HB7 BL7 RD7 RB7
  go_wp2_with fail
  refine (O2.out _ A8 c8 hnc8 RD8.out).mono ?_
  rintro e w9 ⟨⟨v9, rfl, hown9⟩, hb9⟩
  rw [S2.out] at hown9 ⊢
  obtain ⟨A9, c9, rfl, _, _, _, _⟩ := own_rd hown9
  have HB9 := Lib.hid (HB8.out.trans (hb9.mono HB8.out.size))
  have BL9 := Lib.hid ((hb9.block w6.heap.size (by omega)).trans BL8.out)
  have hs9 := hb9.size
  have HB9a := Lib.hid (HB9.out.alloc HB9.out.size (.cells #[.int .u8 0, .int .u64 0, .slice A9 0 c9] 36))
  have z0 := block_cell (L := [.int .u8 0, .int .u64 0, .slice A6 0 c6]) BL9.out 0
  have z1 := block_cell (L := [.int .u8 0, .int .u64 0, .slice A6 0 c6]) BL9.out 1
  have z2 := block_cell (L := [.int .u8 0, .int .u64 0, .slice A6 0 c6]) BL9.out 2
  have hlt9 : w6.heap.size < w9.heap.size := by omega
  clear hb9 hown9 HB8 BL8 RD8
  go_wp2_with fail
  refine (Q.out _ A6 c6).mono ?_
  rintro e w10 ⟨rfl, hb10⟩
  have BL10 := (hb10.block w9.heap.size (by simp)).trans (heap_alloc_new w9 (.cells #[.int .u8 0, .int .u64 0, .slice A9 0 c9] 36))
  have y0 := block_cell (L := [.int .u8 0, .int .u64 0, .slice A9 0 c9]) BL10 0
  have y1 := block_cell (L := [.int .u8 0, .int .u64 0, .slice A9 0 c9]) BL10 1
  have y2 := block_cell (L := [.int .u8 0, .int .u64 0, .slice A9 0 c9]) BL10 2
  have HB10 := Lib.hid (HB9a.out.trans (hb10.mono HB9a.out.size))
  clear BL10 hb10
  go_wp2_with fail
  refine (Q.out _ A9 c9).mono ?_
  rintro e w11 ⟨rfl, hb11⟩
  have HB11 := Lib.hid (HB10.out.trans (hb11.mono HB10.out.size))
  clear hb11
  go_wp2
  go_ret
  exact ⟨rfl, HB11.out⟩
set_option maxRecDepth 100000 in
set_option maxHeartbeats 4000000 in
theorem turned_d (k t : Int) (A : Option Addr) (n c : Nat) (l : List Int) (i j q : Int) (w : World) (hk : 0 ≤ k ∧ k < 256) (ht : 0 ≤ t ∧ t < 18446744073709551616) (hn : l.length = n) (hl : Rd w A (bys l)) (bl : IsB l) (h1 : knownB k = true) (hle : n ≤ 496)
    (p0 p1 p2 x0 x1 x2 : Nat) (f0 : IntKind.u64.wrap i = (p0 : Int)) (f1 : IntKind.u64.wrap j = (p1 : Int)) (f2 : IntKind.u64.wrap q = (p2 : Int)) (g0 : p0 < 18446744073709551616) (g1 : p1 < 18446744073709551616) (g2 : p2 < 18446744073709551616)
    (d0 : (p0 : Int).tmod 4096 = (x0 : Int)) (d1 : (p1 : Int).tmod 4096 = (x1 : Int)) (d2 : (p2 : Int).tmod 4096 = (x2 : Int)) (l0 : x0 < 4096) (l1 : x1 < 4096) (l2 : x2 < 4096) (e01 : x0 ≠ x1) (e12 : x1 ≠ x2) (e02 : x0 ≠ x2) :
    Calls Try.prog 6 #[.int .u8 k, .int .u64 t, .slice A n c, .int .i64 i, .int .i64 j, .int .i64 q] w fun e w' => e = .returned (.bool true) ∧ Below w.heap.size w w' := by
  have C3 := Lib.hid (fun w => awake_any w)
  have C1 := Lib.hid (seal_okn k t A c n l w hn hl h1 hle bl hk ht.1 ht.2)
  have w4 : IntKind.u64.wrap 4096 = 4096 := rfl
  have v0 : IntKind.i64.wrap (x0 : Int) = (x0 : Int) := IntWalk.i64_in _ (by omega)
  have v1 : IntKind.i64.wrap (x1 : Int) = (x1 : Int) := IntWalk.i64_in _ (by omega)
  have v2 : IntKind.i64.wrap (x2 : Int) = (x2 : Int) := IntWalk.i64_in _ (by omega)
  have q01 : ((x0 : Int) == (x1 : Int)) = false := by rw [beq_eq_false_iff_ne]; omega
  have q12 : ((x1 : Int) == (x2 : Int)) = false := by rw [beq_eq_false_iff_ne]; omega
  have q02 : ((x0 : Int) == (x2 : Int)) = false := by rw [beq_eq_false_iff_ne]; omega
  clear e01 e12 e02
  have hin : ∀ b ∈ [x0, x1, x2], b / 8 < 512 := by intro b hb; simp at hb; omega
  have hbig : ∀ b ∈ [x0, x1, x2], b < 9223372036854775807 := by intro b hb; simp at hb; omega
  have T1 := Lib.hid (fun (W : World) (g gb : Nat) (hg : W.heap[g]? = some (.cells (bys (sealed k t l)).toArray 46 (0, 0))) (hb : Rd W (some ⟨gb, 0, none⟩) (ins [x0, x1, x2])) => turn_any (some ⟨g, 0, none⟩) 512 512 (sealed k t l) (some ⟨gb, 0, none⟩) 3 3 [x0, x1, x2] W (sealed_length k t (by omega)) rfl (by simp) (rd_block hg) hb (sealed_isB hk bl) hin hbig (by decide) (by decide) (by decide))
  have T2 := Lib.hid (fun (W : World) (g gb : Nat) (hg : Rd W (some ⟨g, 0, none⟩) (bys zsec)) (hb : Rd W (some ⟨gb, 0, none⟩) (ins [x0, x1, x2])) => turn_any (some ⟨g, 0, none⟩) 512 512 zsec (some ⟨gb, 0, none⟩) 3 3 [x0, x1, x2] W zsec_length rfl (by simp) hg hb zsec_isB hin hbig (by decide) (by decide) (by decide))
  have hp1 : parL (turned (sealed k t l) [x0, x1, x2]) = true := by rw [parL_turned _ _ (by rw [sealed_length k t (by omega)]; exact hin), parL_sealed h1 bl]; simp
  have hp2 : parL (turned zsec [x0, x1, x2]) = true := by rw [parL_turned _ _ (by rw [zsec_length]; exact hin), show parL zsec = false from parL_zeros 512]; simp
  have S1 := Lib.hid (sec_odd (turned_isB [x0, x1, x2] (sealed_isB hk bl)) (by rw [turned_length, sealed_length k t (by omega)]) hp1)
  have S2 := Lib.hid (sec_odd (turned_isB [x0, x1, x2] zsec_isB) (by rw [turned_length, zsec_length]) hp2)
  have O1 := Lib.hid (fun (W : World) (A' : Option Addr) (c' : Nat) (hc : 512 ≤ c') (h' : Rd W A' (bys (turned (sealed k t l) [x0, x1, x2]))) => open_any A' 512 c' _ W (by rw [turned_length, sealed_length k t (by omega)]) h' (turned_isB [x0, x1, x2] (sealed_isB hk bl)) hc)
  have O2 := Lib.hid (fun (W : World) (A' : Option Addr) (c' : Nat) (hc : 512 ≤ c') (h' : Rd W A' (bys (turned zsec [x0, x1, x2]))) => open_any A' 512 c' _ W (by rw [turned_length, zsec_length]) h' (turned_isB [x0, x1, x2] zsec_isB) hc)
  have Q := Lib.hid (fun (W : World) (A' : Option Addr) (c' : Nat) => sec_eq_true A' c' W)
  clear hn hl h1 hle hin hbig hp1 hp2
  go_enter Try.func6, Try.ntmps6
  go_wp2_with fail
  refine C1.out.mono ?_
  rintro e w1 ⟨g, rfl, hg, hh, hb1⟩
  have HH := Lib.hid hh
  clear hh
  go_wp2_with fail
  refine (C3.out _).mono ?_
  rintro e w2 ⟨rfl, hb2⟩
  have HH2 := Lib.hid ((hb2.block g (Array.getElem?_eq_some_iff.1 HH.out).1).trans HH.out)
  have HB2 := Lib.hid (hb1.trans (hb2.mono hb1.size))
  clear hb1 hb2
  go_wp2_with fail
  go_still_tail 18, (by kernel_rfl)
  change wpList _ _ _ _ _ w2.drew
  go_wp2_with fail
  have hblk := heap_alloc_new w2 (.cells #[.int .i64 x0, .int .i64 x1, .int .i64 x2] 3)
  have kc0 : (w2.alloc (.cells #[.int .i64 x0, .int .i64 x1, .int .i64 x2] 3)).drew.cell? ⟨w2.heap.size, 0, none⟩ = some (.int .i64 x0) := block_cell (L := [.int .i64 x0, .int .i64 x1, .int .i64 x2]) hblk 0
  have kc1 : (w2.alloc (.cells #[.int .i64 x0, .int .i64 x1, .int .i64 x2] 3)).drew.cell? ⟨w2.heap.size, 1, none⟩ = some (.int .i64 x1) := block_cell (L := [.int .i64 x0, .int .i64 x1, .int .i64 x2]) hblk 1
  have kc2 : (w2.alloc (.cells #[.int .i64 x0, .int .i64 x1, .int .i64 x2] 3)).drew.cell? ⟨w2.heap.size, 2, none⟩ = some (.int .i64 x2) := block_cell (L := [.int .i64 x0, .int .i64 x1, .int .i64 x2]) hblk 2
  clear hblk
  go_quiet (fail)
  go_wp2_with fail
  obtain ⟨W, hW⟩ : ∃ W, W = (w2.alloc (.cells #[.int .i64 x0, .int .i64 x1, .int .i64 x2] 3)).drewN (1 + nq) := ⟨_, rfl⟩
  rw [← hW]
  have HB3 : Hid (Below w.heap.size w W) := by rw [hW]; exact (HB2.out.alloc HB2.out.size _).trans (below_drewN _ _)
  have HH3 : Hid (W.heap[g]? = some (.cells (bys (sealed k t l)).toArray 46 (0, 0))) := by rw [hW]; exact (Below.heap_alloc w2 _ g (Array.getElem?_eq_some_iff.1 HH2.out).1).trans HH2.out
  have RB : Hid (Rd W (some ⟨w2.heap.size, 0, none⟩) (ins [x0, x1, x2])) := by rw [hW]; exact (rd_block (L := [.int .i64 x0, .int .i64 x1, .int .i64 x2]) (heap_alloc_new w2 _)).take 3
  clear hW
  have hw2 := HB2.out.size
  clear kc0 kc1 kc2 HH2 HB2 HH
  refine (T1.out _ g w2.heap.size HH3.out RB.out).mono ?_
  rintro e w5 ⟨v5, rfl, hown5, hb5⟩
  obtain ⟨A5, c5, rfl, hnc5, hcm5, hrd5, hlen5⟩ := own_rd hown5
  have RB5 := Lib.hid (RB.out.kept hb5)
  have HB5 := Lib.hid (HB3.out.trans (hb5.mono HB3.out.size))
  have RD5 := Lib.hid hrd5
  clear hb5 hown5 HH3 HB3 RB hrd5 hlen5 hcm5
  go_wp2_with fail
  refine (O1.out _ A5 c5 hnc5 RD5.out).mono ?_
  rintro e w6 ⟨⟨v6, rfl, hown6⟩, hb6⟩
  rw [S1.out] at hown6 ⊢
  obtain ⟨A6, c6, rfl, _, _, _, _⟩ := own_rd hown6
  have RB6 := Lib.hid (RB5.out.kept hb6)
  have HB6 := Lib.hid (HB5.out.trans (hb6.mono HB5.out.size))
  have HB6a := Lib.hid (HB6.out.alloc HB6.out.size (.cells #[.int .u8 0, .int .u64 0, .slice A6 0 c6] 36))
  have RB6a := Lib.hid (RB6.out.kept ((Below.refl _ w6).alloc (Nat.le_refl _) (.cells #[.int .u8 0, .int .u64 0, .slice A6 0 c6] 36)))
  have BL6 := Lib.hid (heap_alloc_new w6 (.cells #[.int .u8 0, .int .u64 0, .slice A6 0 c6] 36))
  clear hb6 hown6 RD5 RB5 HB5 hnc5 RB6
  have hs6 := HB6.out.size
  go_wp2_with (with_reducible refine wpList_make_bytes _ rfl (.const (.int .i64 512)) (.const (.int .i64 512)) 23 rfl w.heap.size 5 Try.underlying23 infoU8 .i64 .i64 512 512 512 rfl rfl rfl rfl (by decide) (by simp; omega) ?_)
  intro w7 hown7 hg7
  have hb7 : Below (w6.heap.size + 1) (w6.alloc (.cells #[.int .u8 0, .int .u64 0, .slice A6 0 c6] 36)) w7 := ((Below.refl _ _).grown hg7 (by simp) (fun k e => by cases e))
  obtain ⟨A7, c7, hA7, hnc7, hcm7, hrd7, hlen7⟩ := own_rd hown7.out
  obtain ⟨rfl, rfl⟩ : some ⟨w6.heap.size + 1, 0, none⟩ = A7 ∧ 512 = c7 := by simpa using hA7
  have RB7 := Lib.hid (RB6a.out.kept (by rw [World.size_alloc]; exact hb7))
  have HB7 := Lib.hid (HB6a.out.trans (hb7.mono (by omega)))
  have BL7 := Lib.hid ((hb7.block w6.heap.size (by omega)).trans BL6.out)
  have RD7 := Lib.hid hrd7
  have hs7 : w6.heap.size + 1 ≤ w7.heap.size := by have := hb7.size; simpa using this
  clear hb7 hg7 hown7 hA7 hrd7 hlen7 hcm7 hnc7 RB6a HB6a BL6 HB6
  go_wp2_with fail
  refine (T2.out _ (w6.heap.size + 1) w2.heap.size RD7.out RB7.out).mono ?_
  rintro e w8 ⟨v8, rfl, hown8, hb8⟩
  obtain ⟨A8, c8, rfl, hnc8, hcm8, hrd8, hlen8⟩ := own_rd hown8
  have HB8 := Lib.hid (HB7.out.trans (hb8.mono HB7.out.size))
  have BL8 := Lib.hid ((hb8.block w6.heap.size (by omega)).trans BL7.out)
  have RD8 := Lib.hid hrd8
  have hs8 := hb8.size
  clear hb8 hown8 hrd8 hlen8 hcm8 HB7 BL7 RD7 RB7
  go_wp2_with fail
  refine (O2.out _ A8 c8 hnc8 RD8.out).mono ?_
  rintro e w9 ⟨⟨v9, rfl, hown9⟩, hb9⟩
  rw [S2.out] at hown9 ⊢
  obtain ⟨A9, c9, rfl, _, _, _, _⟩ := own_rd hown9
  have HB9 := Lib.hid (HB8.out.trans (hb9.mono HB8.out.size))
  have BL9 := Lib.hid ((hb9.block w6.heap.size (by omega)).trans BL8.out)
  have hs9 := hb9.size
  have HB9a := Lib.hid (HB9.out.alloc HB9.out.size (.cells #[.int .u8 0, .int .u64 0, .slice A9 0 c9] 36))
  have z0 := block_cell (L := [.int .u8 0, .int .u64 0, .slice A6 0 c6]) BL9.out 0
  have z1 := block_cell (L := [.int .u8 0, .int .u64 0, .slice A6 0 c6]) BL9.out 1
  have z2 := block_cell (L := [.int .u8 0, .int .u64 0, .slice A6 0 c6]) BL9.out 2
  have hlt9 : w6.heap.size < w9.heap.size := by omega
  clear hb9 hown9 HB8 BL8 RD8
  go_wp2_with fail
  refine (Q.out _ A6 c6).mono ?_
  rintro e w10 ⟨rfl, hb10⟩
  have BL10 := (hb10.block w9.heap.size (by simp)).trans (heap_alloc_new w9 (.cells #[.int .u8 0, .int .u64 0, .slice A9 0 c9] 36))
  have y0 := block_cell (L := [.int .u8 0, .int .u64 0, .slice A9 0 c9]) BL10 0
  have y1 := block_cell (L := [.int .u8 0, .int .u64 0, .slice A9 0 c9]) BL10 1
  have y2 := block_cell (L := [.int .u8 0, .int .u64 0, .slice A9 0 c9]) BL10 2
  have HB10 := Lib.hid (HB9a.out.trans (hb10.mono HB9a.out.size))
  clear BL10 hb10
  go_wp2_with fail
  refine (Q.out _ A9 c9).mono ?_
  rintro e w11 ⟨rfl, hb11⟩
  have HB11 := Lib.hid (HB10.out.trans (hb11.mono HB10.out.size))
  clear hb11
  go_wp2
  go_ret
  exact ⟨rfl, HB11.out⟩

theorem turned_walk (k t : Int) (A : Option Addr) (n c : Nat) (z : List Int) (i j q : Int) (w : World) (w0 : (Lit.int .u8 k).wf = true) (w1 : (Lit.int .u64 t).wf = true) (w2 : IsRow .u8 w A n c z) (_ : (Lit.int .i64 i).wf = true) (_ : (Lit.int .i64 j).wf = true) (_ : (Lit.int .i64 q).wf = true) :
    Calls Try.prog 6 #[.int .u8 k, .int .u64 t, .slice A n c, .int .i64 i, .int .i64 j, .int .i64 q] w fun e w' => e = .returned (.bool true) ∧ Below w.heap.size w w' := by
  obtain ⟨l, hn, hl, bl, _, _, _⟩ := row_rd w2
  have hk := wf_u8b w0
  have ht := wf_u64b w1
  by_cases h1 : knownB k = false ∨ 496 < n
  · exact turned_err k t A n c i j q w h1
  · have hkn : knownB k = true := by cases hk : knownB k with
      | true => rfl
      | false => exact absurd (.inl hk) h1
    have hle : n ≤ 496 := by omega
    obtain ⟨p0, f0, g0⟩ := u64_nat i
    obtain ⟨p1, f1, g1⟩ := u64_nat j
    obtain ⟨p2, f2, g2⟩ := u64_nat q
    obtain ⟨x0, d0, l0⟩ := mod4096 p0
    obtain ⟨x1, d1, l1⟩ := mod4096 p1
    obtain ⟨x2, d2, l2⟩ := mod4096 p2
    by_cases e01 : x0 = x1
    · exact turned_a k t A n c l i j q w hk ht hn hl bl hkn hle p0 p1 p2 x0 x1 x2 f0 f1 f2 g0 g1 g2 d0 d1 d2 l0 l1 l2 e01
    by_cases e12 : x1 = x2
    · exact turned_b k t A n c l i j q w hk ht hn hl bl hkn hle p0 p1 p2 x0 x1 x2 f0 f1 f2 g0 g1 g2 d0 d1 d2 l0 l1 l2 e01 e12
    by_cases e02 : x0 = x2
    · exact turned_c k t A n c l i j q w hk ht hn hl bl hkn hle p0 p1 p2 x0 x1 x2 f0 f1 f2 g0 g1 g2 d0 d1 d2 l0 l1 l2 e01 e12 e02
    · exact turned_d k t A n c l i j q w hk ht hn hl bl hkn hle p0 p1 p2 x0 x1 x2 f0 f1 f2 g0 g1 g2 d0 d1 d2 l0 l1 l2 e01 e12 e02
end Go.Proofs.Ytchiopfanplebaa
