/- The walk of RecordWrites: whatever is handed in within the reach of a slice, it answers true and writes nothing that was there. -/
import Derived.Test.YtdgciajdnmgcnaaRecCom
namespace Go.Proofs.Ytdgciajdnmgcnaa
open Go.RowKit
set_option linter.unusedVariables false

set_option maxRecDepth 100000 in
set_option maxHeartbeats 4000000 in
theorem writes_err (s : Int) (A : Option Addr) (n c : Nat) (l : List Int) (q er : Int) (w : World)
    (hn : l.length = n) (hA : A = none → n = 0 ∧ c = 0) (hl : Rd w A (bys l)) (hnb : n ≤ 140737488355320)
    (E1 : ∀ (A : Option Addr) (c : Nat) (w : World), Calls Try.prog 10 #[.int .u64 s, .slice A n c] w fun e w' => e = .returned (.tuple #[.slice none 0 0, .int .i64 er]) ∧ w = w')
    (E2 : ∀ (A : Option Addr) (c : Nat) (w : World), Calls Try.prog 11 #[.int .u64 s, .slice A n c] w fun e w' => e = .returned (.tuple #[.slice none 0 0, .int .i64 er]) ∧ w = w') :
    Calls Try.prog 3 #[.int .u64 s, .slice A n c, .int .i64 q] w fun e w' => e = .returned (.bool true) ∧ Below w.heap.size w w' := by
  have C0 := Lib.hid (own_any A n c l 71 w hn hA hl hnb)
  have C1 := Lib.hid E1
  have C2 := Lib.hid E2
  have C3 := Lib.hid (fun w => awake_any w)
  have C4 := Lib.hid (fun w => count_any q w)
  have C5 := Lib.hid (fun w => refcount_any q w)
  have C6 := Lib.hid (fun w => lists_any none 0 0 [] [] none 0 0 [] [] w rfl rfl (Rd.nil _ _) (Rd.nil _ _) (RdL.nil _) (RdL.nil _) (by decide) (by decide))
  have C9 := Lib.hid (fun (w4 : World) (g : Nat) (hg : w4.heap[g]? = some (.cells (ownCells l 71).toArray 5 (0, 0))) (h' : Rd w4 A (bys l)) => kept_any g n l 71 A c w4 hn hg h' hnb)
  have hqq : (cntI q != cntI q) = false := by simp
  have hee : (er != er) = false := by simp
  clear hn hA E1 E2
  generalize cntI q = cq at *
  go_enter Try.func3, Try.ntmps3
  go_wp2_with fail
  refine C0.out.mono ?_
  rintro e w1 ⟨gi, rfl, hgi, hhi, hb1⟩
  have HI := Lib.hid hhi
  have HB1 := Lib.hid hb1
  clear hhi hb1
  go_wp2_with fail
  refine (C1.out _ _ _).mono ?_
  rintro e w2 ⟨rfl, rfl⟩
  go_wp2_with fail
  refine (C2.out _ _ _).mono ?_
  rintro e w2 ⟨rfl, rfl⟩
  go_wp2_with fail
  refine (C3.out _).mono ?_
  rintro e w2 ⟨rfl, hb2⟩
  have HB2 := Lib.hid (HB1.out.trans (hb2.mono HB1.out.size))
  have HI2 := Lib.hid ((hb2.block gi (lt_of_block HI.out)).trans HI.out)
  clear hb2
  go_wp2_with fail
  refine (C4.out _).mono ?_
  rintro e w3 ⟨rfl, rfl⟩
  go_wp2_with fail
  refine (C5.out _).mono ?_
  rintro e w3 ⟨rfl, rfl⟩
  go_wp2_with fail
  refine (C6.out _).mono ?_
  rintro e w3 ⟨rfl, hb3⟩
  rw [show decide True = true from rfl]
  have HB3 := Lib.hid (HB2.out.trans (hb3.mono HB2.out.size))
  have HI3 := Lib.hid ((hb3.block gi (lt_of_block HI2.out)).trans HI2.out)
  clear hb3
  go_wp2_with fail
  go_loop [12] (fun i => i = .int .i64 0) (fun i => 0)
  case atStart => rfl
  case round =>
    obtain rfl := hrel
    go_wp2_with fail
    refine (C9.out _ gi HI3.out (hl.kept HB3.out)).mono ?_
    rintro e w4 ⟨rfl, hb4⟩
    have HB4 := Lib.hid (HB3.out.trans (hb4.mono HB3.out.size))
    clear hb4
    go_wp2
    go_ret
    exact ⟨rfl, HB4.out⟩

set_option maxRecDepth 100000 in
set_option maxHeartbeats 4000000 in
theorem writes_ok (s : Int) (A : Option Addr) (n c : Nat) (l : List Int) (q : Int) (w : World) (hs : 0 < s ∧ s < 18446744073709551616)
    (hln : l.length = n) (hA : A = none → n = 0 ∧ c = 0) (hl : Rd w A (bys l)) (hB : IsB l) (hc : n ≤ c) (hn : n ≤ 4096) :
    Calls Try.prog 3 #[.int .u64 s, .slice A n c, .int .i64 q] w fun e w' => e = .returned (.bool true) ∧ Below w.heap.size w w' := by
  have C0 := Lib.hid (own_any A n c l 71 w hln hA hl (by omega))
  have C1 := Lib.hid (fun (w4 : World) (gi : Nat) (hg : Rd w4 (some ⟨gi, 0, none⟩) (bys l)) => write_ok s (some ⟨gi, 0, none⟩) n (n + 3) l w4 hs hln hn (by omega) (fun e => by cases e) hg hB)
  have C2 := Lib.hid (fun (w4 : World) (h' : Rd w4 A (bys l)) => refwrite_ok s A n c l w4 hs hln hn hc hA h' hB)
  have C3 := Lib.hid (fun w => awake_any w)
  have C4 := Lib.hid (fun w => count_any q w)
  have C5 := Lib.hid (fun w => refcount_any q w)
  have hcp := cnt_pos hn
  have hrl : (recL s l).length = cnt n := by rw [recL_length, hln]
  have C6 := Lib.hid (fun (A' : Option Addr) (c' : Nat) (vs : List Value) (B' : Option Addr) (d' : Nat) (us : List Value) (w : World) (h : Rd w A' vs) (h' : Rd w B' us) (hL : RdL w vs (recL s l)) (hM : RdL w us (recL s l)) => lists_any A' (cnt n) c' vs (recL s l) B' (cnt n) d' us (recL s l) w (hL.1.trans hrl) (hM.1.trans hrl) h h' hL hM (by omega) (by omega))
  have C7 := Lib.hid (fun (w4 : World) (g : Nat) (L : List Int) (hL : L.length = 512) (hg : w4.heap[g]? = some (.cells (bys L).toArray 63 (0, 0))) => spoil_any (some ⟨g, 0, none⟩) 512 512 L w4 hL (rd_block hg) (fun b o e j => by cases e; exact block_free hg j) (by decide))
  have C9 := Lib.hid (fun (w4 : World) (g : Nat) (hg : w4.heap[g]? = some (.cells (ownCells l 71).toArray 5 (0, 0))) (h' : Rd w4 A (bys l)) => kept_any g n l 71 A c w4 hln hg h' (by omega))
  have HM := Lib.hid (recL_mem (s := s) hB (by rw [hln]; exact hn))
  have hqq : (cntI q != cntI q) = false := by simp
  have HN := Lib.hid hln
  have HRL := Lib.hid hrl
  clear hln hA hrl
  generalize cntI q = cq at *
  obtain ⟨k, hk⟩ : ∃ k, k = cnt n := ⟨_, rfl⟩
  rw [← hk] at hcp C1 C2 C6 HRL
  clear hk
  go_enter Try.func3, Try.ntmps3
  go_wp2_with fail
  refine C0.out.mono ?_
  rintro e w1 ⟨gi, rfl, hgi, hhi, hb1⟩
  have HI := Lib.hid hhi
  have HB1 := Lib.hid hb1
  have hlt1 := lt_of_block hhi
  have hri : Rd w1 (some ⟨gi, 0, none⟩) (bys l) := by
    have := (rd_block HI.out).take n
    rwa [ownCells, List.take_append_of_le_length (by rw [bys_length, HN.out]; exact Nat.le_refl _), List.take_of_length_le (by rw [bys_length, HN.out]; exact Nat.le_refl _)] at this
  have HRI := Lib.hid hri
  clear hhi hb1 hri
  go_wp2_with fail
  refine (C1.out _ gi HRI.out).mono ?_
  rintro e w2 ⟨v2, gs, rfl, hown2, hS2, hb2⟩
  obtain ⟨A2, c2, rfl, hc2⟩ := own_sh hown2
  have HO2 := Lib.hid hown2
  have HS2 := Lib.hid hS2
  have HI2 := Lib.hid ((hb2.block gi hlt1).trans HI.out)
  have HB2 := Lib.hid (HB1.out.trans (hb2.mono HB1.out.size))
  have hs2 := hb2.size
  clear hown2 hS2 hb2 hc2
  go_wp2_with fail
  refine (C2.out _ (hl.kept HB2.out)).mono ?_
  rintro e w3 ⟨v3, vs, rfl, hown3, hS3, hb3⟩
  obtain ⟨A3, c3, rfl, hc3⟩ := own_sh hown3
  have HQ3 := Lib.hid hown3
  have HP3 := Lib.hid hS3
  have HO3 := Lib.hid (own_kept HO2.out hb3)
  have HS3 := Lib.hid (HS2.out.kept hb3)
  have HI3 := Lib.hid ((hb3.block gi (lt_of_block HI2.out)).trans HI2.out)
  have HB3 := Lib.hid (HB2.out.trans (hb3.mono HB2.out.size))
  have hs3 := hb3.size
  clear hown3 hS3 hb3 hc3
  go_wp2_with fail
  refine (C3.out _).mono ?_
  rintro e w4 ⟨rfl, hb4⟩
  have HQ4 := Lib.hid (own_kept HQ3.out hb4)
  have HP4 := Lib.hid (HP3.out.kept hb4)
  have HO4 := Lib.hid (own_kept HO3.out hb4)
  have HS4 := Lib.hid (HS3.out.kept hb4)
  have HI4 := Lib.hid ((hb4.block gi (lt_of_block HI3.out)).trans HI3.out)
  have HB4 := Lib.hid (HB3.out.trans (hb4.mono HB3.out.size))
  have hs4 := hb4.size
  clear hb4
  go_wp2_with fail
  refine (C4.out _).mono ?_
  rintro e w5 ⟨rfl, rfl⟩
  go_wp2_with fail
  refine (C5.out _).mono ?_
  rintro e w5 ⟨rfl, rfl⟩
  have R2 : Hid (Rd w4 A2 (gs.map secV)) := by
    obtain ⟨A', c', he, _, _, hrd, _⟩ := own_rd HO4.out
    obtain ⟨rfl, rfl⟩ : A2 = A' ∧ c2 = c' := by simpa using he
    exact hrd
  have R3 : Hid (Rd w4 A3 vs) := by
    obtain ⟨A', c', he, _, _, hrd, _⟩ := own_rd HQ4.out
    obtain ⟨rfl, rfl⟩ : A3 = A' ∧ c3 = c' := by simpa using he
    exact hrd
  go_wp2_with fail
  refine (C6.out A2 c2 _ A3 c3 vs _ R2.out R3.out (HS4.out.rdl HM.out) (HP4.out.rdl (fun x hx => (HM.out x hx).2))).mono ?_
  rintro e w5 ⟨rfl, hb5⟩
  rw [show decide True = true from rfl]
  have HO5 := Lib.hid (own_kept HO4.out hb5)
  have HS5 := Lib.hid (HS4.out.kept hb5)
  have HI5 := Lib.hid ((hb5.block gi (lt_of_block HI4.out)).trans HI4.out)
  have HB5 := Lib.hid (HB4.out.trans (hb5.mono HB4.out.size))
  have hs5 := hb5.size
  have R5 := Lib.hid (R2.out.kept hb5)
  clear hb5 HP4 HQ4 HP3 HQ3 HO4 HS4 HO3 HS3 HO2 HS2
  go_wp2_with fail
  go_loopw [12] (fun i wr => ∃ j : Nat, j ≤ k ∧ i = .int .i64 j ∧ Chg (fun b => ∃ j', j' < j ∧ gs[j']? = some b) w5 wr) (fun i _ => k - (intOf i).toNat)
  case atStart => exact ⟨0, by omega, rfl, Chg.refl _ _⟩
  case round =>
    obtain ⟨j, hj, rfl, hch⟩ := hrel
    have HCH := Lib.hid hch
    clear hch
    by_cases hlt : j < k
    · have hgl : gs.length = k := by rw [HS5.out.len, HRL.out]
      have hjg : j < gs.length := by omega
      have hRr : Rd wr A2 (gs.map secV) := R5.out.chg HCH.out (by
        rintro a rfl _ ⟨j', _, hj'⟩
        exact secs_not_own HS5.out HO5.out _ (List.mem_of_getElem? hj') rfl)
      obtain ⟨b, o, hAA, hcell⟩ := hRr.at_ (j := j) (by simpa using hjg)
      subst hAA
      rw [List.getElem_map, secV] at hcell
      have hjL : j < (recL s l).length := by rw [HRL.out]; exact hlt
      have hat := HS5.out.at_ j gs[j] (recL s l)[j] (List.getElem?_eq_getElem hjg) (List.getElem?_eq_getElem hjL)
      have hbk : wr.heap[gs[j]]? = some (.cells (bys (recL s l)[j]).toArray 63 (0, 0)) := by
        rw [HCH.out.block gs[j] (lt_of_block hat.2) ?_]
        · exact hat.2
        · rintro ⟨j', hj', he⟩
          have hj2 := (List.getElem?_eq_some_iff.1 he).1
          have he2 : gs[j'] = gs[j] := by rw [List.getElem?_eq_getElem hj2] at he; exact Option.some.inj he
          have := (List.getElem_inj HS5.out.dis).1 he2
          omega
      have HBK := Lib.hid hbk
      have HL5 := Lib.hid (HM.out _ (List.getElem_mem hjL)).1
      have HGJ := Lib.hid (List.getElem?_eq_getElem hjg)
      have b1 : (0 : Int) ≤ (j : Int) ∧ (j : Int) < (k : Int) := by omega
      clear hgl hRr hat hbk
      generalize gs[j] = g at *
      go_wp2_with fail
      refine (C7.out _ g _ HL5.out HBK.out).mono ?_
      rintro e w6 ⟨rfl, hc6⟩
      have HC6 : Hid (Chg (fun b => ∃ j', j' < j + 1 ∧ gs[j']? = some b) w5 w6) :=
        (HCH.out.mono (fun i _ ⟨j', h1, h2⟩ => ⟨j', by omega, h2⟩)).trans (hc6.mono (fun i _ ⟨a, ha, h2⟩ => ⟨j, by omega, by cases ha; simp at h2; rw [HGJ.out, h2]⟩))
      clear hc6
      go_wp2
      go_roundw
      case rel => exact ⟨j + 1, by omega, by go_num, HC6.out⟩
      case measure => simp [intOf]; omega
    · obtain rfl : j = k := by omega
      have hb6 : Below w1.heap.size w5 wr := HCH.out.below (fun b hb ⟨j', _, hj'⟩ => by have := (HS5.out.lt b (List.mem_of_getElem? hj')).1; omega) (by omega)
      have HB6 := Lib.hid (HB5.out.trans (hb6.mono HB1.out.size))
      have HI6 := Lib.hid ((hb6.block gi hlt1).trans HI5.out)
      clear hb6
      go_wp2_with fail
      refine (C9.out _ gi HI6.out (hl.kept HB6.out)).mono ?_
      rintro e w7 ⟨rfl, hb7⟩
      have HB7 := Lib.hid (HB6.out.trans (hb7.mono HB6.out.size))
      clear hb7
      go_wp2
      go_ret
      exact ⟨rfl, HB7.out⟩

theorem writes_walk (s : Int) (A : Option Addr) (n c : Nat) (z : List Int) (q : Int) (w : World) (w0 : (Lit.int .u64 s).wf = true) (w1 : IsRow .u8 w A n c z) (w2 : (Lit.int .i64 q).wf = true) (r1 : c * 1 ≤ 140737488351232) :
    Calls Try.prog 3 #[.int .u64 s, .slice A n c, .int .i64 q] w fun e w' => e = .returned (.bool true) ∧ Below w.heap.size w w' := by
  obtain ⟨l, hn, hl, bl, _, hA, hnc⟩ := row_rd w1
  have hs := wf_u64b w0
  by_cases h0 : s = 0
  · subst h0
    exact writes_err 0 A n c l q 1 w hn hA hl (by omega) (fun A c w => write_arg A n c w) (fun A c w => refwrite_arg A n c w)
  · by_cases h1 : 4096 < n
    · exact writes_err s A n c l q 4 w hn hA hl (by omega) (fun A c w => write_large s A n c w h0 h1) (fun A c w => refwrite_large s A n c w h0 h1)
    · exact writes_ok s A n c l q w (by omega) hn hA hl bl hnc (by omega)
end Go.Proofs.Ytdgciajdnmgcnaa
