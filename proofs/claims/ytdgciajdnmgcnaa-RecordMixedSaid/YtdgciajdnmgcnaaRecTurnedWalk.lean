/- The walk of RecordTurned: whatever is handed in, it answers true and writes nothing that was there. -/
import Derived.Test.YtdgciajdnmgcnaaRecRead
import Derived.Test.YtdgciajdnmgcnaaRecCom
import Derived.Test.YtdgciajdnmgcnaaTurn
import Derived.StillTailTactics
namespace Go.Proofs.Ytdgciajdnmgcnaa
open Go.RowKit
set_option linter.unusedVariables false

theorem u64_nat (i : Int) : ∃ p : Nat, IntKind.u64.wrap i = (p : Int) ∧ p < 18446744073709551616 := by
  have h0 : 0 ≤ IntKind.u64.wrap i := by simp only [IntKind.wrap, IntKind.bits, IntKind.signed]; simp; omega
  have h1 : IntKind.u64.wrap i < 18446744073709551616 := by simp only [IntKind.wrap, IntKind.bits, IntKind.signed]; simp; omega
  obtain ⟨p, hp⟩ := Int.eq_ofNat_of_zero_le h0
  exact ⟨p, hp, by omega⟩
theorem modN (p k : Nat) (hk : 0 < k) : ∃ x : Nat, (p : Int).tmod (k : Int) = (x : Int) ∧ x < k := ⟨p % k, by rw [Int.tmod_eq_emod_of_nonneg (by omega)]; omega, Nat.mod_lt _ hk⟩
theorem mod4096 (p : Nat) : ∃ x : Nat, (p : Int).tmod 4096 = (x : Int) ∧ x < 4096 := ⟨p % 4096, by rw [Int.tmod_eq_emod_of_nonneg (by omega)]; omega, by omega⟩
theorem RdL.set {w : World} {vs : List Value} {Ls : List (List Int)} (h : RdL w vs Ls) (j : Nat) {A : Option Addr} {n c : Nat} {L : List Int} (hn : L.length = n) (hA : A = none → n = 0 ∧ c = 0) (hc : n ≤ c) (hr : Rd w A (bys L)) (hB : IsB L) : RdL w (vs.set j (Value.slice A n c)) (Ls.set j L) := by
  subst hn
  refine ⟨by simp [h.1], fun i M hi => ?_⟩
  rw [List.getElem?_set] at hi
  by_cases hij : j = i
  · subst hij
    rw [if_pos rfl] at hi
    split at hi
    · rename_i hlt
      simp at hi; subst hi
      exact ⟨A, c, by rw [List.getElem?_set, if_pos rfl, if_pos (by rw [h.1]; exact hlt)], hA, hc, hr, hB⟩
    · cases hi
  · rw [if_neg hij] at hi
    obtain ⟨A', c', h1, r⟩ := h.2 i M hi
    exact ⟨A', c', by rw [List.getElem?_set, if_neg hij]; exact h1, r⟩
theorem readErr_bad {s : Int} {n : Nat} {l L : List Int} {x : Nat} (hs : 0 < s) (hn : n ≤ 4096) (hln : l.length = n) (hx : x < cnt n) (hL : (sec L).err ≠ 0) : readErr s (n : Int) ((recL s l).set x L) = 5 := by
  have hc := cnt_pos hn
  unfold readErr
  rw [if_neg (by rw [cntI_nat]; omega), if_pos]
  refine .inr ?_
  unfold badAny
  rw [List.any_eq_true]
  refine ⟨L, List.mem_of_getElem? (i := x) ?_, by simpa using hL⟩
  rw [List.getElem?_set, if_pos rfl, if_pos (by rw [recL_length, hln]; exact hx)]

set_option maxRecDepth 100000 in
set_option maxHeartbeats 4000000 in
theorem turned_err (s : Int) (A : Option Addr) (n c : Nat) (o i j q er : Int) (w : World) (he : (er != 0) = true)
    (E1 : ∀ (w : World), Calls Try.prog 10 #[.int .u64 s, .slice A n c] w fun e w' => e = .returned (.tuple #[.slice none 0 0, .int .i64 er]) ∧ w = w') :
    Calls Try.prog 7 #[.int .u64 s, .slice A n c, .int .i64 o, .int .i64 i, .int .i64 j, .int .i64 q] w fun e w' => e = .returned (.bool true) ∧ Below w.heap.size w w' := by
  have C1 := Lib.hid E1
  have C3 := Lib.hid (fun w => awake_any w)
  clear E1
  go_enter Try.func7, Try.ntmps7
  go_wp2_with fail
  refine (C1.out _).mono ?_
  rintro e w2 ⟨rfl, rfl⟩
  go_wp2_with fail
  refine (C3.out _).mono ?_
  rintro e w3 ⟨rfl, hb2⟩
  go_wp2_with fail
  refine (C3.out _).mono ?_
  rintro e w4 ⟨rfl, hb3⟩
  go_wp2
  go_ret
  exact ⟨rfl, hb2.trans (hb3.mono hb2.size)⟩

set_option maxRecDepth 100000 in
set_option maxHeartbeats 4000000 in
theorem turned_a (s : Int) (A : Option Addr) (n c : Nat) (l : List Int) (o i j q : Int) (w : World) (hs : 0 < s ∧ s < 18446744073709551616)
    (hln : l.length = n) (hA : A = none → n = 0 ∧ c = 0) (hl : Rd w A (bys l)) (hB : IsB l) (hc : n ≤ c) (hn : n ≤ 4096)
    (p0 p1 p2 p3 x0 x1 x2 x3 : Nat) (f0 : IntKind.u64.wrap i = (p0 : Int)) (f1 : IntKind.u64.wrap j = (p1 : Int)) (f2 : IntKind.u64.wrap q = (p2 : Int)) (f3 : IntKind.u64.wrap o = (p3 : Int)) (g0 : p0 < 18446744073709551616) (g1 : p1 < 18446744073709551616) (g2 : p2 < 18446744073709551616) (g3 : p3 < 18446744073709551616)
    (d0 : (p0 : Int).tmod 4096 = (x0 : Int)) (d1 : (p1 : Int).tmod 4096 = (x1 : Int)) (d2 : (p2 : Int).tmod 4096 = (x2 : Int)) (d3 : (p3 : Int).tmod (cnt n : Int) = (x3 : Int)) (l0 : x0 < 4096) (l1 : x1 < 4096) (l2 : x2 < 4096) (l3 : x3 < cnt n) (e01 : x0 = x1) :
    Calls Try.prog 7 #[.int .u64 s, .slice A n c, .int .i64 o, .int .i64 i, .int .i64 j, .int .i64 q] w fun e w' => e = .returned (.bool true) ∧ Below w.heap.size w w' := by
  have C1 := Lib.hid (write_ok s A n c l w hs hln hn hc hA hl hB)
  have C3 := Lib.hid (fun w => awake_any w)
  have hcp := cnt_pos hn
  have hrl : (recL s l).length = cnt n := by rw [recL_length, hln]
  have hn' : l.length ≤ 4096 := by omega
  have w4 : IntKind.u64.wrap 4096 = 4096 := rfl
  have v0 : IntKind.i64.wrap (x0 : Int) = (x0 : Int) := IntWalk.i64_in _ (by omega)
  have v1 : IntKind.i64.wrap (x1 : Int) = (x1 : Int) := IntWalk.i64_in _ (by omega)
  have v2 : IntKind.i64.wrap (x2 : Int) = (x2 : Int) := IntWalk.i64_in _ (by omega)
  have v3 : IntKind.i64.wrap (x3 : Int) = (x3 : Int) := IntWalk.i64_in _ (by omega)
  have vk : IntKind.u64.wrap (cnt n : Int) = (cnt n : Int) := u64w (by omega)
  have q01 : ((x0 : Int) == (x1 : Int)) = true := by rw [e01]; simp
  clear e01
  have hin : ∀ b ∈ [x0], b / 8 < 512 := by intro b hb; simp at hb; omega
  have hbig : ∀ b ∈ [x0], b < 9223372036854775807 := by intro b hb; simp at hb; omega
  obtain ⟨S, hS⟩ : ∃ S, S = sealed 113 s (partL l (cnt n) x3) := ⟨_, rfl⟩
  have hgS : (recL s l)[x3]? = some S := by rw [List.getElem?_eq_getElem (by rw [hrl]; exact l3), recL_get, hln, hS]
  have hpl : (partL l (cnt n) x3).length ≤ 496 := by rw [partL_length]; omega
  have hpB : IsB (partL l (cnt n) x3) := partL_isB hB (by omega) (by omega)
  have hSl : S.length = 512 := by rw [hS]; exact sealed_length _ _ hpl
  have hSB : IsB S := by rw [hS]; exact sealed_isB (by decide) hpB
  have hp1 : parL (turned S [x0]) = true := by rw [parL_turned _ _ (by rw [hSl]; exact hin), hS, parL_sealed known113 hpB]; simp
  have hsec := sec_odd (turned_isB [x0] hSB) (by rw [turned_length, hSl]) hp1
  have hbad := readErr_bad (s := s) (L := turned S [x0]) hs.1 hn hln l3 (by rw [hsec]; decide)
  have hval : readVal s (n : Int) ((recL s l).set x3 (turned S [x0])) = [] := by unfold readVal; rw [hbad]; rfl
  have T1 := Lib.hid (fun (W : World) (g gb : Nat) (hg : W.heap[g]? = some (.cells (bys S).toArray 63 (0, 0))) (hb : Rd W (some ⟨gb, 0, none⟩) (ins [x0])) => turn_any (some ⟨g, 0, none⟩) 512 512 S (some ⟨gb, 0, none⟩) 1 3 [x0] W hSl rfl (by simp) (rd_block hg) hb hSB hin hbig (by decide) (by decide) (by decide))
  have C5 := Lib.hid (fun (A' : Option Addr) (c' : Nat) (vs : List Value) (w : World) (h : Rd w A' vs) (hL : RdL w vs ((recL s l).set x3 (turned S [x0]))) => read_any s (n : Int) A' (cnt n) c' vs ((recL s l).set x3 (turned S [x0])) w (hL.1.trans (by rw [List.length_set, hrl])) h hL)
  rw [hbad, hval] at C5
  simp only [readAt] at C5
  have HM := Lib.hid (recL_mem (s := s) hB hn')
  have HGS := Lib.hid hgS
  have HTB := Lib.hid (turned_isB [x0] hSB)
  have HTL : Hid ((turned S [x0]).length = 512) := Lib.hid ((turned_length _ _).trans hSl)
  have HRL := Lib.hid hrl
  clear hln hA hrl hs hin hbig hpl hpB hSl hSB hp1 hsec hbad hval hgS hS
  obtain ⟨k, hk⟩ : ∃ k, k = cnt n := ⟨_, rfl⟩
  rw [← hk] at hcp C1 C5 d3 l3 vk HRL
  clear hk
  have hk0 : (k : Int) ≠ 0 := by omega
  go_enter Try.func7, Try.ntmps7
  go_wp2_with fail
  refine C1.out.mono ?_
  rintro e w2 ⟨v2, gs, rfl, hown2, hS2, hb2⟩
  obtain ⟨go, c2, rfl, hgo, hc2⟩ := own_addr hown2 (by omega)
  have HO2 := Lib.hid hown2
  have HS2 := Lib.hid hS2
  have HB2 := Lib.hid hb2
  clear hown2 hS2 hb2
  go_wp2_with fail
  refine (C3.out _).mono ?_
  rintro e w4 ⟨rfl, hb4⟩
  have HO4 := Lib.hid (own_kept HO2.out hb4)
  have HS4 := Lib.hid (HS2.out.kept hb4)
  have HB4 := Lib.hid (HB2.out.trans (hb4.mono HB2.out.size))
  clear hb4 HO2 HS2 HB2
  go_wp2_with fail
  go_still_tail 18, (by kernel_rfl)
  change wpList _ _ _ _ _ w4.drew
  go_wp2_with fail
  have hblk := heap_alloc_new w4 (.cells #[.int .i64 x0, .int .i64 x1, .int .i64 x2] 3)
  have kc0 : (w4.alloc (.cells #[.int .i64 x0, .int .i64 x1, .int .i64 x2] 3)).drew.cell? ⟨w4.heap.size, 0, none⟩ = some (.int .i64 x0) := block_cell (L := [.int .i64 x0, .int .i64 x1, .int .i64 x2]) hblk 0
  have kc1 : (w4.alloc (.cells #[.int .i64 x0, .int .i64 x1, .int .i64 x2] 3)).drew.cell? ⟨w4.heap.size, 1, none⟩ = some (.int .i64 x1) := block_cell (L := [.int .i64 x0, .int .i64 x1, .int .i64 x2]) hblk 1
  have kc2 : (w4.alloc (.cells #[.int .i64 x0, .int .i64 x1, .int .i64 x2] 3)).drew.cell? ⟨w4.heap.size, 2, none⟩ = some (.int .i64 x2) := block_cell (L := [.int .i64 x0, .int .i64 x1, .int .i64 x2]) hblk 2
  clear hblk
  go_quiet (fail)
  obtain ⟨W, hW⟩ : ∃ W, W = (w4.alloc (.cells #[.int .i64 x0, .int .i64 x1, .int .i64 x2] 3)).drew.drewN nq := ⟨_, rfl⟩
  have hbW : Below w4.heap.size w4 W := by rw [hW]; exact (((Below.refl _ w4).alloc (Nat.le_refl _) _).trans (below_drewN _ 1)).trans (below_drewN _ _)
  have RB : Hid (Rd W (some ⟨w4.heap.size, 0, none⟩) (ins [x0])) := by rw [hW]; exact Lib.hid ((rd_block (L := [.int .i64 x0, .int .i64 x1, .int .i64 x2]) (heap_alloc_new w4 _)).take 1)
  have HB3 := Lib.hid (HB4.out.trans (hbW.mono HB4.out.size))
  have HO3 := Lib.hid (own_kept HO4.out hbW)
  have HS3 := Lib.hid (HS4.out.kept hbW)
  clear kc0 kc1 kc2 hbW
  rw [← hW]
  clear hW
  have hgl : gs.length = k := by rw [HS3.out.len, HRL.out]
  have hjg : x3 < gs.length := by omega
  have hcell := HO3.out.cellAt x3 (by omega)
  rw [List.getElem?_map, List.getElem?_eq_getElem hjg] at hcell
  simp only [Option.map_some, secV] at hcell
  have hat := HS3.out.at_ x3 gs[x3] S (List.getElem?_eq_getElem hjg) HGS.out
  have hfree := HO3.out.frozenAt x3
  have b1 : (0 : Int) ≤ (x3 : Int) ∧ (x3 : Int) < (k : Int) := by omega
  have HAT := Lib.hid hat.2
  clear hat
  generalize gs[x3] = g at *
  go_wp2_with fail
  refine (T1.out _ g w4.heap.size HAT.out RB.out).mono ?_
  rintro e w5 ⟨v5, rfl, hown5, hb5⟩
  obtain ⟨A5, c5, rfl, hnc5⟩ := own_sh hown5
  have HO5 := Lib.hid hown5
  have hgoW : go < W.heap.size := (own_base' HO3.out _ rfl).2
  have hc5' := (hb5.cell (p := ⟨go, x3, none⟩) hgoW).trans hcell
  have hf5 := (hb5.frozen (p := ⟨go, x3, none⟩) hgoW).trans hfree
  have HOo := Lib.hid (own_kept HO3.out hb5)
  have HSo := Lib.hid (HS3.out.kept hb5)
  have HB5 := Lib.hid (HB3.out.trans (hb5.mono HB3.out.size))
  clear hown5 hb5 hcell hfree
  have hw : w.heap.size ≤ go := hgo
  have HBs := Lib.hid (HB5.out.setCell (p := ⟨go, x3, none⟩) hw (.slice A5 512 c5))
  have RO : Hid (Rd (w5.setCell ⟨go, x3, none⟩ (.slice A5 512 c5)) (some ⟨go, 0, none⟩) ((gs.map secV).set x3 (.slice A5 512 c5))) := by
    obtain ⟨A', c', he, _, _, hrd, _⟩ := own_rd HOo.out
    obtain ⟨rfl, rfl⟩ : some ⟨go, 0, none⟩ = A' ∧ c2 = c' := by simpa using he
    have := hrd.setCell x3 (.slice A5 512 c5)
    rw [Nat.zero_add] at this
    exact Lib.hid this
  have RL : Hid (RdL (w5.setCell ⟨go, x3, none⟩ (.slice A5 512 c5)) ((gs.map secV).set x3 (.slice A5 512 c5)) ((recL s l).set x3 (turned S [x0]))) := by
    have h1 : Secs w.heap.size (w5.setCell ⟨go, x3, none⟩ (.slice A5 512 c5)) gs (recL s l) := HSo.out.mv (fun g hg => Below.heap_setCell _ _ _ _ (fun e => secs_not_own HSo.out HOo.out g hg (by first | (simp [Value.ownBlock, e]; done) | (simp [Value.ownBlock, ← e]; done))))
    have h2 := ownsRow_setCell_below HO5.out (a := ⟨go, x3, none⟩) hgoW (.slice A5 512 c5)
    obtain ⟨A', c', he, hnc, _, hrd, _⟩ := own_rd h2
    obtain ⟨rfl, rfl⟩ : A5 = A' ∧ c5 = c' := by simpa using he
    exact Lib.hid ((h1.rdl HM.out).set x3 HTL.out (fun e => by
      subst e
      rcases h2.2 with ⟨h, h0⟩ | ⟨g', cap, cur, h1, _⟩
      · omega
      · simp at h1) hnc hrd HTB.out)
  clear HO5 HOo HSo
  go_wp2_with fail
  refine (C5.out _ c2 _ _ RO.out RL.out).mono ?_
  rintro e w7 ⟨⟨v7, rfl, hown7⟩, hb7⟩
  obtain ⟨A7, c7, rfl, hc7⟩ := own_sh hown7
  have HB7 := Lib.hid (HBs.out.trans (hb7.mono HBs.out.size))
  clear hown7 hb7
  go_wp2
  go_ret
  exact ⟨rfl, HB7.out⟩

set_option maxRecDepth 100000 in
set_option maxHeartbeats 4000000 in
theorem turned_b (s : Int) (A : Option Addr) (n c : Nat) (l : List Int) (o i j q : Int) (w : World) (hs : 0 < s ∧ s < 18446744073709551616)
    (hln : l.length = n) (hA : A = none → n = 0 ∧ c = 0) (hl : Rd w A (bys l)) (hB : IsB l) (hc : n ≤ c) (hn : n ≤ 4096)
    (p0 p1 p2 p3 x0 x1 x2 x3 : Nat) (f0 : IntKind.u64.wrap i = (p0 : Int)) (f1 : IntKind.u64.wrap j = (p1 : Int)) (f2 : IntKind.u64.wrap q = (p2 : Int)) (f3 : IntKind.u64.wrap o = (p3 : Int)) (g0 : p0 < 18446744073709551616) (g1 : p1 < 18446744073709551616) (g2 : p2 < 18446744073709551616) (g3 : p3 < 18446744073709551616)
    (d0 : (p0 : Int).tmod 4096 = (x0 : Int)) (d1 : (p1 : Int).tmod 4096 = (x1 : Int)) (d2 : (p2 : Int).tmod 4096 = (x2 : Int)) (d3 : (p3 : Int).tmod (cnt n : Int) = (x3 : Int)) (l0 : x0 < 4096) (l1 : x1 < 4096) (l2 : x2 < 4096) (l3 : x3 < cnt n) (e01 : x0 ≠ x1) (e12 : x1 = x2) :
    Calls Try.prog 7 #[.int .u64 s, .slice A n c, .int .i64 o, .int .i64 i, .int .i64 j, .int .i64 q] w fun e w' => e = .returned (.bool true) ∧ Below w.heap.size w w' := by
  have C1 := Lib.hid (write_ok s A n c l w hs hln hn hc hA hl hB)
  have C3 := Lib.hid (fun w => awake_any w)
  have hcp := cnt_pos hn
  have hrl : (recL s l).length = cnt n := by rw [recL_length, hln]
  have hn' : l.length ≤ 4096 := by omega
  have w4 : IntKind.u64.wrap 4096 = 4096 := rfl
  have v0 : IntKind.i64.wrap (x0 : Int) = (x0 : Int) := IntWalk.i64_in _ (by omega)
  have v1 : IntKind.i64.wrap (x1 : Int) = (x1 : Int) := IntWalk.i64_in _ (by omega)
  have v2 : IntKind.i64.wrap (x2 : Int) = (x2 : Int) := IntWalk.i64_in _ (by omega)
  have v3 : IntKind.i64.wrap (x3 : Int) = (x3 : Int) := IntWalk.i64_in _ (by omega)
  have vk : IntKind.u64.wrap (cnt n : Int) = (cnt n : Int) := u64w (by omega)
  have q01 : ((x0 : Int) == (x1 : Int)) = false := by rw [beq_eq_false_iff_ne]; omega
  have q12 : ((x1 : Int) == (x2 : Int)) = true := by rw [e12]; simp
  clear e01 e12
  have hin : ∀ b ∈ [x0], b / 8 < 512 := by intro b hb; simp at hb; omega
  have hbig : ∀ b ∈ [x0], b < 9223372036854775807 := by intro b hb; simp at hb; omega
  obtain ⟨S, hS⟩ : ∃ S, S = sealed 113 s (partL l (cnt n) x3) := ⟨_, rfl⟩
  have hgS : (recL s l)[x3]? = some S := by rw [List.getElem?_eq_getElem (by rw [hrl]; exact l3), recL_get, hln, hS]
  have hpl : (partL l (cnt n) x3).length ≤ 496 := by rw [partL_length]; omega
  have hpB : IsB (partL l (cnt n) x3) := partL_isB hB (by omega) (by omega)
  have hSl : S.length = 512 := by rw [hS]; exact sealed_length _ _ hpl
  have hSB : IsB S := by rw [hS]; exact sealed_isB (by decide) hpB
  have hp1 : parL (turned S [x0]) = true := by rw [parL_turned _ _ (by rw [hSl]; exact hin), hS, parL_sealed known113 hpB]; simp
  have hsec := sec_odd (turned_isB [x0] hSB) (by rw [turned_length, hSl]) hp1
  have hbad := readErr_bad (s := s) (L := turned S [x0]) hs.1 hn hln l3 (by rw [hsec]; decide)
  have hval : readVal s (n : Int) ((recL s l).set x3 (turned S [x0])) = [] := by unfold readVal; rw [hbad]; rfl
  have T1 := Lib.hid (fun (W : World) (g gb : Nat) (hg : W.heap[g]? = some (.cells (bys S).toArray 63 (0, 0))) (hb : Rd W (some ⟨gb, 0, none⟩) (ins [x0])) => turn_any (some ⟨g, 0, none⟩) 512 512 S (some ⟨gb, 0, none⟩) 1 3 [x0] W hSl rfl (by simp) (rd_block hg) hb hSB hin hbig (by decide) (by decide) (by decide))
  have C5 := Lib.hid (fun (A' : Option Addr) (c' : Nat) (vs : List Value) (w : World) (h : Rd w A' vs) (hL : RdL w vs ((recL s l).set x3 (turned S [x0]))) => read_any s (n : Int) A' (cnt n) c' vs ((recL s l).set x3 (turned S [x0])) w (hL.1.trans (by rw [List.length_set, hrl])) h hL)
  rw [hbad, hval] at C5
  simp only [readAt] at C5
  have HM := Lib.hid (recL_mem (s := s) hB hn')
  have HGS := Lib.hid hgS
  have HTB := Lib.hid (turned_isB [x0] hSB)
  have HTL : Hid ((turned S [x0]).length = 512) := Lib.hid ((turned_length _ _).trans hSl)
  have HRL := Lib.hid hrl
  clear hln hA hrl hs hin hbig hpl hpB hSl hSB hp1 hsec hbad hval hgS hS
  obtain ⟨k, hk⟩ : ∃ k, k = cnt n := ⟨_, rfl⟩
  rw [← hk] at hcp C1 C5 d3 l3 vk HRL
  clear hk
  have hk0 : (k : Int) ≠ 0 := by omega
  go_enter Try.func7, Try.ntmps7
  go_wp2_with fail
  refine C1.out.mono ?_
  rintro e w2 ⟨v2, gs, rfl, hown2, hS2, hb2⟩
  obtain ⟨go, c2, rfl, hgo, hc2⟩ := own_addr hown2 (by omega)
  have HO2 := Lib.hid hown2
  have HS2 := Lib.hid hS2
  have HB2 := Lib.hid hb2
  clear hown2 hS2 hb2
  go_wp2_with fail
  refine (C3.out _).mono ?_
  rintro e w4 ⟨rfl, hb4⟩
  have HO4 := Lib.hid (own_kept HO2.out hb4)
  have HS4 := Lib.hid (HS2.out.kept hb4)
  have HB4 := Lib.hid (HB2.out.trans (hb4.mono HB2.out.size))
  clear hb4 HO2 HS2 HB2
  go_wp2_with fail
  go_still_tail 18, (by kernel_rfl)
  change wpList _ _ _ _ _ w4.drew
  go_wp2_with fail
  have hblk := heap_alloc_new w4 (.cells #[.int .i64 x0, .int .i64 x1, .int .i64 x2] 3)
  have kc0 : (w4.alloc (.cells #[.int .i64 x0, .int .i64 x1, .int .i64 x2] 3)).drew.cell? ⟨w4.heap.size, 0, none⟩ = some (.int .i64 x0) := block_cell (L := [.int .i64 x0, .int .i64 x1, .int .i64 x2]) hblk 0
  have kc1 : (w4.alloc (.cells #[.int .i64 x0, .int .i64 x1, .int .i64 x2] 3)).drew.cell? ⟨w4.heap.size, 1, none⟩ = some (.int .i64 x1) := block_cell (L := [.int .i64 x0, .int .i64 x1, .int .i64 x2]) hblk 1
  have kc2 : (w4.alloc (.cells #[.int .i64 x0, .int .i64 x1, .int .i64 x2] 3)).drew.cell? ⟨w4.heap.size, 2, none⟩ = some (.int .i64 x2) := block_cell (L := [.int .i64 x0, .int .i64 x1, .int .i64 x2]) hblk 2
  clear hblk
  go_quiet (fail)
  obtain ⟨W, hW⟩ : ∃ W, W = (w4.alloc (.cells #[.int .i64 x0, .int .i64 x1, .int .i64 x2] 3)).drew.drewN nq := ⟨_, rfl⟩
  have hbW : Below w4.heap.size w4 W := by rw [hW]; exact (((Below.refl _ w4).alloc (Nat.le_refl _) _).trans (below_drewN _ 1)).trans (below_drewN _ _)
  have RB : Hid (Rd W (some ⟨w4.heap.size, 0, none⟩) (ins [x0])) := by rw [hW]; exact Lib.hid ((rd_block (L := [.int .i64 x0, .int .i64 x1, .int .i64 x2]) (heap_alloc_new w4 _)).take 1)
  have HB3 := Lib.hid (HB4.out.trans (hbW.mono HB4.out.size))
  have HO3 := Lib.hid (own_kept HO4.out hbW)
  have HS3 := Lib.hid (HS4.out.kept hbW)
  clear kc0 kc1 kc2 hbW
  rw [← hW]
  clear hW
  have hgl : gs.length = k := by rw [HS3.out.len, HRL.out]
  have hjg : x3 < gs.length := by omega
  have hcell := HO3.out.cellAt x3 (by omega)
  rw [List.getElem?_map, List.getElem?_eq_getElem hjg] at hcell
  simp only [Option.map_some, secV] at hcell
  have hat := HS3.out.at_ x3 gs[x3] S (List.getElem?_eq_getElem hjg) HGS.out
  have hfree := HO3.out.frozenAt x3
  have b1 : (0 : Int) ≤ (x3 : Int) ∧ (x3 : Int) < (k : Int) := by omega
  have HAT := Lib.hid hat.2
  clear hat
  generalize gs[x3] = g at *
  go_wp2_with fail
  refine (T1.out _ g w4.heap.size HAT.out RB.out).mono ?_
  rintro e w5 ⟨v5, rfl, hown5, hb5⟩
  obtain ⟨A5, c5, rfl, hnc5⟩ := own_sh hown5
  have HO5 := Lib.hid hown5
  have hgoW : go < W.heap.size := (own_base' HO3.out _ rfl).2
  have hc5' := (hb5.cell (p := ⟨go, x3, none⟩) hgoW).trans hcell
  have hf5 := (hb5.frozen (p := ⟨go, x3, none⟩) hgoW).trans hfree
  have HOo := Lib.hid (own_kept HO3.out hb5)
  have HSo := Lib.hid (HS3.out.kept hb5)
  have HB5 := Lib.hid (HB3.out.trans (hb5.mono HB3.out.size))
  clear hown5 hb5 hcell hfree
  have hw : w.heap.size ≤ go := hgo
  have HBs := Lib.hid (HB5.out.setCell (p := ⟨go, x3, none⟩) hw (.slice A5 512 c5))
  have RO : Hid (Rd (w5.setCell ⟨go, x3, none⟩ (.slice A5 512 c5)) (some ⟨go, 0, none⟩) ((gs.map secV).set x3 (.slice A5 512 c5))) := by
    obtain ⟨A', c', he, _, _, hrd, _⟩ := own_rd HOo.out
    obtain ⟨rfl, rfl⟩ : some ⟨go, 0, none⟩ = A' ∧ c2 = c' := by simpa using he
    have := hrd.setCell x3 (.slice A5 512 c5)
    rw [Nat.zero_add] at this
    exact Lib.hid this
  have RL : Hid (RdL (w5.setCell ⟨go, x3, none⟩ (.slice A5 512 c5)) ((gs.map secV).set x3 (.slice A5 512 c5)) ((recL s l).set x3 (turned S [x0]))) := by
    have h1 : Secs w.heap.size (w5.setCell ⟨go, x3, none⟩ (.slice A5 512 c5)) gs (recL s l) := HSo.out.mv (fun g hg => Below.heap_setCell _ _ _ _ (fun e => secs_not_own HSo.out HOo.out g hg (by first | (simp [Value.ownBlock, e]; done) | (simp [Value.ownBlock, ← e]; done))))
    have h2 := ownsRow_setCell_below HO5.out (a := ⟨go, x3, none⟩) hgoW (.slice A5 512 c5)
    obtain ⟨A', c', he, hnc, _, hrd, _⟩ := own_rd h2
    obtain ⟨rfl, rfl⟩ : A5 = A' ∧ c5 = c' := by simpa using he
    exact Lib.hid ((h1.rdl HM.out).set x3 HTL.out (fun e => by
      subst e
      rcases h2.2 with ⟨h, h0⟩ | ⟨g', cap, cur, h1, _⟩
      · omega
      · simp at h1) hnc hrd HTB.out)
  clear HO5 HOo HSo
  go_wp2_with fail
  refine (C5.out _ c2 _ _ RO.out RL.out).mono ?_
  rintro e w7 ⟨⟨v7, rfl, hown7⟩, hb7⟩
  obtain ⟨A7, c7, rfl, hc7⟩ := own_sh hown7
  have HB7 := Lib.hid (HBs.out.trans (hb7.mono HBs.out.size))
  clear hown7 hb7
  go_wp2
  go_ret
  exact ⟨rfl, HB7.out⟩

set_option maxRecDepth 100000 in
set_option maxHeartbeats 4000000 in
theorem turned_c (s : Int) (A : Option Addr) (n c : Nat) (l : List Int) (o i j q : Int) (w : World) (hs : 0 < s ∧ s < 18446744073709551616)
    (hln : l.length = n) (hA : A = none → n = 0 ∧ c = 0) (hl : Rd w A (bys l)) (hB : IsB l) (hc : n ≤ c) (hn : n ≤ 4096)
    (p0 p1 p2 p3 x0 x1 x2 x3 : Nat) (f0 : IntKind.u64.wrap i = (p0 : Int)) (f1 : IntKind.u64.wrap j = (p1 : Int)) (f2 : IntKind.u64.wrap q = (p2 : Int)) (f3 : IntKind.u64.wrap o = (p3 : Int)) (g0 : p0 < 18446744073709551616) (g1 : p1 < 18446744073709551616) (g2 : p2 < 18446744073709551616) (g3 : p3 < 18446744073709551616)
    (d0 : (p0 : Int).tmod 4096 = (x0 : Int)) (d1 : (p1 : Int).tmod 4096 = (x1 : Int)) (d2 : (p2 : Int).tmod 4096 = (x2 : Int)) (d3 : (p3 : Int).tmod (cnt n : Int) = (x3 : Int)) (l0 : x0 < 4096) (l1 : x1 < 4096) (l2 : x2 < 4096) (l3 : x3 < cnt n) (e01 : x0 ≠ x1) (e12 : x1 ≠ x2) (e02 : x0 = x2) :
    Calls Try.prog 7 #[.int .u64 s, .slice A n c, .int .i64 o, .int .i64 i, .int .i64 j, .int .i64 q] w fun e w' => e = .returned (.bool true) ∧ Below w.heap.size w w' := by
  have C1 := Lib.hid (write_ok s A n c l w hs hln hn hc hA hl hB)
  have C3 := Lib.hid (fun w => awake_any w)
  have hcp := cnt_pos hn
  have hrl : (recL s l).length = cnt n := by rw [recL_length, hln]
  have hn' : l.length ≤ 4096 := by omega
  have w4 : IntKind.u64.wrap 4096 = 4096 := rfl
  have v0 : IntKind.i64.wrap (x0 : Int) = (x0 : Int) := IntWalk.i64_in _ (by omega)
  have v1 : IntKind.i64.wrap (x1 : Int) = (x1 : Int) := IntWalk.i64_in _ (by omega)
  have v2 : IntKind.i64.wrap (x2 : Int) = (x2 : Int) := IntWalk.i64_in _ (by omega)
  have v3 : IntKind.i64.wrap (x3 : Int) = (x3 : Int) := IntWalk.i64_in _ (by omega)
  have vk : IntKind.u64.wrap (cnt n : Int) = (cnt n : Int) := u64w (by omega)
  have q01 : ((x0 : Int) == (x1 : Int)) = false := by rw [beq_eq_false_iff_ne]; omega
  have q12 : ((x1 : Int) == (x2 : Int)) = false := by rw [beq_eq_false_iff_ne]; omega
  have q02 : ((x0 : Int) == (x2 : Int)) = true := by rw [e02]; simp
  clear e01 e12 e02
  have hin : ∀ b ∈ [x0], b / 8 < 512 := by intro b hb; simp at hb; omega
  have hbig : ∀ b ∈ [x0], b < 9223372036854775807 := by intro b hb; simp at hb; omega
  obtain ⟨S, hS⟩ : ∃ S, S = sealed 113 s (partL l (cnt n) x3) := ⟨_, rfl⟩
  have hgS : (recL s l)[x3]? = some S := by rw [List.getElem?_eq_getElem (by rw [hrl]; exact l3), recL_get, hln, hS]
  have hpl : (partL l (cnt n) x3).length ≤ 496 := by rw [partL_length]; omega
  have hpB : IsB (partL l (cnt n) x3) := partL_isB hB (by omega) (by omega)
  have hSl : S.length = 512 := by rw [hS]; exact sealed_length _ _ hpl
  have hSB : IsB S := by rw [hS]; exact sealed_isB (by decide) hpB
  have hp1 : parL (turned S [x0]) = true := by rw [parL_turned _ _ (by rw [hSl]; exact hin), hS, parL_sealed known113 hpB]; simp
  have hsec := sec_odd (turned_isB [x0] hSB) (by rw [turned_length, hSl]) hp1
  have hbad := readErr_bad (s := s) (L := turned S [x0]) hs.1 hn hln l3 (by rw [hsec]; decide)
  have hval : readVal s (n : Int) ((recL s l).set x3 (turned S [x0])) = [] := by unfold readVal; rw [hbad]; rfl
  have T1 := Lib.hid (fun (W : World) (g gb : Nat) (hg : W.heap[g]? = some (.cells (bys S).toArray 63 (0, 0))) (hb : Rd W (some ⟨gb, 0, none⟩) (ins [x0])) => turn_any (some ⟨g, 0, none⟩) 512 512 S (some ⟨gb, 0, none⟩) 1 3 [x0] W hSl rfl (by simp) (rd_block hg) hb hSB hin hbig (by decide) (by decide) (by decide))
  have C5 := Lib.hid (fun (A' : Option Addr) (c' : Nat) (vs : List Value) (w : World) (h : Rd w A' vs) (hL : RdL w vs ((recL s l).set x3 (turned S [x0]))) => read_any s (n : Int) A' (cnt n) c' vs ((recL s l).set x3 (turned S [x0])) w (hL.1.trans (by rw [List.length_set, hrl])) h hL)
  rw [hbad, hval] at C5
  simp only [readAt] at C5
  have HM := Lib.hid (recL_mem (s := s) hB hn')
  have HGS := Lib.hid hgS
  have HTB := Lib.hid (turned_isB [x0] hSB)
  have HTL : Hid ((turned S [x0]).length = 512) := Lib.hid ((turned_length _ _).trans hSl)
  have HRL := Lib.hid hrl
  clear hln hA hrl hs hin hbig hpl hpB hSl hSB hp1 hsec hbad hval hgS hS
  obtain ⟨k, hk⟩ : ∃ k, k = cnt n := ⟨_, rfl⟩
  rw [← hk] at hcp C1 C5 d3 l3 vk HRL
  clear hk
  have hk0 : (k : Int) ≠ 0 := by omega
  go_enter Try.func7, Try.ntmps7
  go_wp2_with fail
  refine C1.out.mono ?_
  rintro e w2 ⟨v2, gs, rfl, hown2, hS2, hb2⟩
  obtain ⟨go, c2, rfl, hgo, hc2⟩ := own_addr hown2 (by omega)
  have HO2 := Lib.hid hown2
  have HS2 := Lib.hid hS2
  have HB2 := Lib.hid hb2
  clear hown2 hS2 hb2
  go_wp2_with fail
  refine (C3.out _).mono ?_
  rintro e w4 ⟨rfl, hb4⟩
  have HO4 := Lib.hid (own_kept HO2.out hb4)
  have HS4 := Lib.hid (HS2.out.kept hb4)
  have HB4 := Lib.hid (HB2.out.trans (hb4.mono HB2.out.size))
  clear hb4 HO2 HS2 HB2
  go_wp2_with fail
  go_still_tail 18, (by kernel_rfl)
  change wpList _ _ _ _ _ w4.drew
  go_wp2_with fail
  have hblk := heap_alloc_new w4 (.cells #[.int .i64 x0, .int .i64 x1, .int .i64 x2] 3)
  have kc0 : (w4.alloc (.cells #[.int .i64 x0, .int .i64 x1, .int .i64 x2] 3)).drew.cell? ⟨w4.heap.size, 0, none⟩ = some (.int .i64 x0) := block_cell (L := [.int .i64 x0, .int .i64 x1, .int .i64 x2]) hblk 0
  have kc1 : (w4.alloc (.cells #[.int .i64 x0, .int .i64 x1, .int .i64 x2] 3)).drew.cell? ⟨w4.heap.size, 1, none⟩ = some (.int .i64 x1) := block_cell (L := [.int .i64 x0, .int .i64 x1, .int .i64 x2]) hblk 1
  have kc2 : (w4.alloc (.cells #[.int .i64 x0, .int .i64 x1, .int .i64 x2] 3)).drew.cell? ⟨w4.heap.size, 2, none⟩ = some (.int .i64 x2) := block_cell (L := [.int .i64 x0, .int .i64 x1, .int .i64 x2]) hblk 2
  clear hblk
  go_quiet (fail)
  obtain ⟨W, hW⟩ : ∃ W, W = (w4.alloc (.cells #[.int .i64 x0, .int .i64 x1, .int .i64 x2] 3)).drew.drewN nq := ⟨_, rfl⟩
  have hbW : Below w4.heap.size w4 W := by rw [hW]; exact (((Below.refl _ w4).alloc (Nat.le_refl _) _).trans (below_drewN _ 1)).trans (below_drewN _ _)
  have RB : Hid (Rd W (some ⟨w4.heap.size, 0, none⟩) (ins [x0])) := by rw [hW]; exact Lib.hid ((rd_block (L := [.int .i64 x0, .int .i64 x1, .int .i64 x2]) (heap_alloc_new w4 _)).take 1)
  have HB3 := Lib.hid (HB4.out.trans (hbW.mono HB4.out.size))
  have HO3 := Lib.hid (own_kept HO4.out hbW)
  have HS3 := Lib.hid (HS4.out.kept hbW)
  clear kc0 kc1 kc2 hbW
  rw [← hW]
  clear hW
  have hgl : gs.length = k := by rw [HS3.out.len, HRL.out]
  have hjg : x3 < gs.length := by omega
  have hcell := HO3.out.cellAt x3 (by omega)
  rw [List.getElem?_map, List.getElem?_eq_getElem hjg] at hcell
  simp only [Option.map_some, secV] at hcell
  have hat := HS3.out.at_ x3 gs[x3] S (List.getElem?_eq_getElem hjg) HGS.out
  have hfree := HO3.out.frozenAt x3
  have b1 : (0 : Int) ≤ (x3 : Int) ∧ (x3 : Int) < (k : Int) := by omega
  have HAT := Lib.hid hat.2
  clear hat
  generalize gs[x3] = g at *
  go_wp2_with fail
  refine (T1.out _ g w4.heap.size HAT.out RB.out).mono ?_
  rintro e w5 ⟨v5, rfl, hown5, hb5⟩
  obtain ⟨A5, c5, rfl, hnc5⟩ := own_sh hown5
  have HO5 := Lib.hid hown5
  have hgoW : go < W.heap.size := (own_base' HO3.out _ rfl).2
  have hc5' := (hb5.cell (p := ⟨go, x3, none⟩) hgoW).trans hcell
  have hf5 := (hb5.frozen (p := ⟨go, x3, none⟩) hgoW).trans hfree
  have HOo := Lib.hid (own_kept HO3.out hb5)
  have HSo := Lib.hid (HS3.out.kept hb5)
  have HB5 := Lib.hid (HB3.out.trans (hb5.mono HB3.out.size))
  clear hown5 hb5 hcell hfree
  have hw : w.heap.size ≤ go := hgo
  have HBs := Lib.hid (HB5.out.setCell (p := ⟨go, x3, none⟩) hw (.slice A5 512 c5))
  have RO : Hid (Rd (w5.setCell ⟨go, x3, none⟩ (.slice A5 512 c5)) (some ⟨go, 0, none⟩) ((gs.map secV).set x3 (.slice A5 512 c5))) := by
    obtain ⟨A', c', he, _, _, hrd, _⟩ := own_rd HOo.out
    obtain ⟨rfl, rfl⟩ : some ⟨go, 0, none⟩ = A' ∧ c2 = c' := by simpa using he
    have := hrd.setCell x3 (.slice A5 512 c5)
    rw [Nat.zero_add] at this
    exact Lib.hid this
  have RL : Hid (RdL (w5.setCell ⟨go, x3, none⟩ (.slice A5 512 c5)) ((gs.map secV).set x3 (.slice A5 512 c5)) ((recL s l).set x3 (turned S [x0]))) := by
    have h1 : Secs w.heap.size (w5.setCell ⟨go, x3, none⟩ (.slice A5 512 c5)) gs (recL s l) := HSo.out.mv (fun g hg => Below.heap_setCell _ _ _ _ (fun e => secs_not_own HSo.out HOo.out g hg (by first | (simp [Value.ownBlock, e]; done) | (simp [Value.ownBlock, ← e]; done))))
    have h2 := ownsRow_setCell_below HO5.out (a := ⟨go, x3, none⟩) hgoW (.slice A5 512 c5)
    obtain ⟨A', c', he, hnc, _, hrd, _⟩ := own_rd h2
    obtain ⟨rfl, rfl⟩ : A5 = A' ∧ c5 = c' := by simpa using he
    exact Lib.hid ((h1.rdl HM.out).set x3 HTL.out (fun e => by
      subst e
      rcases h2.2 with ⟨h, h0⟩ | ⟨g', cap, cur, h1, _⟩
      · omega
      · simp at h1) hnc hrd HTB.out)
  clear HO5 HOo HSo
  go_wp2_with fail
  refine (C5.out _ c2 _ _ RO.out RL.out).mono ?_
  rintro e w7 ⟨⟨v7, rfl, hown7⟩, hb7⟩
  obtain ⟨A7, c7, rfl, hc7⟩ := own_sh hown7
  have HB7 := Lib.hid (HBs.out.trans (hb7.mono HBs.out.size))
  clear hown7 hb7
  go_wp2
  go_ret
  exact ⟨rfl, HB7.out⟩

set_option maxRecDepth 100000 in
set_option maxHeartbeats 4000000 in
theorem turned_d (s : Int) (A : Option Addr) (n c : Nat) (l : List Int) (o i j q : Int) (w : World) (hs : 0 < s ∧ s < 18446744073709551616)
    (hln : l.length = n) (hA : A = none → n = 0 ∧ c = 0) (hl : Rd w A (bys l)) (hB : IsB l) (hc : n ≤ c) (hn : n ≤ 4096)
    (p0 p1 p2 p3 x0 x1 x2 x3 : Nat) (f0 : IntKind.u64.wrap i = (p0 : Int)) (f1 : IntKind.u64.wrap j = (p1 : Int)) (f2 : IntKind.u64.wrap q = (p2 : Int)) (f3 : IntKind.u64.wrap o = (p3 : Int)) (g0 : p0 < 18446744073709551616) (g1 : p1 < 18446744073709551616) (g2 : p2 < 18446744073709551616) (g3 : p3 < 18446744073709551616)
    (d0 : (p0 : Int).tmod 4096 = (x0 : Int)) (d1 : (p1 : Int).tmod 4096 = (x1 : Int)) (d2 : (p2 : Int).tmod 4096 = (x2 : Int)) (d3 : (p3 : Int).tmod (cnt n : Int) = (x3 : Int)) (l0 : x0 < 4096) (l1 : x1 < 4096) (l2 : x2 < 4096) (l3 : x3 < cnt n) (e01 : x0 ≠ x1) (e12 : x1 ≠ x2) (e02 : x0 ≠ x2) :
    Calls Try.prog 7 #[.int .u64 s, .slice A n c, .int .i64 o, .int .i64 i, .int .i64 j, .int .i64 q] w fun e w' => e = .returned (.bool true) ∧ Below w.heap.size w w' := by
  have C1 := Lib.hid (write_ok s A n c l w hs hln hn hc hA hl hB)
  have C3 := Lib.hid (fun w => awake_any w)
  have hcp := cnt_pos hn
  have hrl : (recL s l).length = cnt n := by rw [recL_length, hln]
  have hn' : l.length ≤ 4096 := by omega
  have w4 : IntKind.u64.wrap 4096 = 4096 := rfl
  have v0 : IntKind.i64.wrap (x0 : Int) = (x0 : Int) := IntWalk.i64_in _ (by omega)
  have v1 : IntKind.i64.wrap (x1 : Int) = (x1 : Int) := IntWalk.i64_in _ (by omega)
  have v2 : IntKind.i64.wrap (x2 : Int) = (x2 : Int) := IntWalk.i64_in _ (by omega)
  have v3 : IntKind.i64.wrap (x3 : Int) = (x3 : Int) := IntWalk.i64_in _ (by omega)
  have vk : IntKind.u64.wrap (cnt n : Int) = (cnt n : Int) := u64w (by omega)
  have q01 : ((x0 : Int) == (x1 : Int)) = false := by rw [beq_eq_false_iff_ne]; omega
  have q12 : ((x1 : Int) == (x2 : Int)) = false := by rw [beq_eq_false_iff_ne]; omega
  have q02 : ((x0 : Int) == (x2 : Int)) = false := by rw [beq_eq_false_iff_ne]; omega
  clear e01 e12 e02
  have hin : ∀ b ∈ [x0, x1, x2], b / 8 < 512 := by intro b hb; simp at hb; omega
  have hbig : ∀ b ∈ [x0, x1, x2], b < 9223372036854775807 := by intro b hb; simp at hb; omega
  obtain ⟨S, hS⟩ : ∃ S, S = sealed 113 s (partL l (cnt n) x3) := ⟨_, rfl⟩
  have hgS : (recL s l)[x3]? = some S := by rw [List.getElem?_eq_getElem (by rw [hrl]; exact l3), recL_get, hln, hS]
  have hpl : (partL l (cnt n) x3).length ≤ 496 := by rw [partL_length]; omega
  have hpB : IsB (partL l (cnt n) x3) := partL_isB hB (by omega) (by omega)
  have hSl : S.length = 512 := by rw [hS]; exact sealed_length _ _ hpl
  have hSB : IsB S := by rw [hS]; exact sealed_isB (by decide) hpB
  have hp1 : parL (turned S [x0, x1, x2]) = true := by rw [parL_turned _ _ (by rw [hSl]; exact hin), hS, parL_sealed known113 hpB]; simp
  have hsec := sec_odd (turned_isB [x0, x1, x2] hSB) (by rw [turned_length, hSl]) hp1
  have hbad := readErr_bad (s := s) (L := turned S [x0, x1, x2]) hs.1 hn hln l3 (by rw [hsec]; decide)
  have hval : readVal s (n : Int) ((recL s l).set x3 (turned S [x0, x1, x2])) = [] := by unfold readVal; rw [hbad]; rfl
  have T1 := Lib.hid (fun (W : World) (g gb : Nat) (hg : W.heap[g]? = some (.cells (bys S).toArray 63 (0, 0))) (hb : Rd W (some ⟨gb, 0, none⟩) (ins [x0, x1, x2])) => turn_any (some ⟨g, 0, none⟩) 512 512 S (some ⟨gb, 0, none⟩) 3 3 [x0, x1, x2] W hSl rfl (by simp) (rd_block hg) hb hSB hin hbig (by decide) (by decide) (by decide))
  have C5 := Lib.hid (fun (A' : Option Addr) (c' : Nat) (vs : List Value) (w : World) (h : Rd w A' vs) (hL : RdL w vs ((recL s l).set x3 (turned S [x0, x1, x2]))) => read_any s (n : Int) A' (cnt n) c' vs ((recL s l).set x3 (turned S [x0, x1, x2])) w (hL.1.trans (by rw [List.length_set, hrl])) h hL)
  rw [hbad, hval] at C5
  simp only [readAt] at C5
  have HM := Lib.hid (recL_mem (s := s) hB hn')
  have HGS := Lib.hid hgS
  have HTB := Lib.hid (turned_isB [x0, x1, x2] hSB)
  have HTL : Hid ((turned S [x0, x1, x2]).length = 512) := Lib.hid ((turned_length _ _).trans hSl)
  have HRL := Lib.hid hrl
  clear hln hA hrl hs hin hbig hpl hpB hSl hSB hp1 hsec hbad hval hgS hS
  obtain ⟨k, hk⟩ : ∃ k, k = cnt n := ⟨_, rfl⟩
  rw [← hk] at hcp C1 C5 d3 l3 vk HRL
  clear hk
  have hk0 : (k : Int) ≠ 0 := by omega
  go_enter Try.func7, Try.ntmps7
  go_wp2_with fail
  refine C1.out.mono ?_
  rintro e w2 ⟨v2, gs, rfl, hown2, hS2, hb2⟩
  obtain ⟨go, c2, rfl, hgo, hc2⟩ := own_addr hown2 (by omega)
  have HO2 := Lib.hid hown2
  have HS2 := Lib.hid hS2
  have HB2 := Lib.hid hb2
  clear hown2 hS2 hb2
  go_wp2_with fail
  refine (C3.out _).mono ?_
  rintro e w4 ⟨rfl, hb4⟩
  have HO4 := Lib.hid (own_kept HO2.out hb4)
  have HS4 := Lib.hid (HS2.out.kept hb4)
  have HB4 := Lib.hid (HB2.out.trans (hb4.mono HB2.out.size))
  clear hb4 HO2 HS2 HB2
  go_wp2_with fail
  go_still_tail 18, (by kernel_rfl)
  change wpList _ _ _ _ _ w4.drew
  go_wp2_with fail
  have hblk := heap_alloc_new w4 (.cells #[.int .i64 x0, .int .i64 x1, .int .i64 x2] 3)
  have kc0 : (w4.alloc (.cells #[.int .i64 x0, .int .i64 x1, .int .i64 x2] 3)).drew.cell? ⟨w4.heap.size, 0, none⟩ = some (.int .i64 x0) := block_cell (L := [.int .i64 x0, .int .i64 x1, .int .i64 x2]) hblk 0
  have kc1 : (w4.alloc (.cells #[.int .i64 x0, .int .i64 x1, .int .i64 x2] 3)).drew.cell? ⟨w4.heap.size, 1, none⟩ = some (.int .i64 x1) := block_cell (L := [.int .i64 x0, .int .i64 x1, .int .i64 x2]) hblk 1
  have kc2 : (w4.alloc (.cells #[.int .i64 x0, .int .i64 x1, .int .i64 x2] 3)).drew.cell? ⟨w4.heap.size, 2, none⟩ = some (.int .i64 x2) := block_cell (L := [.int .i64 x0, .int .i64 x1, .int .i64 x2]) hblk 2
  clear hblk
  go_quiet (fail)
  obtain ⟨W, hW⟩ : ∃ W, W = (w4.alloc (.cells #[.int .i64 x0, .int .i64 x1, .int .i64 x2] 3)).drew.drewN nq := ⟨_, rfl⟩
  have hbW : Below w4.heap.size w4 W := by rw [hW]; exact (((Below.refl _ w4).alloc (Nat.le_refl _) _).trans (below_drewN _ 1)).trans (below_drewN _ _)
  have RB : Hid (Rd W (some ⟨w4.heap.size, 0, none⟩) (ins [x0, x1, x2])) := by rw [hW]; exact Lib.hid ((rd_block (L := [.int .i64 x0, .int .i64 x1, .int .i64 x2]) (heap_alloc_new w4 _)).take 3)
  have HB3 := Lib.hid (HB4.out.trans (hbW.mono HB4.out.size))
  have HO3 := Lib.hid (own_kept HO4.out hbW)
  have HS3 := Lib.hid (HS4.out.kept hbW)
  clear kc0 kc1 kc2 hbW
  rw [← hW]
  clear hW
  have hgl : gs.length = k := by rw [HS3.out.len, HRL.out]
  have hjg : x3 < gs.length := by omega
  have hcell := HO3.out.cellAt x3 (by omega)
  rw [List.getElem?_map, List.getElem?_eq_getElem hjg] at hcell
  simp only [Option.map_some, secV] at hcell
  have hat := HS3.out.at_ x3 gs[x3] S (List.getElem?_eq_getElem hjg) HGS.out
  have hfree := HO3.out.frozenAt x3
  have b1 : (0 : Int) ≤ (x3 : Int) ∧ (x3 : Int) < (k : Int) := by omega
  have HAT := Lib.hid hat.2
  clear hat
  generalize gs[x3] = g at *
  go_wp2_with fail
  refine (T1.out _ g w4.heap.size HAT.out RB.out).mono ?_
  rintro e w5 ⟨v5, rfl, hown5, hb5⟩
  obtain ⟨A5, c5, rfl, hnc5⟩ := own_sh hown5
  have HO5 := Lib.hid hown5
  have hgoW : go < W.heap.size := (own_base' HO3.out _ rfl).2
  have hc5' := (hb5.cell (p := ⟨go, x3, none⟩) hgoW).trans hcell
  have hf5 := (hb5.frozen (p := ⟨go, x3, none⟩) hgoW).trans hfree
  have HOo := Lib.hid (own_kept HO3.out hb5)
  have HSo := Lib.hid (HS3.out.kept hb5)
  have HB5 := Lib.hid (HB3.out.trans (hb5.mono HB3.out.size))
  clear hown5 hb5 hcell hfree
  have hw : w.heap.size ≤ go := hgo
  have HBs := Lib.hid (HB5.out.setCell (p := ⟨go, x3, none⟩) hw (.slice A5 512 c5))
  have RO : Hid (Rd (w5.setCell ⟨go, x3, none⟩ (.slice A5 512 c5)) (some ⟨go, 0, none⟩) ((gs.map secV).set x3 (.slice A5 512 c5))) := by
    obtain ⟨A', c', he, _, _, hrd, _⟩ := own_rd HOo.out
    obtain ⟨rfl, rfl⟩ : some ⟨go, 0, none⟩ = A' ∧ c2 = c' := by simpa using he
    have := hrd.setCell x3 (.slice A5 512 c5)
    rw [Nat.zero_add] at this
    exact Lib.hid this
  have RL : Hid (RdL (w5.setCell ⟨go, x3, none⟩ (.slice A5 512 c5)) ((gs.map secV).set x3 (.slice A5 512 c5)) ((recL s l).set x3 (turned S [x0, x1, x2]))) := by
    have h1 : Secs w.heap.size (w5.setCell ⟨go, x3, none⟩ (.slice A5 512 c5)) gs (recL s l) := HSo.out.mv (fun g hg => Below.heap_setCell _ _ _ _ (fun e => secs_not_own HSo.out HOo.out g hg (by first | (simp [Value.ownBlock, e]; done) | (simp [Value.ownBlock, ← e]; done))))
    have h2 := ownsRow_setCell_below HO5.out (a := ⟨go, x3, none⟩) hgoW (.slice A5 512 c5)
    obtain ⟨A', c', he, hnc, _, hrd, _⟩ := own_rd h2
    obtain ⟨rfl, rfl⟩ : A5 = A' ∧ c5 = c' := by simpa using he
    exact Lib.hid ((h1.rdl HM.out).set x3 HTL.out (fun e => by
      subst e
      rcases h2.2 with ⟨h, h0⟩ | ⟨g', cap, cur, h1, _⟩
      · omega
      · simp at h1) hnc hrd HTB.out)
  clear HO5 HOo HSo
  go_wp2_with fail
  refine (C5.out _ c2 _ _ RO.out RL.out).mono ?_
  rintro e w7 ⟨⟨v7, rfl, hown7⟩, hb7⟩
  obtain ⟨A7, c7, rfl, hc7⟩ := own_sh hown7
  have HB7 := Lib.hid (HBs.out.trans (hb7.mono HBs.out.size))
  clear hown7 hb7
  go_wp2
  go_ret
  exact ⟨rfl, HB7.out⟩

theorem turned_walk (s : Int) (A : Option Addr) (n c : Nat) (z : List Int) (o i j q : Int) (w : World) (w0 : (Lit.int .u64 s).wf = true) (w1 : IsRow .u8 w A n c z) (_ : (Lit.int .i64 o).wf = true) (_ : (Lit.int .i64 i).wf = true) (_ : (Lit.int .i64 j).wf = true) (_ : (Lit.int .i64 q).wf = true) :
    Calls Try.prog 7 #[.int .u64 s, .slice A n c, .int .i64 o, .int .i64 i, .int .i64 j, .int .i64 q] w fun e w' => e = .returned (.bool true) ∧ Below w.heap.size w w' := by
  obtain ⟨l, hn, hl, bl, _, hA, hnc⟩ := row_rd w1
  have hs := wf_u64b w0
  by_cases h0 : s = 0
  · subst h0
    exact turned_err 0 A n c o i j q 1 w rfl (fun w => write_arg A n c w)
  · by_cases h1 : 4096 < n
    · exact turned_err s A n c o i j q 4 w rfl (fun w => write_large s A n c w h0 h1)
    · obtain ⟨p0, f0, g0⟩ := u64_nat i
      obtain ⟨p1, f1, g1⟩ := u64_nat j
      obtain ⟨p2, f2, g2⟩ := u64_nat q
      obtain ⟨p3, f3, g3⟩ := u64_nat o
      obtain ⟨x0, d0, l0⟩ := mod4096 p0
      obtain ⟨x1, d1, l1⟩ := mod4096 p1
      obtain ⟨x2, d2, l2⟩ := mod4096 p2
      obtain ⟨x3, d3, l3⟩ := modN p3 (cnt n) (cnt_pos (n := n) (by omega)).1
      by_cases e01 : x0 = x1
      · exact turned_a s A n c l o i j q w (by omega) hn hA hl bl hnc (by omega) p0 p1 p2 p3 x0 x1 x2 x3 f0 f1 f2 f3 g0 g1 g2 g3 d0 d1 d2 d3 l0 l1 l2 l3 e01
      by_cases e12 : x1 = x2
      · exact turned_b s A n c l o i j q w (by omega) hn hA hl bl hnc (by omega) p0 p1 p2 p3 x0 x1 x2 x3 f0 f1 f2 f3 g0 g1 g2 g3 d0 d1 d2 d3 l0 l1 l2 l3 e01 e12
      by_cases e02 : x0 = x2
      · exact turned_c s A n c l o i j q w (by omega) hn hA hl bl hnc (by omega) p0 p1 p2 p3 x0 x1 x2 x3 f0 f1 f2 f3 g0 g1 g2 g3 d0 d1 d2 d3 l0 l1 l2 l3 e01 e12 e02
      · exact turned_d s A n c l o i j q w (by omega) hn hA hl bl hnc (by omega) p0 p1 p2 p3 x0 x1 x2 x3 f0 f1 f2 f3 g0 g1 g2 g3 d0 d1 d2 d3 l0 l1 l2 l3 e01 e12 e02
end Go.Proofs.Ytdgciajdnmgcnaa
