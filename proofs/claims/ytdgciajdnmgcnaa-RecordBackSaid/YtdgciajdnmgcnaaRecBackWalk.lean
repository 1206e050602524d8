/- The walk of RecordBack: whatever is handed in, it answers true and writes nothing that was there. -/
import Derived.Test.YtdgciajdnmgcnaaRecRead
import Derived.Test.YtdgciajdnmgcnaaRecCom
namespace Go.Proofs.Ytdgciajdnmgcnaa
open Go.RowKit
set_option linter.unusedVariables false

set_option maxRecDepth 100000 in
set_option maxHeartbeats 4000000 in
theorem back_err (s : Int) (A : Option Addr) (n c : Nat) (o m er : Int) (w : World) (he : (er != 0) = true)
    (E1 : ∀ (w : World), Calls Try.prog 10 #[.int .u64 s, .slice A n c] w fun e w' => e = .returned (.tuple #[.slice none 0 0, .int .i64 er]) ∧ w = w') :
    Calls Try.prog 6 #[.int .u64 s, .slice A n c, .int .u64 o, .int .i64 m] w fun e w' => e = .returned (.bool true) ∧ Below w.heap.size w w' := by
  have C1 := Lib.hid E1
  have C3 := Lib.hid (fun w => awake_any w)
  clear E1
  go_enter Try.func6, Try.ntmps6
  go_wp2_with fail
  refine (C1.out _).mono ?_
  rintro e w2 ⟨rfl, rfl⟩
  go_wp2_with fail
  refine (C3.out _).mono ?_
  rintro e w3 ⟨rfl, hb2⟩
  go_wp2_with fail
  refine (C3.out _).mono ?_
  rintro e w4 ⟨rfl, hb3⟩
  go_wp2
  go_ret
  exact ⟨rfl, hb2.trans (hb3.mono hb2.size)⟩

set_option maxRecDepth 100000 in
set_option maxHeartbeats 4000000 in
theorem back_same (s : Int) (A : Option Addr) (n c : Nat) (l : List Int) (o m : Int) (w : World) (hs : 0 < s ∧ s < 18446744073709551616)
    (hln : l.length = n) (hA : A = none → n = 0 ∧ c = 0) (hl : Rd w A (bys l)) (hB : IsB l) (hc : n ≤ c) (hn : n ≤ 4096) (h1 : o = s) (h2 : m = (n : Int)) :
    Calls Try.prog 6 #[.int .u64 s, .slice A n c, .int .u64 o, .int .i64 m] w fun e w' => e = .returned (.bool true) ∧ Below w.heap.size w w' := by
  have C1 := Lib.hid (write_ok s A n c l w hs hln hn hc hA hl hB)
  have C3 := Lib.hid (fun w => awake_any w)
  have C4 := Lib.hid (fun w => count_any (n : Int) w)
  rw [cntI_nat] at C4
  have hcp := cnt_pos hn
  have hrl : (recL s l).length = cnt n := by rw [recL_length, hln]
  have hn' : l.length ≤ 4096 := by omega
  have hr0 : readErr s (n : Int) (recL s l) = 0 := (readErr_rec hs hB hn').2 ⟨rfl, by omega⟩
  have hv0 : readVal s (n : Int) (recL s l) = l := by unfold readVal; rw [if_pos hr0, recL_length, datas_full hs hB hn']
  have hiff := readErr_rec (o := o) (m := m) hs hB hn'
  have q1 : (o == s) = true := by simpa using h1
  have q2 : (m == (n : Int)) = true := by simpa using h2
  have q3 : (readErr o m (recL s l) == 0) = true := by rw [beq_iff_eq]; exact hiff.2 ⟨h1, by omega⟩
  clear h1 h2
  have C2 := Lib.hid (fun (A' : Option Addr) (c' : Nat) (vs : List Value) (w : World) (h : Rd w A' vs) (hL : RdL w vs (recL s l)) => read_any s (n : Int) A' (cnt n) c' vs (recL s l) w (hL.1.trans hrl) h hL)
  rw [hr0, hv0] at C2
  simp only [readAt, hln] at C2
  have C5 := Lib.hid (fun (A' : Option Addr) (c' : Nat) (vs : List Value) (w : World) (h : Rd w A' vs) (hL : RdL w vs (recL s l)) => read_any o m A' (cnt n) c' vs (recL s l) w (hL.1.trans hrl) h hL)
  have C6 := Lib.hid (fun (w4 : World) (A' : Option Addr) (c' : Nat) (h1 : Rd w4 A' (bys l)) (h2 : Rd w4 A (bys l)) => bytes_any A' n c' l A n c l w4 hln hln h1 h2 hB hB)
  have HM := Lib.hid (recL_mem (s := s) hB hn')
  have HN := Lib.hid hln
  clear hln hA hrl hr0 hv0 hs hiff
  generalize readErr o m (recL s l) = er at *
  generalize readVal o m (recL s l) = va at *
  obtain ⟨k, hk⟩ : ∃ k, k = cnt n := ⟨_, rfl⟩
  rw [← hk] at hcp C1 C2 C4 C5
  clear hk
  have hkk : ((k : Int) != (k : Int)) = false := by simp
  go_enter Try.func6, Try.ntmps6
  go_wp2_with fail
  refine C1.out.mono ?_
  rintro e w2 ⟨v2, gs, rfl, hown2, hS2, hb2⟩
  obtain ⟨A2, c2, rfl, hc2⟩ := own_sh hown2
  have HO2 := Lib.hid hown2
  have HS2 := Lib.hid hS2
  have HB2 := Lib.hid hb2
  clear hown2 hS2 hb2 hc2
  go_wp2_with fail
  refine (C3.out _).mono ?_
  rintro e w4 ⟨rfl, hb4⟩
  have HO4 := Lib.hid (own_kept HO2.out hb4)
  have HS4 := Lib.hid (HS2.out.kept hb4)
  have HB4 := Lib.hid (HB2.out.trans (hb4.mono HB2.out.size))
  clear hb4 HO2 HS2 HB2
  have R2 : Hid (Rd w4 A2 (gs.map secV)) := by
    obtain ⟨A', c', he, _, _, hrd, _⟩ := own_rd HO4.out
    obtain ⟨rfl, rfl⟩ : A2 = A' ∧ c2 = c' := by simpa using he
    exact hrd
  have L2 := Lib.hid (HS4.out.rdl HM.out)
  go_wp2_with fail
  refine (C2.out A2 c2 _ _ R2.out L2.out).mono ?_
  rintro e w5 ⟨⟨v5, rfl, hown5⟩, hb5⟩
  obtain ⟨A5, c5, rfl, hc5, _, hrd5, _⟩ := own_rd hown5
  have HR5 := Lib.hid hrd5
  have R5 := Lib.hid (R2.out.kept hb5)
  have L5 := Lib.hid (L2.out.kept hb5)
  have HB5 := Lib.hid (HB4.out.trans (hb5.mono HB4.out.size))
  clear hown5 hrd5 hb5
  go_wp2_with fail
  refine (C6.out _ A5 c5 HR5.out (hl.kept HB5.out)).mono ?_
  rintro e w6 ⟨rfl, rfl⟩
  rw [show decide True = true from rfl]
  go_wp2_with fail
  refine (C4.out _).mono ?_
  rintro e w6 ⟨rfl, rfl⟩
  go_wp2_with fail
  refine (C5.out A2 c2 _ _ R5.out L5.out).mono ?_
  rintro e w7 ⟨⟨v7, rfl, hown7⟩, hb7⟩
  obtain ⟨A7, c7, rfl, hc7⟩ := own_sh hown7
  have HB7 := Lib.hid (HB5.out.trans (hb7.mono HB5.out.size))
  clear hown7 hb7
  go_wp2
  go_ret
  exact ⟨rfl, HB7.out⟩

set_option maxRecDepth 100000 in
set_option maxHeartbeats 4000000 in
theorem back_len (s : Int) (A : Option Addr) (n c : Nat) (l : List Int) (o m : Int) (w : World) (hs : 0 < s ∧ s < 18446744073709551616)
    (hln : l.length = n) (hA : A = none → n = 0 ∧ c = 0) (hl : Rd w A (bys l)) (hB : IsB l) (hc : n ≤ c) (hn : n ≤ 4096) (h1 : o = s) (h2 : m ≠ (n : Int)) :
    Calls Try.prog 6 #[.int .u64 s, .slice A n c, .int .u64 o, .int .i64 m] w fun e w' => e = .returned (.bool true) ∧ Below w.heap.size w w' := by
  have C1 := Lib.hid (write_ok s A n c l w hs hln hn hc hA hl hB)
  have C3 := Lib.hid (fun w => awake_any w)
  have C4 := Lib.hid (fun w => count_any (n : Int) w)
  rw [cntI_nat] at C4
  have hcp := cnt_pos hn
  have hrl : (recL s l).length = cnt n := by rw [recL_length, hln]
  have hn' : l.length ≤ 4096 := by omega
  have hr0 : readErr s (n : Int) (recL s l) = 0 := (readErr_rec hs hB hn').2 ⟨rfl, by omega⟩
  have hv0 : readVal s (n : Int) (recL s l) = l := by unfold readVal; rw [if_pos hr0, recL_length, datas_full hs hB hn']
  have hiff := readErr_rec (o := o) (m := m) hs hB hn'
  have q1 : (o == s) = true := by simpa using h1
  have q2 : (m == (n : Int)) = false := by simpa using h2
  have q3 : (readErr o m (recL s l) == 0) = false := by rw [beq_eq_false_iff_ne]; intro e; have := (hiff.1 e).2; omega
  clear h1 h2
  have C2 := Lib.hid (fun (A' : Option Addr) (c' : Nat) (vs : List Value) (w : World) (h : Rd w A' vs) (hL : RdL w vs (recL s l)) => read_any s (n : Int) A' (cnt n) c' vs (recL s l) w (hL.1.trans hrl) h hL)
  rw [hr0, hv0] at C2
  simp only [readAt, hln] at C2
  have C5 := Lib.hid (fun (A' : Option Addr) (c' : Nat) (vs : List Value) (w : World) (h : Rd w A' vs) (hL : RdL w vs (recL s l)) => read_any o m A' (cnt n) c' vs (recL s l) w (hL.1.trans hrl) h hL)
  have C6 := Lib.hid (fun (w4 : World) (A' : Option Addr) (c' : Nat) (h1 : Rd w4 A' (bys l)) (h2 : Rd w4 A (bys l)) => bytes_any A' n c' l A n c l w4 hln hln h1 h2 hB hB)
  have HM := Lib.hid (recL_mem (s := s) hB hn')
  have HN := Lib.hid hln
  clear hln hA hrl hr0 hv0 hs hiff
  generalize readErr o m (recL s l) = er at *
  generalize readVal o m (recL s l) = va at *
  obtain ⟨k, hk⟩ : ∃ k, k = cnt n := ⟨_, rfl⟩
  rw [← hk] at hcp C1 C2 C4 C5
  clear hk
  have hkk : ((k : Int) != (k : Int)) = false := by simp
  go_enter Try.func6, Try.ntmps6
  go_wp2_with fail
  refine C1.out.mono ?_
  rintro e w2 ⟨v2, gs, rfl, hown2, hS2, hb2⟩
  obtain ⟨A2, c2, rfl, hc2⟩ := own_sh hown2
  have HO2 := Lib.hid hown2
  have HS2 := Lib.hid hS2
  have HB2 := Lib.hid hb2
  clear hown2 hS2 hb2 hc2
  go_wp2_with fail
  refine (C3.out _).mono ?_
  rintro e w4 ⟨rfl, hb4⟩
  have HO4 := Lib.hid (own_kept HO2.out hb4)
  have HS4 := Lib.hid (HS2.out.kept hb4)
  have HB4 := Lib.hid (HB2.out.trans (hb4.mono HB2.out.size))
  clear hb4 HO2 HS2 HB2
  have R2 : Hid (Rd w4 A2 (gs.map secV)) := by
    obtain ⟨A', c', he, _, _, hrd, _⟩ := own_rd HO4.out
    obtain ⟨rfl, rfl⟩ : A2 = A' ∧ c2 = c' := by simpa using he
    exact hrd
  have L2 := Lib.hid (HS4.out.rdl HM.out)
  go_wp2_with fail
  refine (C2.out A2 c2 _ _ R2.out L2.out).mono ?_
  rintro e w5 ⟨⟨v5, rfl, hown5⟩, hb5⟩
  obtain ⟨A5, c5, rfl, hc5, _, hrd5, _⟩ := own_rd hown5
  have HR5 := Lib.hid hrd5
  have R5 := Lib.hid (R2.out.kept hb5)
  have L5 := Lib.hid (L2.out.kept hb5)
  have HB5 := Lib.hid (HB4.out.trans (hb5.mono HB4.out.size))
  clear hown5 hrd5 hb5
  go_wp2_with fail
  refine (C6.out _ A5 c5 HR5.out (hl.kept HB5.out)).mono ?_
  rintro e w6 ⟨rfl, rfl⟩
  rw [show decide True = true from rfl]
  go_wp2_with fail
  refine (C4.out _).mono ?_
  rintro e w6 ⟨rfl, rfl⟩
  go_wp2_with fail
  refine (C5.out A2 c2 _ _ R5.out L5.out).mono ?_
  rintro e w7 ⟨⟨v7, rfl, hown7⟩, hb7⟩
  obtain ⟨A7, c7, rfl, hc7⟩ := own_sh hown7
  have HB7 := Lib.hid (HB5.out.trans (hb7.mono HB5.out.size))
  clear hown7 hb7
  go_wp2
  go_ret
  exact ⟨rfl, HB7.out⟩

set_option maxRecDepth 100000 in
set_option maxHeartbeats 4000000 in
theorem back_other (s : Int) (A : Option Addr) (n c : Nat) (l : List Int) (o m : Int) (w : World) (hs : 0 < s ∧ s < 18446744073709551616)
    (hln : l.length = n) (hA : A = none → n = 0 ∧ c = 0) (hl : Rd w A (bys l)) (hB : IsB l) (hc : n ≤ c) (hn : n ≤ 4096) (h1 : o ≠ s) :
    Calls Try.prog 6 #[.int .u64 s, .slice A n c, .int .u64 o, .int .i64 m] w fun e w' => e = .returned (.bool true) ∧ Below w.heap.size w w' := by
  have C1 := Lib.hid (write_ok s A n c l w hs hln hn hc hA hl hB)
  have C3 := Lib.hid (fun w => awake_any w)
  have C4 := Lib.hid (fun w => count_any (n : Int) w)
  rw [cntI_nat] at C4
  have hcp := cnt_pos hn
  have hrl : (recL s l).length = cnt n := by rw [recL_length, hln]
  have hn' : l.length ≤ 4096 := by omega
  have hr0 : readErr s (n : Int) (recL s l) = 0 := (readErr_rec hs hB hn').2 ⟨rfl, by omega⟩
  have hv0 : readVal s (n : Int) (recL s l) = l := by unfold readVal; rw [if_pos hr0, recL_length, datas_full hs hB hn']
  have hiff := readErr_rec (o := o) (m := m) hs hB hn'
  have q1 : (o == s) = false := by simpa using h1
  have q3 : (readErr o m (recL s l) == 0) = false := by rw [beq_eq_false_iff_ne]; intro e; exact h1 (hiff.1 e).1
  clear h1
  have C2 := Lib.hid (fun (A' : Option Addr) (c' : Nat) (vs : List Value) (w : World) (h : Rd w A' vs) (hL : RdL w vs (recL s l)) => read_any s (n : Int) A' (cnt n) c' vs (recL s l) w (hL.1.trans hrl) h hL)
  rw [hr0, hv0] at C2
  simp only [readAt, hln] at C2
  have C5 := Lib.hid (fun (A' : Option Addr) (c' : Nat) (vs : List Value) (w : World) (h : Rd w A' vs) (hL : RdL w vs (recL s l)) => read_any o m A' (cnt n) c' vs (recL s l) w (hL.1.trans hrl) h hL)
  have C6 := Lib.hid (fun (w4 : World) (A' : Option Addr) (c' : Nat) (h1 : Rd w4 A' (bys l)) (h2 : Rd w4 A (bys l)) => bytes_any A' n c' l A n c l w4 hln hln h1 h2 hB hB)
  have HM := Lib.hid (recL_mem (s := s) hB hn')
  have HN := Lib.hid hln
  clear hln hA hrl hr0 hv0 hs hiff
  generalize readErr o m (recL s l) = er at *
  generalize readVal o m (recL s l) = va at *
  obtain ⟨k, hk⟩ : ∃ k, k = cnt n := ⟨_, rfl⟩
  rw [← hk] at hcp C1 C2 C4 C5
  clear hk
  have hkk : ((k : Int) != (k : Int)) = false := by simp
  go_enter Try.func6, Try.ntmps6
  go_wp2_with fail
  refine C1.out.mono ?_
  rintro e w2 ⟨v2, gs, rfl, hown2, hS2, hb2⟩
  obtain ⟨A2, c2, rfl, hc2⟩ := own_sh hown2
  have HO2 := Lib.hid hown2
  have HS2 := Lib.hid hS2
  have HB2 := Lib.hid hb2
  clear hown2 hS2 hb2 hc2
  go_wp2_with fail
  refine (C3.out _).mono ?_
  rintro e w4 ⟨rfl, hb4⟩
  have HO4 := Lib.hid (own_kept HO2.out hb4)
  have HS4 := Lib.hid (HS2.out.kept hb4)
  have HB4 := Lib.hid (HB2.out.trans (hb4.mono HB2.out.size))
  clear hb4 HO2 HS2 HB2
  have R2 : Hid (Rd w4 A2 (gs.map secV)) := by
    obtain ⟨A', c', he, _, _, hrd, _⟩ := own_rd HO4.out
    obtain ⟨rfl, rfl⟩ : A2 = A' ∧ c2 = c' := by simpa using he
    exact hrd
  have L2 := Lib.hid (HS4.out.rdl HM.out)
  go_wp2_with fail
  refine (C2.out A2 c2 _ _ R2.out L2.out).mono ?_
  rintro e w5 ⟨⟨v5, rfl, hown5⟩, hb5⟩
  obtain ⟨A5, c5, rfl, hc5, _, hrd5, _⟩ := own_rd hown5
  have HR5 := Lib.hid hrd5
  have R5 := Lib.hid (R2.out.kept hb5)
  have L5 := Lib.hid (L2.out.kept hb5)
  have HB5 := Lib.hid (HB4.out.trans (hb5.mono HB4.out.size))
  clear hown5 hrd5 hb5
  go_wp2_with fail
  refine (C6.out _ A5 c5 HR5.out (hl.kept HB5.out)).mono ?_
  rintro e w6 ⟨rfl, rfl⟩
  rw [show decide True = true from rfl]
  go_wp2_with fail
  refine (C4.out _).mono ?_
  rintro e w6 ⟨rfl, rfl⟩
  go_wp2_with fail
  refine (C5.out A2 c2 _ _ R5.out L5.out).mono ?_
  rintro e w7 ⟨⟨v7, rfl, hown7⟩, hb7⟩
  obtain ⟨A7, c7, rfl, hc7⟩ := own_sh hown7
  have HB7 := Lib.hid (HB5.out.trans (hb7.mono HB5.out.size))
  clear hown7 hb7
  go_wp2
  go_ret
  exact ⟨rfl, HB7.out⟩

theorem back_walk (s : Int) (A : Option Addr) (n c : Nat) (z : List Int) (o m : Int) (w : World) (w0 : (Lit.int .u64 s).wf = true) (w1 : IsRow .u8 w A n c z) (w2 : (Lit.int .u64 o).wf = true) (w3 : (Lit.int .i64 m).wf = true) :
    Calls Try.prog 6 #[.int .u64 s, .slice A n c, .int .u64 o, .int .i64 m] w fun e w' => e = .returned (.bool true) ∧ Below w.heap.size w w' := by
  obtain ⟨l, hn, hl, bl, _, hA, hnc⟩ := row_rd w1
  have hs := wf_u64b w0
  by_cases h0 : s = 0
  · subst h0
    exact back_err 0 A n c o m 1 w rfl (fun w => write_arg A n c w)
  · by_cases h1 : 4096 < n
    · exact back_err s A n c o m 4 w rfl (fun w => write_large s A n c w h0 h1)
    · by_cases h2 : o = s
      · by_cases h3 : m = (n : Int)
        · exact back_same s A n c l o m w (by omega) hn hA hl bl hnc (by omega) h2 h3
        · exact back_len s A n c l o m w (by omega) hn hA hl bl hnc (by omega) h2 h3
      · exact back_other s A n c l o m w (by omega) hn hA hl bl hnc (by omega) h2
end Go.Proofs.Ytdgciajdnmgcnaa
