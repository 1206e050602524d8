/- The walk of RecordMixed, one place twice: it answers true and writes nothing that was there. -/
import Derived.Test.YtdgciajdnmgcnaaRecMixHead
namespace Go.Proofs.Ytdgciajdnmgcnaa
open Go.RowKit
set_option linter.unusedVariables false

set_option maxRecDepth 100000 in
set_option maxHeartbeats 4000000 in
theorem mixed_mIQ (s : Int) (A : Option Addr) (n c : Nat) (l : List Int) (o : Int) (B : Option Addr) (m d : Nat) (l2 : List Int) (x y : Int) (w : World) (hs : 0 < s ∧ s < 18446744073709551616) (ho : 0 < o ∧ o < 18446744073709551616)
    (hln : l.length = n) (hA : A = none → n = 0 ∧ c = 0) (hl : Rd w A (bys l)) (hB : IsB l) (hc : n ≤ c) (hn : n ≤ 4096)
    (hlm : l2.length = m) (hBB : B = none → m = 0 ∧ d = 0) (hl2 : Rd w B (bys l2)) (hB2 : IsB l2) (hd : m ≤ d) (hm : m ≤ 4096)
    (p0 p1 x0 x1 : Nat) (f0 : IntKind.u64.wrap x = (p0 : Int)) (f1 : IntKind.u64.wrap y = (p1 : Int)) (g0 : p0 < 18446744073709551616) (g1 : p1 < 18446744073709551616)
    (d0 : (p0 : Int).tmod (cnt n : Int) = (x0 : Int)) (d1 : (p1 : Int).tmod (cnt n : Int) = (x1 : Int)) (l0 : x0 < cnt n) (l1 : x1 < cnt n) (Li Lk Mx : List Int) (hLi : (recL s l)[x0]? = some Li) (hLk : (recL s l)[x1]? = some Lk)
    (er er2 : Int) (va : List Int) (her : readErr s (n : Int) ((recL s l).set x0 Mx) = er) (hva : readVal s (n : Int) ((recL s l).set x0 Mx) = va) (her2 : readErr s (n : Int) (((recL s l).set x0 Lk).set x1 Li) = er2) (hi : x0 < cnt m) (hMx : (recL o l2)[x0]? = some Mx) (hL : Mx = Li) (hx : x1 = x0) (he2 : er2 = 0) :
    Calls Try.prog 8 #[.int .u64 s, .slice A n c, .int .u64 o, .slice B m d, .int .i64 x, .int .i64 y] w fun e w' => e = .returned (.bool true) ∧ Below w.heap.size w w' := by
  subst hx
  have HE2 := Lib.hid he2
  clear he2
  have C1 := Lib.hid (write_ok s A n c l w hs hln hn hc hA hl hB)
  have C2 := Lib.hid (fun (w1 : World) (h : Rd w1 B (bys l2)) => write_ok o B m d l2 w1 ho hlm hm hd hBB h hB2)
  have C3 := Lib.hid (fun w => awake_any w)
  have hcp := cnt_pos hn
  have hcm := cnt_pos hm
  have hrl : (recL s l).length = cnt n := by rw [recL_length, hln]
  have hrm : (recL o l2).length = cnt m := by rw [recL_length, hlm]
  have hn' : l.length ≤ 4096 := by omega
  have hm' : l2.length ≤ 4096 := by omega
  have v0 : IntKind.i64.wrap (x1 : Int) = (x1 : Int) := IntWalk.i64_in _ (by omega)
  have v1 : IntKind.i64.wrap (x1 : Int) = (x1 : Int) := IntWalk.i64_in _ (by omega)
  have vk : IntKind.u64.wrap (cnt n : Int) = (cnt n : Int) := u64w (by omega)
  have HM := recL_mem (s := s) hB hn'
  have HM2 := recL_mem (s := o) hB2 hm'
  have C4 := Lib.hid (fun (A' : Option Addr) (c' : Nat) (vs : List Value) (w : World) (h : Rd w A' vs) (hL : RdL w vs (recL s l)) => copylists_any A' (cnt n) c' vs (recL s l) w (hL.1.trans hrl) h hL (by omega) (fun L hL => by have := (HM L hL).1; omega))
  have C5 := Lib.hid (fun (A' : Option Addr) (c' : Nat) (vs : List Value) (w : World) (h : Rd w A' vs) (hL : RdL w vs ((recL s l).set x1 Mx)) => read_any s (n : Int) A' (cnt n) c' vs ((recL s l).set x1 Mx) w (hL.1.trans (by rw [List.length_set, hrl])) h hL)
  rw [her, hva] at C5
  simp only [readAt] at C5
  have C8 := Lib.hid (fun (A' : Option Addr) (c' : Nat) (vs : List Value) (w : World) (h : Rd w A' vs) (hL : RdL w vs (((recL s l).set x1 Lk).set x1 Li)) => read_any s (n : Int) A' (cnt n) c' vs (((recL s l).set x1 Lk).set x1 Li) w (hL.1.trans (by rw [List.length_set, List.length_set, hrl])) h hL)
  rw [her2] at C8
  simp only [readAt] at C8
  generalize readVal s (n : Int) (((recL s l).set x1 Lk).set x1 Li) = va2 at C8
  have HVB : Hid (IsB va) := by
    rw [← hva]; refine Lib.hid (isB_readVal (fun x hx => ?_))
    rcases mem_set_or hx with h | rfl
    · exact (HM x h).2
    · exact (HM2 _ (List.mem_of_getElem? hMx)).2
  have HMIX := Lib.hid hMx
  have H_hL := Lib.hid hL
  clear hMx hL

  have HM := Lib.hid HM
  have HM2 := Lib.hid HM2
  have HLI := Lib.hid hLi
  have HLK := Lib.hid hLk
  have HRL := Lib.hid hrl
  have HRM := Lib.hid hrm
  have HLN := Lib.hid hln
  clear hln hA hrl hrm hs ho hlm hBB hLi hLk her hva her2
  obtain ⟨k, hk⟩ : ∃ k, k = cnt n := ⟨_, rfl⟩
  rw [← hk] at hcp C1 C4 C5 C8 d0 d1 l0 l1 vk HRL
  obtain ⟨q, hq⟩ : ∃ q, q = cnt m := ⟨_, rfl⟩
  rw [← hq] at hcm C2 HRM hi
  clear hk hq
  have hk0 : (k : Int) ≠ 0 := by omega
  go_enter Try.func8, Try.ntmps8
  go_wp2_with fail
  refine C1.out.mono ?_
  rintro e w2 ⟨v2, gs, rfl, hown2, hS2, hb2⟩
  obtain ⟨go, c2, rfl, hgo, hc2⟩ := own_addr hown2 (by omega)
  have HO2 := Lib.hid hown2
  have HS2 := Lib.hid hS2
  have HB2 := Lib.hid hb2
  clear hown2 hS2 hb2
  go_wp2_with fail
  refine (C2.out _ (hl2.kept HB2.out)).mono ?_
  rintro e w3 ⟨v3, hs3, rfl, hown3, hS3, hb3⟩
  obtain ⟨gp, c3, rfl, hgp, hc3⟩ := own_addr hown3 (by omega)
  have HP3 := Lib.hid hown3
  have HT3 := Lib.hid hS3
  have HO3 := Lib.hid (own_kept HO2.out hb3)
  have HS3 := Lib.hid (HS2.out.kept hb3)
  have HB3 := Lib.hid (HB2.out.trans (hb3.mono HB2.out.size))
  have hw2 := HB2.out.size
  clear hown3 hS3 hb3 HO2 HS2 HB2
  go_wp2_with fail
  refine (C3.out _).mono ?_
  rintro e w4 ⟨rfl, hb4⟩
  have HP4 := Lib.hid (own_kept HP3.out hb4)
  have HT4 := Lib.hid (HT3.out.kept hb4)
  have HO4 := Lib.hid (own_kept HO3.out hb4)
  have HS4 := Lib.hid (HS3.out.kept hb4)
  have HB4 := Lib.hid (HB3.out.trans (hb4.mono HB3.out.size))
  clear hb4 HO3 HS3 HB3 HP3 HT3
  go_wp2_with fail
  go_quiet (fail)
  obtain ⟨W, hW⟩ : ∃ W, W = w4.drewN nq := ⟨_, rfl⟩
  have hbW : Below w4.heap.size w4 W := by rw [hW]; exact below_drewN _ _
  have HPW := Lib.hid (own_kept HP4.out hbW)
  have HTW := Lib.hid (HT4.out.kept hbW)
  have HOW := Lib.hid (own_kept HO4.out hbW)
  have HSW := Lib.hid (HS4.out.kept hbW)
  have HBW := Lib.hid (HB4.out.trans (hbW.mono HB4.out.size))
  rw [← hW]
  clear hbW hW HP4 HT4 HO4 HS4 HB4
  have RW : Hid (Rd W (some ⟨go, 0, none⟩) (gs.map secV)) := by
    obtain ⟨A', c', he, _, _, hrd, _⟩ := own_rd HOW.out
    obtain ⟨rfl, rfl⟩ : some ⟨go, 0, none⟩ = A' ∧ c2 = c' := by simpa using he
    exact Lib.hid hrd
  go_wp2_with fail
  refine (C4.out _ _ _ _ RW.out (HSW.out.rdl HM.out)).mono ?_
  rintro e w5 ⟨v5, us, rfl, hown5, hS5, hb5⟩
  obtain ⟨gm, c5, rfl, hgm, hc5⟩ := own_addr hown5 (by omega)
  have HQ5 := Lib.hid hown5
  have HU5 := Lib.hid hS5
  have HP5 := Lib.hid (own_kept HPW.out hb5)
  have HT5 := Lib.hid (HTW.out.kept hb5)
  have HO5 := Lib.hid (own_kept HOW.out hb5)
  have HS5 := Lib.hid (HSW.out.kept hb5)
  have HB5 := Lib.hid (HBW.out.trans (hb5.mono HBW.out.size))
  have hwW := HBW.out.size
  have hgoW : go < W.heap.size := (own_base' HOW.out _ rfl).2
  clear hown5 hS5 hb5 HPW HTW HOW HSW HBW RW
  have hjg : x1 < hs3.length := by rw [HT5.out.len, HRM.out]; exact hi
  have hP := HP5.out.cellAt x1 (by omega)
  rw [List.getElem?_map, List.getElem?_eq_getElem hjg] at hP
  simp only [Option.map_some, secV] at hP
  have hat := (HT5.out.at_ x1 hs3[x1] Mx (List.getElem?_eq_getElem hjg) HMIX.out).2
  have hul : us.length = k := by rw [HU5.out.1, HRL.out]
  have hQ := HQ5.out.cellAt x1 (by omega)
  rw [List.getElem?_eq_getElem (show x1 < us.length by omega)] at hQ
  have hF := HQ5.out.frozenAt x1
  have HAT := Lib.hid hat
  have hgo5 : go < gm := Nat.lt_of_lt_of_le hgoW hgm
  have b1 : (0 : Int) ≤ (x1 : Int) ∧ (x1 : Int) < (q : Int) := by omega
  have b2 : (x1 : Int) < (k : Int) := by omega
  have hx0q : (x1 : Int) < (q : Int) := by omega
  have HMX := Lib.hid (HM2.out Mx (List.mem_of_getElem? HMIX.out))
  clear hat
  generalize hs3[x1] = h at *
  generalize us[x1] = u0 at *
  obtain ⟨X, hX⟩ : ∃ X, X = w5.setCell ⟨gm, x1, none⟩ (.slice (some ⟨h, 0, none⟩) 512 512) := ⟨_, rfl⟩
  have HBX : Hid (Below w.heap.size w X) := by rw [hX]; exact Lib.hid (HB5.out.setCell (p := ⟨gm, x1, none⟩) (Nat.le_trans hwW hgm) _)
  have HOX : Hid (X.ownsRow w.heap.size 23 1 (.slice (some ⟨go, 0, none⟩) k c2) k (gs.map secV)) := by rw [hX]; exact Lib.hid (ownsRow_setCell_other HO5.out (a := ⟨gm, x1, none⟩) (by simp [Value.ownBlock]; omega) _)
  have HSX : Hid (Secs w.heap.size X gs (recL s l)) := by rw [hX]; exact Lib.hid (HS5.out.mv (fun g hg => Below.heap_setCell _ _ _ _ (fun e => secs_not_own HS5.out HQ5.out g hg (by first | (simp [Value.ownBlock, e]; done) | (simp [Value.ownBlock, ← e]; done)))))
  have HATX : Hid (X.heap[h]? = some (.cells (bys Mx).toArray 63 (0, 0))) := by
    rw [hX]
    refine Lib.hid ((Below.heap_setCell _ _ _ _ ?_).trans HAT.out)
    intro e
    have hh := HQ5.out.2
    rcases hh with ⟨e2, _⟩ | ⟨g', cap', cur', e2, _, h4, _⟩
    · simp at e2
    · simp at e2
      have h5 := HAT.out
      simp at e
      first
        | (rw [e, e2.1] at h5; rw [h4] at h5; simp at h5; done)
        | (rw [← e, e2.1] at h5; rw [h4] at h5; simp at h5; done)
  have HRX : Hid (Rd X (some ⟨gm, 0, none⟩) (us.set x1 (.slice (some ⟨h, 0, none⟩) 512 512))) := by
    obtain ⟨A', c', he, _, _, hrd, _⟩ := own_rd HQ5.out
    obtain ⟨rfl, rfl⟩ : some ⟨gm, 0, none⟩ = A' ∧ c5 = c' := by simpa using he
    have := hrd.setCell x1 (.slice (some ⟨h, 0, none⟩) 512 512)
    rw [Nat.zero_add] at this
    rw [hX]; exact Lib.hid this
  have HLX : Hid (RdL X (us.set x1 (.slice (some ⟨h, 0, none⟩) 512 512)) ((recL s l).set x1 Mx)) := by
    have h1 : Owns W.heap.size X us (recL s l) := by rw [hX]; exact own_not_owns HU5.out HQ5.out (go := gm) rfl _ rfl _
    exact Lib.hid ((h1.rdl (fun x hx => (HM.out x hx).2)).set x1 HMX.out.1 (fun e => by cases e) (Nat.le_refl _) (rd_block HATX.out) HMX.out.2)
  have hcm0 : X.cell? ⟨gm, x1, none⟩ = some (.slice (some ⟨h, 0, none⟩) 512 512) := by
    obtain ⟨b, o, e, h3⟩ := HRX.out x1 _ (show (us.set x1 (.slice (some ⟨h, 0, none⟩) 512 512))[x1]? = some (Value.slice (some ⟨h, 0, none⟩) 512 512) by rw [List.getElem?_set, if_pos rfl, if_pos (by omega)])
    simp at e; rw [← e.1, ← e.2, Nat.zero_add] at h3; exact h3
  have HRMX := Lib.hid (rd_block HATX.out)
  have hgX : gm < X.heap.size := by rw [hX]; simp [World.setCell]; exact (own_base' HQ5.out _ rfl).2
  have HCM0 := Lib.hid hcm0
  clear hcm0 HATX HAT
  go_wp2_with fail
  rw [← hX]
  clear hX hP hF
  clear hQ
  refine (C5.out _ c5 _ _ HRX.out HLX.out).mono ?_
  rintro e w7 ⟨⟨v7, rfl, hown7⟩, hb7⟩
  obtain ⟨A7, c7, rfl, hc7, _, hrd7, _⟩ := own_rd hown7
  have HR7 := Lib.hid hrd7
  have HO7 := Lib.hid (own_kept HOX.out hb7)
  have HS7 := Lib.hid (HSX.out.kept hb7)
  have HB7 := Lib.hid (HBX.out.trans (hb7.mono HBX.out.size))
  have hcm7 := (hb7.cell (p := ⟨gm, x1, none⟩) hgX).trans HCM0.out
  have HM7 := Lib.hid (HRMX.out.kept hb7)
  have hjgs : x1 < gs.length := by rw [HS7.out.len, HRL.out]; exact l0
  have hl7 := HO7.out.cellAt x1 (by omega)
  rw [List.getElem?_map, List.getElem?_eq_getElem hjgs] at hl7
  simp only [Option.map_some, secV] at hl7
  have HAT0 := Lib.hid (HS7.out.at_ x1 gs[x1] Li (List.getElem?_eq_getElem hjgs) HLI.out).2
  have HGA := Lib.hid (List.getElem?_eq_getElem hjgs)
  have HLB := Lib.hid (HM.out Li (List.mem_of_getElem? HLI.out))
  generalize gs[x1] = ga at *
  have B1 := fun (W' : World) (hb : Below w7.heap.size w7 W') => bytes_any (some ⟨h, 0, none⟩) 512 512 Mx (some ⟨ga, 0, none⟩) 512 512 Li W' HMX.out.1 HLB.out.1 (HM7.out.kept hb) ((rd_block HAT0.out).kept hb) HMX.out.2 HLB.out.2
  have B2 := fun (W' : World) (hb : Below w7.heap.size w7 W') => bytes_any A7 va.length c7 va A n c l W' rfl HLN.out (HR7.out.kept hb) ((hl.kept HB7.out).kept hb) HVB.out hB
  have hd1 : decide (Mx = Li) = true := by simpa using H_hL.out
  simp only [hd1] at B1
  clear hd1
  have CB1 := Lib.hid B1
  have CB2 := Lib.hid B2
  have b3 : (0 : Int) ≤ (x1 : Int) ∧ (x1 : Int) < (k : Int) := by omega
  clear B1 B2 hown7 hb7 hrd7 hjgs HRX HLX HOX HSX HBX hc7
  go_wp2_with fail
  go_quiet (first
    | (go_at_call 24; exact qsame (CB1.out _ (Below.refl _ _ |>.trans (below_drewN _ _))))
    | (go_at_call 24; exact qsame (CB2.out _ (Below.refl _ _ |>.trans (below_drewN _ _)))))
  generalize hW8 : w7.drewN _ = W8
  have hbW8 : Below w7.heap.size w7 W8 := by rw [← hW8]; exact below_drewN _ _
  have HO8 := Lib.hid (own_kept HO7.out hbW8)
  have HS8 := Lib.hid (HS7.out.kept hbW8)
  have HB8 := Lib.hid (HB7.out.trans (hbW8.mono HB7.out.size))
  clear hW8 hbW8 HO7 HS7 HB7 hcm7 hl7 CB1 CB2 HM7 HR7 HAT0
  have RW8 : Hid (Rd W8 (some ⟨go, 0, none⟩) (gs.map secV)) := by
    obtain ⟨A', c', hqe, _, _, hrd, _⟩ := own_rd HO8.out
    obtain ⟨rfl, rfl⟩ : some ⟨go, 0, none⟩ = A' ∧ c2 = c' := by simpa using hqe
    exact Lib.hid hrd
  go_wp2_with fail
  refine (C4.out _ _ _ _ RW8.out (HS8.out.rdl HM.out)).mono ?_
  rintro e w9 ⟨v9, us9, rfl, hown9, hS9, hb9⟩
  obtain ⟨gt, c9, rfl, hgt, hc9⟩ := own_addr hown9 (by omega)
  have HQ9 := Lib.hid hown9
  have HU9 := Lib.hid hS9
  have HO9 := Lib.hid (own_kept HO8.out hb9)
  have HS9 := Lib.hid (HS8.out.kept hb9)
  have HB9 := Lib.hid (HB8.out.trans (hb9.mono HB8.out.size))
  have hgo8 : go < W8.heap.size := (own_base' HO8.out _ rfl).2
  have hw8 := HB8.out.size
  have hgogt : go < gt := Nat.lt_of_lt_of_le hgo8 hgt
  have hul9 : us9.length = k := by rw [HU9.out.1, HRL.out]
  have hgl9 : gs.length = k := by rw [HS9.out.len, HRL.out]
  obtain ⟨gb, hgb⟩ : ∃ gb, gs[x1]? = some gb := ⟨_, List.getElem?_eq_getElem (by omega)⟩
  obtain rfl : ga = gb := by have hq := HGA.out.symm.trans hgb; simpa using hq
  obtain ⟨t0, ht0⟩ : ∃ t, us9[x1]? = some t := ⟨_, List.getElem?_eq_getElem (by omega)⟩
  obtain ⟨t1, ht1⟩ : ∃ t, us9[x1]? = some t := ⟨_, List.getElem?_eq_getElem (by omega)⟩
  have z0 := HO9.out.cellAt x1 (by omega)
  have z1 := HO9.out.cellAt x1 (by omega)
  rw [List.getElem?_map, HGA.out] at z0
  rw [List.getElem?_map, hgb] at z1
  simp only [Option.map_some, secV] at z0 z1
  have y0 := HQ9.out.cellAt x1 (by omega)
  have y1 := HQ9.out.cellAt x1 (by omega)
  rw [ht0] at y0
  rw [ht1] at y1
  have q0 := HQ9.out.frozenAt x1
  have q1 := HQ9.out.frozenAt x1
  have HGB := Lib.hid hgb
  have b4 : (0 : Int) ≤ (x1 : Int) ∧ (x1 : Int) < (k : Int) := by omega
  have HT := HU9.out.rdl (fun x hx => (HM.out x hx).2)
  clear hown9 hS9 hb9 RW8 HO8 HS8 HB8 hgb ht0 ht1
  have K := Lib.hid (fun (w' : World) (h : w'.heap[go]? = w9.heap[go]?) => (⟨(World.cell?_of_block (w := w9) (a := ⟨go, x1, none⟩) h).trans z0, (World.cell?_of_block (w := w9) (a := ⟨go, x1, none⟩) h).trans z1⟩ :
    w'.cell? ⟨go, x1, none⟩ = some (.slice (some ⟨ga, 0, none⟩) 512 512) ∧ w'.cell? ⟨go, x1, none⟩ = some (.slice (some ⟨ga, 0, none⟩) 512 512)))
  have hne : go ≠ gt := by omega
  go_wp2_with fail
  go_region_held3 (fun w' => w'.cell? ⟨go, x1, none⟩ = some (.slice (some ⟨ga, 0, none⟩) 512 512) ∧ w'.cell? ⟨go, x1, none⟩ = some (.slice (some ⟨ga, 0, none⟩) 512 512))
    (first
      | exact K.out _ rfl
      | exact K.out _ (Below.heap_setCell _ _ _ _ hne)
      | exact K.out _ ((Below.heap_setCell _ _ _ _ hne).trans (Below.heap_setCell _ _ _ _ hne))
      | exact K.out _ (Below.heap_setCell _ _ _ _ hne.symm)
      | exact K.out _ ((Below.heap_setCell _ _ _ _ hne.symm).trans (Below.heap_setCell _ _ _ _ hne.symm)))
    ((fail))
  go_wp2_with fail
  obtain ⟨Y, hY⟩ : ∃ Y, Y = ((w9.setCell ⟨gt, x1, none⟩ (.slice (some ⟨ga, 0, none⟩) 512 512)).setCell ⟨gt, x1, none⟩ (.slice (some ⟨ga, 0, none⟩) 512 512)).drew := ⟨_, rfl⟩
  have hwgt : w.heap.size ≤ gt := Nat.le_trans hw8 hgt
  have hbd : Below w9.heap.size w9 w9.drew := below_drewN _ 1
  have HBY : Hid (Below w.heap.size w Y) := by rw [hY]; exact Lib.hid (((HB9.out.setCell (p := ⟨gt, x1, none⟩) hwgt _).setCell (p := ⟨gt, x1, none⟩) hwgt _).trans (below_drewN _ 1))
  have RY : Hid (Rd Y (some ⟨gt, 0, none⟩) ((us9.set x1 (.slice (some ⟨ga, 0, none⟩) 512 512)).set x1 (.slice (some ⟨ga, 0, none⟩) 512 512))) := by
    obtain ⟨A', c', hqe, _, _, hrd, _⟩ := own_rd HQ9.out
    obtain ⟨rfl, rfl⟩ : some ⟨gt, 0, none⟩ = A' ∧ c9 = c' := by simpa using hqe
    have h1 := hrd.setCell x1 (.slice (some ⟨ga, 0, none⟩) 512 512)
    rw [Nat.zero_add] at h1
    have h2 := h1.setCell x1 (.slice (some ⟨ga, 0, none⟩) 512 512)
    rw [Nat.zero_add] at h2
    rw [hY]; exact Lib.hid (h2.kept (below_drewN _ 1))
  have hblk : ∀ g ∈ gs, Y.heap[g]? = w9.heap[g]? := by
    intro g hg
    have hgne := secs_not_own HS9.out HQ9.out g hg
    have hgn : g ≠ gt := by intro e; exact hgne (by rw [e]; rfl)
    rw [hY]
    first
      | exact (Below.heap_setCell _ _ _ _ hgn).trans (Below.heap_setCell _ _ _ _ hgn)
      | exact (Below.heap_setCell _ _ _ _ hgn.symm).trans (Below.heap_setCell _ _ _ _ hgn.symm)
  have RLY : Hid (RdL Y ((us9.set x1 (.slice (some ⟨ga, 0, none⟩) 512 512)).set x1 (.slice (some ⟨ga, 0, none⟩) 512 512)) (((recL s l).set x1 Lk).set x1 Li)) := by
    have h1 : Owns W8.heap.size Y us9 (recL s l) := by rw [hY]; exact (owns_2set HU9.out HQ9.out (gt := gt) rfl ⟨gt, x1, none⟩ ⟨gt, x1, none⟩ rfl rfl _ _).kept (below_drewN _ 1)
    have k1 := (hblk ga (List.mem_of_getElem? HGB.out)).trans (HS9.out.at_ x1 ga Lk HGB.out HLK.out).2
    have k0 := (hblk ga (List.mem_of_getElem? HGA.out)).trans (HS9.out.at_ x1 ga Li HGA.out HLI.out).2
    have m1 := HM.out Lk (List.mem_of_getElem? HLK.out)
    have m0 := HM.out Li (List.mem_of_getElem? HLI.out)
    exact Lib.hid (((h1.rdl (fun x hx => (HM.out x hx).2)).set x1 m1.1 (fun e => by cases e) (Nat.le_refl _) (rd_block k1) m1.2).set x1 m0.1 (fun e => by cases e) (Nat.le_refl _) (rd_block k0) m0.2)
  rw [← hY]
  clear hY hblk hbd z0 z1 y0 y1 q0 q1 K
  have q6 : (er2 == 0) = true := by rw [HE2.out]; rfl
  refine (C8.out _ c9 _ _ RY.out RLY.out).mono ?_
  rintro e wz ⟨⟨vz, rfl, hownz⟩, hbz⟩
  obtain ⟨Az, cz, rfl, hcz⟩ := own_sh hownz
  have HBz := Lib.hid (HBY.out.trans (hbz.mono HBY.out.size))
  clear hownz hbz
  go_wp2
  go_ret
  exact ⟨rfl, HBz.out⟩

set_option maxRecDepth 100000 in
set_option maxHeartbeats 4000000 in
theorem mixed_mZQ (s : Int) (A : Option Addr) (n c : Nat) (l : List Int) (o : Int) (B : Option Addr) (m d : Nat) (l2 : List Int) (x y : Int) (w : World) (hs : 0 < s ∧ s < 18446744073709551616) (ho : 0 < o ∧ o < 18446744073709551616)
    (hln : l.length = n) (hA : A = none → n = 0 ∧ c = 0) (hl : Rd w A (bys l)) (hB : IsB l) (hc : n ≤ c) (hn : n ≤ 4096)
    (hlm : l2.length = m) (hBB : B = none → m = 0 ∧ d = 0) (hl2 : Rd w B (bys l2)) (hB2 : IsB l2) (hd : m ≤ d) (hm : m ≤ 4096)
    (p0 p1 x0 x1 : Nat) (f0 : IntKind.u64.wrap x = (p0 : Int)) (f1 : IntKind.u64.wrap y = (p1 : Int)) (g0 : p0 < 18446744073709551616) (g1 : p1 < 18446744073709551616)
    (d0 : (p0 : Int).tmod (cnt n : Int) = (x0 : Int)) (d1 : (p1 : Int).tmod (cnt n : Int) = (x1 : Int)) (l0 : x0 < cnt n) (l1 : x1 < cnt n) (Li Lk Mx : List Int) (hLi : (recL s l)[x0]? = some Li) (hLk : (recL s l)[x1]? = some Lk)
    (er er2 : Int) (va : List Int) (her : readErr s (n : Int) ((recL s l).set x0 Mx) = er) (hva : readVal s (n : Int) ((recL s l).set x0 Mx) = va) (her2 : readErr s (n : Int) (((recL s l).set x0 Lk).set x1 Li) = er2) (hi : x0 < cnt m) (hMx : (recL o l2)[x0]? = some Mx) (hL : Mx ≠ Li) (he : er = 0) (hv : va ≠ l) (hso : s = o) (hx : x1 = x0) (he2 : er2 = 0) :
    Calls Try.prog 8 #[.int .u64 s, .slice A n c, .int .u64 o, .slice B m d, .int .i64 x, .int .i64 y] w fun e w' => e = .returned (.bool true) ∧ Below w.heap.size w w' := by
  subst hx
  have HE2 := Lib.hid he2
  clear he2
  have C1 := Lib.hid (write_ok s A n c l w hs hln hn hc hA hl hB)
  have C2 := Lib.hid (fun (w1 : World) (h : Rd w1 B (bys l2)) => write_ok o B m d l2 w1 ho hlm hm hd hBB h hB2)
  have C3 := Lib.hid (fun w => awake_any w)
  have hcp := cnt_pos hn
  have hcm := cnt_pos hm
  have hrl : (recL s l).length = cnt n := by rw [recL_length, hln]
  have hrm : (recL o l2).length = cnt m := by rw [recL_length, hlm]
  have hn' : l.length ≤ 4096 := by omega
  have hm' : l2.length ≤ 4096 := by omega
  have v0 : IntKind.i64.wrap (x1 : Int) = (x1 : Int) := IntWalk.i64_in _ (by omega)
  have v1 : IntKind.i64.wrap (x1 : Int) = (x1 : Int) := IntWalk.i64_in _ (by omega)
  have vk : IntKind.u64.wrap (cnt n : Int) = (cnt n : Int) := u64w (by omega)
  have HM := recL_mem (s := s) hB hn'
  have HM2 := recL_mem (s := o) hB2 hm'
  have C4 := Lib.hid (fun (A' : Option Addr) (c' : Nat) (vs : List Value) (w : World) (h : Rd w A' vs) (hL : RdL w vs (recL s l)) => copylists_any A' (cnt n) c' vs (recL s l) w (hL.1.trans hrl) h hL (by omega) (fun L hL => by have := (HM L hL).1; omega))
  have C5 := Lib.hid (fun (A' : Option Addr) (c' : Nat) (vs : List Value) (w : World) (h : Rd w A' vs) (hL : RdL w vs ((recL s l).set x1 Mx)) => read_any s (n : Int) A' (cnt n) c' vs ((recL s l).set x1 Mx) w (hL.1.trans (by rw [List.length_set, hrl])) h hL)
  rw [her, hva] at C5
  simp only [readAt] at C5
  have C8 := Lib.hid (fun (A' : Option Addr) (c' : Nat) (vs : List Value) (w : World) (h : Rd w A' vs) (hL : RdL w vs (((recL s l).set x1 Lk).set x1 Li)) => read_any s (n : Int) A' (cnt n) c' vs (((recL s l).set x1 Lk).set x1 Li) w (hL.1.trans (by rw [List.length_set, List.length_set, hrl])) h hL)
  rw [her2] at C8
  simp only [readAt] at C8
  generalize readVal s (n : Int) (((recL s l).set x1 Lk).set x1 Li) = va2 at C8
  have HVB : Hid (IsB va) := by
    rw [← hva]; refine Lib.hid (isB_readVal (fun x hx => ?_))
    rcases mem_set_or hx with h | rfl
    · exact (HM x h).2
    · exact (HM2 _ (List.mem_of_getElem? hMx)).2
  have HMIX := Lib.hid hMx
  have H_hL := Lib.hid hL
  have H_he := Lib.hid he
  have H_hv := Lib.hid hv
  have H_hso := Lib.hid hso
  clear hMx hL he hv hso

  have HM := Lib.hid HM
  have HM2 := Lib.hid HM2
  have HLI := Lib.hid hLi
  have HLK := Lib.hid hLk
  have HRL := Lib.hid hrl
  have HRM := Lib.hid hrm
  have HLN := Lib.hid hln
  clear hln hA hrl hrm hs ho hlm hBB hLi hLk her hva her2
  obtain ⟨k, hk⟩ : ∃ k, k = cnt n := ⟨_, rfl⟩
  rw [← hk] at hcp C1 C4 C5 C8 d0 d1 l0 l1 vk HRL
  obtain ⟨q, hq⟩ : ∃ q, q = cnt m := ⟨_, rfl⟩
  rw [← hq] at hcm C2 HRM hi
  clear hk hq
  have hk0 : (k : Int) ≠ 0 := by omega
  go_enter Try.func8, Try.ntmps8
  go_wp2_with fail
  refine C1.out.mono ?_
  rintro e w2 ⟨v2, gs, rfl, hown2, hS2, hb2⟩
  obtain ⟨go, c2, rfl, hgo, hc2⟩ := own_addr hown2 (by omega)
  have HO2 := Lib.hid hown2
  have HS2 := Lib.hid hS2
  have HB2 := Lib.hid hb2
  clear hown2 hS2 hb2
  go_wp2_with fail
  refine (C2.out _ (hl2.kept HB2.out)).mono ?_
  rintro e w3 ⟨v3, hs3, rfl, hown3, hS3, hb3⟩
  obtain ⟨gp, c3, rfl, hgp, hc3⟩ := own_addr hown3 (by omega)
  have HP3 := Lib.hid hown3
  have HT3 := Lib.hid hS3
  have HO3 := Lib.hid (own_kept HO2.out hb3)
  have HS3 := Lib.hid (HS2.out.kept hb3)
  have HB3 := Lib.hid (HB2.out.trans (hb3.mono HB2.out.size))
  have hw2 := HB2.out.size
  clear hown3 hS3 hb3 HO2 HS2 HB2
  go_wp2_with fail
  refine (C3.out _).mono ?_
  rintro e w4 ⟨rfl, hb4⟩
  have HP4 := Lib.hid (own_kept HP3.out hb4)
  have HT4 := Lib.hid (HT3.out.kept hb4)
  have HO4 := Lib.hid (own_kept HO3.out hb4)
  have HS4 := Lib.hid (HS3.out.kept hb4)
  have HB4 := Lib.hid (HB3.out.trans (hb4.mono HB3.out.size))
  clear hb4 HO3 HS3 HB3 HP3 HT3
  go_wp2_with fail
  go_quiet (fail)
  obtain ⟨W, hW⟩ : ∃ W, W = w4.drewN nq := ⟨_, rfl⟩
  have hbW : Below w4.heap.size w4 W := by rw [hW]; exact below_drewN _ _
  have HPW := Lib.hid (own_kept HP4.out hbW)
  have HTW := Lib.hid (HT4.out.kept hbW)
  have HOW := Lib.hid (own_kept HO4.out hbW)
  have HSW := Lib.hid (HS4.out.kept hbW)
  have HBW := Lib.hid (HB4.out.trans (hbW.mono HB4.out.size))
  rw [← hW]
  clear hbW hW HP4 HT4 HO4 HS4 HB4
  have RW : Hid (Rd W (some ⟨go, 0, none⟩) (gs.map secV)) := by
    obtain ⟨A', c', he, _, _, hrd, _⟩ := own_rd HOW.out
    obtain ⟨rfl, rfl⟩ : some ⟨go, 0, none⟩ = A' ∧ c2 = c' := by simpa using he
    exact Lib.hid hrd
  go_wp2_with fail
  refine (C4.out _ _ _ _ RW.out (HSW.out.rdl HM.out)).mono ?_
  rintro e w5 ⟨v5, us, rfl, hown5, hS5, hb5⟩
  obtain ⟨gm, c5, rfl, hgm, hc5⟩ := own_addr hown5 (by omega)
  have HQ5 := Lib.hid hown5
  have HU5 := Lib.hid hS5
  have HP5 := Lib.hid (own_kept HPW.out hb5)
  have HT5 := Lib.hid (HTW.out.kept hb5)
  have HO5 := Lib.hid (own_kept HOW.out hb5)
  have HS5 := Lib.hid (HSW.out.kept hb5)
  have HB5 := Lib.hid (HBW.out.trans (hb5.mono HBW.out.size))
  have hwW := HBW.out.size
  have hgoW : go < W.heap.size := (own_base' HOW.out _ rfl).2
  clear hown5 hS5 hb5 HPW HTW HOW HSW HBW RW
  have hjg : x1 < hs3.length := by rw [HT5.out.len, HRM.out]; exact hi
  have hP := HP5.out.cellAt x1 (by omega)
  rw [List.getElem?_map, List.getElem?_eq_getElem hjg] at hP
  simp only [Option.map_some, secV] at hP
  have hat := (HT5.out.at_ x1 hs3[x1] Mx (List.getElem?_eq_getElem hjg) HMIX.out).2
  have hul : us.length = k := by rw [HU5.out.1, HRL.out]
  have hQ := HQ5.out.cellAt x1 (by omega)
  rw [List.getElem?_eq_getElem (show x1 < us.length by omega)] at hQ
  have hF := HQ5.out.frozenAt x1
  have HAT := Lib.hid hat
  have hgo5 : go < gm := Nat.lt_of_lt_of_le hgoW hgm
  have b1 : (0 : Int) ≤ (x1 : Int) ∧ (x1 : Int) < (q : Int) := by omega
  have b2 : (x1 : Int) < (k : Int) := by omega
  have hx0q : (x1 : Int) < (q : Int) := by omega
  have HMX := Lib.hid (HM2.out Mx (List.mem_of_getElem? HMIX.out))
  clear hat
  generalize hs3[x1] = h at *
  generalize us[x1] = u0 at *
  obtain ⟨X, hX⟩ : ∃ X, X = w5.setCell ⟨gm, x1, none⟩ (.slice (some ⟨h, 0, none⟩) 512 512) := ⟨_, rfl⟩
  have HBX : Hid (Below w.heap.size w X) := by rw [hX]; exact Lib.hid (HB5.out.setCell (p := ⟨gm, x1, none⟩) (Nat.le_trans hwW hgm) _)
  have HOX : Hid (X.ownsRow w.heap.size 23 1 (.slice (some ⟨go, 0, none⟩) k c2) k (gs.map secV)) := by rw [hX]; exact Lib.hid (ownsRow_setCell_other HO5.out (a := ⟨gm, x1, none⟩) (by simp [Value.ownBlock]; omega) _)
  have HSX : Hid (Secs w.heap.size X gs (recL s l)) := by rw [hX]; exact Lib.hid (HS5.out.mv (fun g hg => Below.heap_setCell _ _ _ _ (fun e => secs_not_own HS5.out HQ5.out g hg (by first | (simp [Value.ownBlock, e]; done) | (simp [Value.ownBlock, ← e]; done)))))
  have HATX : Hid (X.heap[h]? = some (.cells (bys Mx).toArray 63 (0, 0))) := by
    rw [hX]
    refine Lib.hid ((Below.heap_setCell _ _ _ _ ?_).trans HAT.out)
    intro e
    have hh := HQ5.out.2
    rcases hh with ⟨e2, _⟩ | ⟨g', cap', cur', e2, _, h4, _⟩
    · simp at e2
    · simp at e2
      have h5 := HAT.out
      simp at e
      first
        | (rw [e, e2.1] at h5; rw [h4] at h5; simp at h5; done)
        | (rw [← e, e2.1] at h5; rw [h4] at h5; simp at h5; done)
  have HRX : Hid (Rd X (some ⟨gm, 0, none⟩) (us.set x1 (.slice (some ⟨h, 0, none⟩) 512 512))) := by
    obtain ⟨A', c', he, _, _, hrd, _⟩ := own_rd HQ5.out
    obtain ⟨rfl, rfl⟩ : some ⟨gm, 0, none⟩ = A' ∧ c5 = c' := by simpa using he
    have := hrd.setCell x1 (.slice (some ⟨h, 0, none⟩) 512 512)
    rw [Nat.zero_add] at this
    rw [hX]; exact Lib.hid this
  have HLX : Hid (RdL X (us.set x1 (.slice (some ⟨h, 0, none⟩) 512 512)) ((recL s l).set x1 Mx)) := by
    have h1 : Owns W.heap.size X us (recL s l) := by rw [hX]; exact own_not_owns HU5.out HQ5.out (go := gm) rfl _ rfl _
    exact Lib.hid ((h1.rdl (fun x hx => (HM.out x hx).2)).set x1 HMX.out.1 (fun e => by cases e) (Nat.le_refl _) (rd_block HATX.out) HMX.out.2)
  have hcm0 : X.cell? ⟨gm, x1, none⟩ = some (.slice (some ⟨h, 0, none⟩) 512 512) := by
    obtain ⟨b, o, e, h3⟩ := HRX.out x1 _ (show (us.set x1 (.slice (some ⟨h, 0, none⟩) 512 512))[x1]? = some (Value.slice (some ⟨h, 0, none⟩) 512 512) by rw [List.getElem?_set, if_pos rfl, if_pos (by omega)])
    simp at e; rw [← e.1, ← e.2, Nat.zero_add] at h3; exact h3
  have HRMX := Lib.hid (rd_block HATX.out)
  have hgX : gm < X.heap.size := by rw [hX]; simp [World.setCell]; exact (own_base' HQ5.out _ rfl).2
  have HCM0 := Lib.hid hcm0
  clear hcm0 HATX HAT
  go_wp2_with fail
  rw [← hX]
  clear hX hP hF
  clear hQ
  refine (C5.out _ c5 _ _ HRX.out HLX.out).mono ?_
  rintro e w7 ⟨⟨v7, rfl, hown7⟩, hb7⟩
  obtain ⟨A7, c7, rfl, hc7, _, hrd7, _⟩ := own_rd hown7
  have HR7 := Lib.hid hrd7
  have HO7 := Lib.hid (own_kept HOX.out hb7)
  have HS7 := Lib.hid (HSX.out.kept hb7)
  have HB7 := Lib.hid (HBX.out.trans (hb7.mono HBX.out.size))
  have hcm7 := (hb7.cell (p := ⟨gm, x1, none⟩) hgX).trans HCM0.out
  have HM7 := Lib.hid (HRMX.out.kept hb7)
  have hjgs : x1 < gs.length := by rw [HS7.out.len, HRL.out]; exact l0
  have hl7 := HO7.out.cellAt x1 (by omega)
  rw [List.getElem?_map, List.getElem?_eq_getElem hjgs] at hl7
  simp only [Option.map_some, secV] at hl7
  have HAT0 := Lib.hid (HS7.out.at_ x1 gs[x1] Li (List.getElem?_eq_getElem hjgs) HLI.out).2
  have HGA := Lib.hid (List.getElem?_eq_getElem hjgs)
  have HLB := Lib.hid (HM.out Li (List.mem_of_getElem? HLI.out))
  generalize gs[x1] = ga at *
  have B1 := fun (W' : World) (hb : Below w7.heap.size w7 W') => bytes_any (some ⟨h, 0, none⟩) 512 512 Mx (some ⟨ga, 0, none⟩) 512 512 Li W' HMX.out.1 HLB.out.1 (HM7.out.kept hb) ((rd_block HAT0.out).kept hb) HMX.out.2 HLB.out.2
  have B2 := fun (W' : World) (hb : Below w7.heap.size w7 W') => bytes_any A7 va.length c7 va A n c l W' rfl HLN.out (HR7.out.kept hb) ((hl.kept HB7.out).kept hb) HVB.out hB
  have hd1 : decide (Mx = Li) = false := by simpa using H_hL.out
  have hd2 : decide (va = l) = false := by simpa using H_hv.out
  simp only [hd1] at B1
  simp only [hd2] at B2
  have hz : (er == 0) = true := by simpa using H_he.out
  have hso2 : (s != o) = false := by simpa using H_hso.out
  clear hd1 hd2
  have CB1 := Lib.hid B1
  have CB2 := Lib.hid B2
  have b3 : (0 : Int) ≤ (x1 : Int) ∧ (x1 : Int) < (k : Int) := by omega
  clear B1 B2 hown7 hb7 hrd7 hjgs HRX HLX HOX HSX HBX hc7
  go_wp2_with fail
  go_quiet (first
    | (go_at_call 24; exact qsame (CB1.out _ (Below.refl _ _ |>.trans (below_drewN _ _))))
    | (go_at_call 24; exact qsame (CB2.out _ (Below.refl _ _ |>.trans (below_drewN _ _)))))
  generalize hW8 : w7.drewN _ = W8
  have hbW8 : Below w7.heap.size w7 W8 := by rw [← hW8]; exact below_drewN _ _
  have HO8 := Lib.hid (own_kept HO7.out hbW8)
  have HS8 := Lib.hid (HS7.out.kept hbW8)
  have HB8 := Lib.hid (HB7.out.trans (hbW8.mono HB7.out.size))
  clear hW8 hbW8 HO7 HS7 HB7 hcm7 hl7 CB1 CB2 HM7 HR7 HAT0
  have RW8 : Hid (Rd W8 (some ⟨go, 0, none⟩) (gs.map secV)) := by
    obtain ⟨A', c', hqe, _, _, hrd, _⟩ := own_rd HO8.out
    obtain ⟨rfl, rfl⟩ : some ⟨go, 0, none⟩ = A' ∧ c2 = c' := by simpa using hqe
    exact Lib.hid hrd
  go_wp2_with fail
  refine (C4.out _ _ _ _ RW8.out (HS8.out.rdl HM.out)).mono ?_
  rintro e w9 ⟨v9, us9, rfl, hown9, hS9, hb9⟩
  obtain ⟨gt, c9, rfl, hgt, hc9⟩ := own_addr hown9 (by omega)
  have HQ9 := Lib.hid hown9
  have HU9 := Lib.hid hS9
  have HO9 := Lib.hid (own_kept HO8.out hb9)
  have HS9 := Lib.hid (HS8.out.kept hb9)
  have HB9 := Lib.hid (HB8.out.trans (hb9.mono HB8.out.size))
  have hgo8 : go < W8.heap.size := (own_base' HO8.out _ rfl).2
  have hw8 := HB8.out.size
  have hgogt : go < gt := Nat.lt_of_lt_of_le hgo8 hgt
  have hul9 : us9.length = k := by rw [HU9.out.1, HRL.out]
  have hgl9 : gs.length = k := by rw [HS9.out.len, HRL.out]
  obtain ⟨gb, hgb⟩ : ∃ gb, gs[x1]? = some gb := ⟨_, List.getElem?_eq_getElem (by omega)⟩
  obtain rfl : ga = gb := by have hq := HGA.out.symm.trans hgb; simpa using hq
  obtain ⟨t0, ht0⟩ : ∃ t, us9[x1]? = some t := ⟨_, List.getElem?_eq_getElem (by omega)⟩
  obtain ⟨t1, ht1⟩ : ∃ t, us9[x1]? = some t := ⟨_, List.getElem?_eq_getElem (by omega)⟩
  have z0 := HO9.out.cellAt x1 (by omega)
  have z1 := HO9.out.cellAt x1 (by omega)
  rw [List.getElem?_map, HGA.out] at z0
  rw [List.getElem?_map, hgb] at z1
  simp only [Option.map_some, secV] at z0 z1
  have y0 := HQ9.out.cellAt x1 (by omega)
  have y1 := HQ9.out.cellAt x1 (by omega)
  rw [ht0] at y0
  rw [ht1] at y1
  have q0 := HQ9.out.frozenAt x1
  have q1 := HQ9.out.frozenAt x1
  have HGB := Lib.hid hgb
  have b4 : (0 : Int) ≤ (x1 : Int) ∧ (x1 : Int) < (k : Int) := by omega
  have HT := HU9.out.rdl (fun x hx => (HM.out x hx).2)
  clear hown9 hS9 hb9 RW8 HO8 HS8 HB8 hgb ht0 ht1
  have K := Lib.hid (fun (w' : World) (h : w'.heap[go]? = w9.heap[go]?) => (⟨(World.cell?_of_block (w := w9) (a := ⟨go, x1, none⟩) h).trans z0, (World.cell?_of_block (w := w9) (a := ⟨go, x1, none⟩) h).trans z1⟩ :
    w'.cell? ⟨go, x1, none⟩ = some (.slice (some ⟨ga, 0, none⟩) 512 512) ∧ w'.cell? ⟨go, x1, none⟩ = some (.slice (some ⟨ga, 0, none⟩) 512 512)))
  have hne : go ≠ gt := by omega
  go_wp2_with fail
  go_region_held3 (fun w' => w'.cell? ⟨go, x1, none⟩ = some (.slice (some ⟨ga, 0, none⟩) 512 512) ∧ w'.cell? ⟨go, x1, none⟩ = some (.slice (some ⟨ga, 0, none⟩) 512 512))
    (first
      | exact K.out _ rfl
      | exact K.out _ (Below.heap_setCell _ _ _ _ hne)
      | exact K.out _ ((Below.heap_setCell _ _ _ _ hne).trans (Below.heap_setCell _ _ _ _ hne))
      | exact K.out _ (Below.heap_setCell _ _ _ _ hne.symm)
      | exact K.out _ ((Below.heap_setCell _ _ _ _ hne.symm).trans (Below.heap_setCell _ _ _ _ hne.symm)))
    ((fail))
  go_wp2_with fail
  obtain ⟨Y, hY⟩ : ∃ Y, Y = ((w9.setCell ⟨gt, x1, none⟩ (.slice (some ⟨ga, 0, none⟩) 512 512)).setCell ⟨gt, x1, none⟩ (.slice (some ⟨ga, 0, none⟩) 512 512)).drew := ⟨_, rfl⟩
  have hwgt : w.heap.size ≤ gt := Nat.le_trans hw8 hgt
  have hbd : Below w9.heap.size w9 w9.drew := below_drewN _ 1
  have HBY : Hid (Below w.heap.size w Y) := by rw [hY]; exact Lib.hid (((HB9.out.setCell (p := ⟨gt, x1, none⟩) hwgt _).setCell (p := ⟨gt, x1, none⟩) hwgt _).trans (below_drewN _ 1))
  have RY : Hid (Rd Y (some ⟨gt, 0, none⟩) ((us9.set x1 (.slice (some ⟨ga, 0, none⟩) 512 512)).set x1 (.slice (some ⟨ga, 0, none⟩) 512 512))) := by
    obtain ⟨A', c', hqe, _, _, hrd, _⟩ := own_rd HQ9.out
    obtain ⟨rfl, rfl⟩ : some ⟨gt, 0, none⟩ = A' ∧ c9 = c' := by simpa using hqe
    have h1 := hrd.setCell x1 (.slice (some ⟨ga, 0, none⟩) 512 512)
    rw [Nat.zero_add] at h1
    have h2 := h1.setCell x1 (.slice (some ⟨ga, 0, none⟩) 512 512)
    rw [Nat.zero_add] at h2
    rw [hY]; exact Lib.hid (h2.kept (below_drewN _ 1))
  have hblk : ∀ g ∈ gs, Y.heap[g]? = w9.heap[g]? := by
    intro g hg
    have hgne := secs_not_own HS9.out HQ9.out g hg
    have hgn : g ≠ gt := by intro e; exact hgne (by rw [e]; rfl)
    rw [hY]
    first
      | exact (Below.heap_setCell _ _ _ _ hgn).trans (Below.heap_setCell _ _ _ _ hgn)
      | exact (Below.heap_setCell _ _ _ _ hgn.symm).trans (Below.heap_setCell _ _ _ _ hgn.symm)
  have RLY : Hid (RdL Y ((us9.set x1 (.slice (some ⟨ga, 0, none⟩) 512 512)).set x1 (.slice (some ⟨ga, 0, none⟩) 512 512)) (((recL s l).set x1 Lk).set x1 Li)) := by
    have h1 : Owns W8.heap.size Y us9 (recL s l) := by rw [hY]; exact (owns_2set HU9.out HQ9.out (gt := gt) rfl ⟨gt, x1, none⟩ ⟨gt, x1, none⟩ rfl rfl _ _).kept (below_drewN _ 1)
    have k1 := (hblk ga (List.mem_of_getElem? HGB.out)).trans (HS9.out.at_ x1 ga Lk HGB.out HLK.out).2
    have k0 := (hblk ga (List.mem_of_getElem? HGA.out)).trans (HS9.out.at_ x1 ga Li HGA.out HLI.out).2
    have m1 := HM.out Lk (List.mem_of_getElem? HLK.out)
    have m0 := HM.out Li (List.mem_of_getElem? HLI.out)
    exact Lib.hid (((h1.rdl (fun x hx => (HM.out x hx).2)).set x1 m1.1 (fun e => by cases e) (Nat.le_refl _) (rd_block k1) m1.2).set x1 m0.1 (fun e => by cases e) (Nat.le_refl _) (rd_block k0) m0.2)
  rw [← hY]
  clear hY hblk hbd z0 z1 y0 y1 q0 q1 K
  have q6 : (er2 == 0) = true := by rw [HE2.out]; rfl
  refine (C8.out _ c9 _ _ RY.out RLY.out).mono ?_
  rintro e wz ⟨⟨vz, rfl, hownz⟩, hbz⟩
  obtain ⟨Az, cz, rfl, hcz⟩ := own_sh hownz
  have HBz := Lib.hid (HBY.out.trans (hbz.mono HBY.out.size))
  clear hownz hbz
  go_wp2
  go_ret
  exact ⟨rfl, HBz.out⟩

set_option maxRecDepth 100000 in
set_option maxHeartbeats 4000000 in
theorem mixed_mSQ (s : Int) (A : Option Addr) (n c : Nat) (l : List Int) (o : Int) (B : Option Addr) (m d : Nat) (l2 : List Int) (x y : Int) (w : World) (hs : 0 < s ∧ s < 18446744073709551616) (ho : 0 < o ∧ o < 18446744073709551616)
    (hln : l.length = n) (hA : A = none → n = 0 ∧ c = 0) (hl : Rd w A (bys l)) (hB : IsB l) (hc : n ≤ c) (hn : n ≤ 4096)
    (hlm : l2.length = m) (hBB : B = none → m = 0 ∧ d = 0) (hl2 : Rd w B (bys l2)) (hB2 : IsB l2) (hd : m ≤ d) (hm : m ≤ 4096)
    (p0 p1 x0 x1 : Nat) (f0 : IntKind.u64.wrap x = (p0 : Int)) (f1 : IntKind.u64.wrap y = (p1 : Int)) (g0 : p0 < 18446744073709551616) (g1 : p1 < 18446744073709551616)
    (d0 : (p0 : Int).tmod (cnt n : Int) = (x0 : Int)) (d1 : (p1 : Int).tmod (cnt n : Int) = (x1 : Int)) (l0 : x0 < cnt n) (l1 : x1 < cnt n) (Li Lk Mx : List Int) (hLi : (recL s l)[x0]? = some Li) (hLk : (recL s l)[x1]? = some Lk)
    (er er2 : Int) (va : List Int) (her : readErr s (n : Int) ((recL s l).set x0 Mx) = er) (hva : readVal s (n : Int) ((recL s l).set x0 Mx) = va) (her2 : readErr s (n : Int) (((recL s l).set x0 Lk).set x1 Li) = er2) (hi : x0 < cnt m) (hMx : (recL o l2)[x0]? = some Mx) (hL : Mx ≠ Li) (he : er ≠ 0) (hso : s = o) (hx : x1 = x0) (he2 : er2 = 0) :
    Calls Try.prog 8 #[.int .u64 s, .slice A n c, .int .u64 o, .slice B m d, .int .i64 x, .int .i64 y] w fun e w' => e = .returned (.bool true) ∧ Below w.heap.size w w' := by
  subst hx
  have HE2 := Lib.hid he2
  clear he2
  have C1 := Lib.hid (write_ok s A n c l w hs hln hn hc hA hl hB)
  have C2 := Lib.hid (fun (w1 : World) (h : Rd w1 B (bys l2)) => write_ok o B m d l2 w1 ho hlm hm hd hBB h hB2)
  have C3 := Lib.hid (fun w => awake_any w)
  have hcp := cnt_pos hn
  have hcm := cnt_pos hm
  have hrl : (recL s l).length = cnt n := by rw [recL_length, hln]
  have hrm : (recL o l2).length = cnt m := by rw [recL_length, hlm]
  have hn' : l.length ≤ 4096 := by omega
  have hm' : l2.length ≤ 4096 := by omega
  have v0 : IntKind.i64.wrap (x1 : Int) = (x1 : Int) := IntWalk.i64_in _ (by omega)
  have v1 : IntKind.i64.wrap (x1 : Int) = (x1 : Int) := IntWalk.i64_in _ (by omega)
  have vk : IntKind.u64.wrap (cnt n : Int) = (cnt n : Int) := u64w (by omega)
  have HM := recL_mem (s := s) hB hn'
  have HM2 := recL_mem (s := o) hB2 hm'
  have C4 := Lib.hid (fun (A' : Option Addr) (c' : Nat) (vs : List Value) (w : World) (h : Rd w A' vs) (hL : RdL w vs (recL s l)) => copylists_any A' (cnt n) c' vs (recL s l) w (hL.1.trans hrl) h hL (by omega) (fun L hL => by have := (HM L hL).1; omega))
  have C5 := Lib.hid (fun (A' : Option Addr) (c' : Nat) (vs : List Value) (w : World) (h : Rd w A' vs) (hL : RdL w vs ((recL s l).set x1 Mx)) => read_any s (n : Int) A' (cnt n) c' vs ((recL s l).set x1 Mx) w (hL.1.trans (by rw [List.length_set, hrl])) h hL)
  rw [her, hva] at C5
  simp only [readAt] at C5
  have C8 := Lib.hid (fun (A' : Option Addr) (c' : Nat) (vs : List Value) (w : World) (h : Rd w A' vs) (hL : RdL w vs (((recL s l).set x1 Lk).set x1 Li)) => read_any s (n : Int) A' (cnt n) c' vs (((recL s l).set x1 Lk).set x1 Li) w (hL.1.trans (by rw [List.length_set, List.length_set, hrl])) h hL)
  rw [her2] at C8
  simp only [readAt] at C8
  generalize readVal s (n : Int) (((recL s l).set x1 Lk).set x1 Li) = va2 at C8
  have HVB : Hid (IsB va) := by
    rw [← hva]; refine Lib.hid (isB_readVal (fun x hx => ?_))
    rcases mem_set_or hx with h | rfl
    · exact (HM x h).2
    · exact (HM2 _ (List.mem_of_getElem? hMx)).2
  have HMIX := Lib.hid hMx
  have H_hL := Lib.hid hL
  have H_he := Lib.hid he
  have H_hso := Lib.hid hso
  clear hMx hL he hso

  have HM := Lib.hid HM
  have HM2 := Lib.hid HM2
  have HLI := Lib.hid hLi
  have HLK := Lib.hid hLk
  have HRL := Lib.hid hrl
  have HRM := Lib.hid hrm
  have HLN := Lib.hid hln
  clear hln hA hrl hrm hs ho hlm hBB hLi hLk her hva her2
  obtain ⟨k, hk⟩ : ∃ k, k = cnt n := ⟨_, rfl⟩
  rw [← hk] at hcp C1 C4 C5 C8 d0 d1 l0 l1 vk HRL
  obtain ⟨q, hq⟩ : ∃ q, q = cnt m := ⟨_, rfl⟩
  rw [← hq] at hcm C2 HRM hi
  clear hk hq
  have hk0 : (k : Int) ≠ 0 := by omega
  go_enter Try.func8, Try.ntmps8
  go_wp2_with fail
  refine C1.out.mono ?_
  rintro e w2 ⟨v2, gs, rfl, hown2, hS2, hb2⟩
  obtain ⟨go, c2, rfl, hgo, hc2⟩ := own_addr hown2 (by omega)
  have HO2 := Lib.hid hown2
  have HS2 := Lib.hid hS2
  have HB2 := Lib.hid hb2
  clear hown2 hS2 hb2
  go_wp2_with fail
  refine (C2.out _ (hl2.kept HB2.out)).mono ?_
  rintro e w3 ⟨v3, hs3, rfl, hown3, hS3, hb3⟩
  obtain ⟨gp, c3, rfl, hgp, hc3⟩ := own_addr hown3 (by omega)
  have HP3 := Lib.hid hown3
  have HT3 := Lib.hid hS3
  have HO3 := Lib.hid (own_kept HO2.out hb3)
  have HS3 := Lib.hid (HS2.out.kept hb3)
  have HB3 := Lib.hid (HB2.out.trans (hb3.mono HB2.out.size))
  have hw2 := HB2.out.size
  clear hown3 hS3 hb3 HO2 HS2 HB2
  go_wp2_with fail
  refine (C3.out _).mono ?_
  rintro e w4 ⟨rfl, hb4⟩
  have HP4 := Lib.hid (own_kept HP3.out hb4)
  have HT4 := Lib.hid (HT3.out.kept hb4)
  have HO4 := Lib.hid (own_kept HO3.out hb4)
  have HS4 := Lib.hid (HS3.out.kept hb4)
  have HB4 := Lib.hid (HB3.out.trans (hb4.mono HB3.out.size))
  clear hb4 HO3 HS3 HB3 HP3 HT3
  go_wp2_with fail
  go_quiet (fail)
  obtain ⟨W, hW⟩ : ∃ W, W = w4.drewN nq := ⟨_, rfl⟩
  have hbW : Below w4.heap.size w4 W := by rw [hW]; exact below_drewN _ _
  have HPW := Lib.hid (own_kept HP4.out hbW)
  have HTW := Lib.hid (HT4.out.kept hbW)
  have HOW := Lib.hid (own_kept HO4.out hbW)
  have HSW := Lib.hid (HS4.out.kept hbW)
  have HBW := Lib.hid (HB4.out.trans (hbW.mono HB4.out.size))
  rw [← hW]
  clear hbW hW HP4 HT4 HO4 HS4 HB4
  have RW : Hid (Rd W (some ⟨go, 0, none⟩) (gs.map secV)) := by
    obtain ⟨A', c', he, _, _, hrd, _⟩ := own_rd HOW.out
    obtain ⟨rfl, rfl⟩ : some ⟨go, 0, none⟩ = A' ∧ c2 = c' := by simpa using he
    exact Lib.hid hrd
  go_wp2_with fail
  refine (C4.out _ _ _ _ RW.out (HSW.out.rdl HM.out)).mono ?_
  rintro e w5 ⟨v5, us, rfl, hown5, hS5, hb5⟩
  obtain ⟨gm, c5, rfl, hgm, hc5⟩ := own_addr hown5 (by omega)
  have HQ5 := Lib.hid hown5
  have HU5 := Lib.hid hS5
  have HP5 := Lib.hid (own_kept HPW.out hb5)
  have HT5 := Lib.hid (HTW.out.kept hb5)
  have HO5 := Lib.hid (own_kept HOW.out hb5)
  have HS5 := Lib.hid (HSW.out.kept hb5)
  have HB5 := Lib.hid (HBW.out.trans (hb5.mono HBW.out.size))
  have hwW := HBW.out.size
  have hgoW : go < W.heap.size := (own_base' HOW.out _ rfl).2
  clear hown5 hS5 hb5 HPW HTW HOW HSW HBW RW
  have hjg : x1 < hs3.length := by rw [HT5.out.len, HRM.out]; exact hi
  have hP := HP5.out.cellAt x1 (by omega)
  rw [List.getElem?_map, List.getElem?_eq_getElem hjg] at hP
  simp only [Option.map_some, secV] at hP
  have hat := (HT5.out.at_ x1 hs3[x1] Mx (List.getElem?_eq_getElem hjg) HMIX.out).2
  have hul : us.length = k := by rw [HU5.out.1, HRL.out]
  have hQ := HQ5.out.cellAt x1 (by omega)
  rw [List.getElem?_eq_getElem (show x1 < us.length by omega)] at hQ
  have hF := HQ5.out.frozenAt x1
  have HAT := Lib.hid hat
  have hgo5 : go < gm := Nat.lt_of_lt_of_le hgoW hgm
  have b1 : (0 : Int) ≤ (x1 : Int) ∧ (x1 : Int) < (q : Int) := by omega
  have b2 : (x1 : Int) < (k : Int) := by omega
  have hx0q : (x1 : Int) < (q : Int) := by omega
  have HMX := Lib.hid (HM2.out Mx (List.mem_of_getElem? HMIX.out))
  clear hat
  generalize hs3[x1] = h at *
  generalize us[x1] = u0 at *
  obtain ⟨X, hX⟩ : ∃ X, X = w5.setCell ⟨gm, x1, none⟩ (.slice (some ⟨h, 0, none⟩) 512 512) := ⟨_, rfl⟩
  have HBX : Hid (Below w.heap.size w X) := by rw [hX]; exact Lib.hid (HB5.out.setCell (p := ⟨gm, x1, none⟩) (Nat.le_trans hwW hgm) _)
  have HOX : Hid (X.ownsRow w.heap.size 23 1 (.slice (some ⟨go, 0, none⟩) k c2) k (gs.map secV)) := by rw [hX]; exact Lib.hid (ownsRow_setCell_other HO5.out (a := ⟨gm, x1, none⟩) (by simp [Value.ownBlock]; omega) _)
  have HSX : Hid (Secs w.heap.size X gs (recL s l)) := by rw [hX]; exact Lib.hid (HS5.out.mv (fun g hg => Below.heap_setCell _ _ _ _ (fun e => secs_not_own HS5.out HQ5.out g hg (by first | (simp [Value.ownBlock, e]; done) | (simp [Value.ownBlock, ← e]; done)))))
  have HATX : Hid (X.heap[h]? = some (.cells (bys Mx).toArray 63 (0, 0))) := by
    rw [hX]
    refine Lib.hid ((Below.heap_setCell _ _ _ _ ?_).trans HAT.out)
    intro e
    have hh := HQ5.out.2
    rcases hh with ⟨e2, _⟩ | ⟨g', cap', cur', e2, _, h4, _⟩
    · simp at e2
    · simp at e2
      have h5 := HAT.out
      simp at e
      first
        | (rw [e, e2.1] at h5; rw [h4] at h5; simp at h5; done)
        | (rw [← e, e2.1] at h5; rw [h4] at h5; simp at h5; done)
  have HRX : Hid (Rd X (some ⟨gm, 0, none⟩) (us.set x1 (.slice (some ⟨h, 0, none⟩) 512 512))) := by
    obtain ⟨A', c', he, _, _, hrd, _⟩ := own_rd HQ5.out
    obtain ⟨rfl, rfl⟩ : some ⟨gm, 0, none⟩ = A' ∧ c5 = c' := by simpa using he
    have := hrd.setCell x1 (.slice (some ⟨h, 0, none⟩) 512 512)
    rw [Nat.zero_add] at this
    rw [hX]; exact Lib.hid this
  have HLX : Hid (RdL X (us.set x1 (.slice (some ⟨h, 0, none⟩) 512 512)) ((recL s l).set x1 Mx)) := by
    have h1 : Owns W.heap.size X us (recL s l) := by rw [hX]; exact own_not_owns HU5.out HQ5.out (go := gm) rfl _ rfl _
    exact Lib.hid ((h1.rdl (fun x hx => (HM.out x hx).2)).set x1 HMX.out.1 (fun e => by cases e) (Nat.le_refl _) (rd_block HATX.out) HMX.out.2)
  have hcm0 : X.cell? ⟨gm, x1, none⟩ = some (.slice (some ⟨h, 0, none⟩) 512 512) := by
    obtain ⟨b, o, e, h3⟩ := HRX.out x1 _ (show (us.set x1 (.slice (some ⟨h, 0, none⟩) 512 512))[x1]? = some (Value.slice (some ⟨h, 0, none⟩) 512 512) by rw [List.getElem?_set, if_pos rfl, if_pos (by omega)])
    simp at e; rw [← e.1, ← e.2, Nat.zero_add] at h3; exact h3
  have HRMX := Lib.hid (rd_block HATX.out)
  have hgX : gm < X.heap.size := by rw [hX]; simp [World.setCell]; exact (own_base' HQ5.out _ rfl).2
  have HCM0 := Lib.hid hcm0
  clear hcm0 HATX HAT
  go_wp2_with fail
  rw [← hX]
  clear hX hP hF
  clear hQ
  refine (C5.out _ c5 _ _ HRX.out HLX.out).mono ?_
  rintro e w7 ⟨⟨v7, rfl, hown7⟩, hb7⟩
  obtain ⟨A7, c7, rfl, hc7, _, hrd7, _⟩ := own_rd hown7
  have HR7 := Lib.hid hrd7
  have HO7 := Lib.hid (own_kept HOX.out hb7)
  have HS7 := Lib.hid (HSX.out.kept hb7)
  have HB7 := Lib.hid (HBX.out.trans (hb7.mono HBX.out.size))
  have hcm7 := (hb7.cell (p := ⟨gm, x1, none⟩) hgX).trans HCM0.out
  have HM7 := Lib.hid (HRMX.out.kept hb7)
  have hjgs : x1 < gs.length := by rw [HS7.out.len, HRL.out]; exact l0
  have hl7 := HO7.out.cellAt x1 (by omega)
  rw [List.getElem?_map, List.getElem?_eq_getElem hjgs] at hl7
  simp only [Option.map_some, secV] at hl7
  have HAT0 := Lib.hid (HS7.out.at_ x1 gs[x1] Li (List.getElem?_eq_getElem hjgs) HLI.out).2
  have HGA := Lib.hid (List.getElem?_eq_getElem hjgs)
  have HLB := Lib.hid (HM.out Li (List.mem_of_getElem? HLI.out))
  generalize gs[x1] = ga at *
  have B1 := fun (W' : World) (hb : Below w7.heap.size w7 W') => bytes_any (some ⟨h, 0, none⟩) 512 512 Mx (some ⟨ga, 0, none⟩) 512 512 Li W' HMX.out.1 HLB.out.1 (HM7.out.kept hb) ((rd_block HAT0.out).kept hb) HMX.out.2 HLB.out.2
  have B2 := fun (W' : World) (hb : Below w7.heap.size w7 W') => bytes_any A7 va.length c7 va A n c l W' rfl HLN.out (HR7.out.kept hb) ((hl.kept HB7.out).kept hb) HVB.out hB
  have hd1 : decide (Mx = Li) = false := by simpa using H_hL.out
  simp only [hd1] at B1
  have hz : (er == 0) = false := by simpa using H_he.out
  have hso2 : (s != o) = false := by simpa using H_hso.out
  clear hd1
  have CB1 := Lib.hid B1
  have CB2 := Lib.hid B2
  have b3 : (0 : Int) ≤ (x1 : Int) ∧ (x1 : Int) < (k : Int) := by omega
  clear B1 B2 hown7 hb7 hrd7 hjgs HRX HLX HOX HSX HBX hc7
  go_wp2_with fail
  go_quiet (first
    | (go_at_call 24; exact qsame (CB1.out _ (Below.refl _ _ |>.trans (below_drewN _ _))))
    | (go_at_call 24; exact qsame (CB2.out _ (Below.refl _ _ |>.trans (below_drewN _ _)))))
  generalize hW8 : w7.drewN _ = W8
  have hbW8 : Below w7.heap.size w7 W8 := by rw [← hW8]; exact below_drewN _ _
  have HO8 := Lib.hid (own_kept HO7.out hbW8)
  have HS8 := Lib.hid (HS7.out.kept hbW8)
  have HB8 := Lib.hid (HB7.out.trans (hbW8.mono HB7.out.size))
  clear hW8 hbW8 HO7 HS7 HB7 hcm7 hl7 CB1 CB2 HM7 HR7 HAT0
  have RW8 : Hid (Rd W8 (some ⟨go, 0, none⟩) (gs.map secV)) := by
    obtain ⟨A', c', hqe, _, _, hrd, _⟩ := own_rd HO8.out
    obtain ⟨rfl, rfl⟩ : some ⟨go, 0, none⟩ = A' ∧ c2 = c' := by simpa using hqe
    exact Lib.hid hrd
  go_wp2_with fail
  refine (C4.out _ _ _ _ RW8.out (HS8.out.rdl HM.out)).mono ?_
  rintro e w9 ⟨v9, us9, rfl, hown9, hS9, hb9⟩
  obtain ⟨gt, c9, rfl, hgt, hc9⟩ := own_addr hown9 (by omega)
  have HQ9 := Lib.hid hown9
  have HU9 := Lib.hid hS9
  have HO9 := Lib.hid (own_kept HO8.out hb9)
  have HS9 := Lib.hid (HS8.out.kept hb9)
  have HB9 := Lib.hid (HB8.out.trans (hb9.mono HB8.out.size))
  have hgo8 : go < W8.heap.size := (own_base' HO8.out _ rfl).2
  have hw8 := HB8.out.size
  have hgogt : go < gt := Nat.lt_of_lt_of_le hgo8 hgt
  have hul9 : us9.length = k := by rw [HU9.out.1, HRL.out]
  have hgl9 : gs.length = k := by rw [HS9.out.len, HRL.out]
  obtain ⟨gb, hgb⟩ : ∃ gb, gs[x1]? = some gb := ⟨_, List.getElem?_eq_getElem (by omega)⟩
  obtain rfl : ga = gb := by have hq := HGA.out.symm.trans hgb; simpa using hq
  obtain ⟨t0, ht0⟩ : ∃ t, us9[x1]? = some t := ⟨_, List.getElem?_eq_getElem (by omega)⟩
  obtain ⟨t1, ht1⟩ : ∃ t, us9[x1]? = some t := ⟨_, List.getElem?_eq_getElem (by omega)⟩
  have z0 := HO9.out.cellAt x1 (by omega)
  have z1 := HO9.out.cellAt x1 (by omega)
  rw [List.getElem?_map, HGA.out] at z0
  rw [List.getElem?_map, hgb] at z1
  simp only [Option.map_some, secV] at z0 z1
  have y0 := HQ9.out.cellAt x1 (by omega)
  have y1 := HQ9.out.cellAt x1 (by omega)
  rw [ht0] at y0
  rw [ht1] at y1
  have q0 := HQ9.out.frozenAt x1
  have q1 := HQ9.out.frozenAt x1
  have HGB := Lib.hid hgb
  have b4 : (0 : Int) ≤ (x1 : Int) ∧ (x1 : Int) < (k : Int) := by omega
  have HT := HU9.out.rdl (fun x hx => (HM.out x hx).2)
  clear hown9 hS9 hb9 RW8 HO8 HS8 HB8 hgb ht0 ht1
  have K := Lib.hid (fun (w' : World) (h : w'.heap[go]? = w9.heap[go]?) => (⟨(World.cell?_of_block (w := w9) (a := ⟨go, x1, none⟩) h).trans z0, (World.cell?_of_block (w := w9) (a := ⟨go, x1, none⟩) h).trans z1⟩ :
    w'.cell? ⟨go, x1, none⟩ = some (.slice (some ⟨ga, 0, none⟩) 512 512) ∧ w'.cell? ⟨go, x1, none⟩ = some (.slice (some ⟨ga, 0, none⟩) 512 512)))
  have hne : go ≠ gt := by omega
  go_wp2_with fail
  go_region_held3 (fun w' => w'.cell? ⟨go, x1, none⟩ = some (.slice (some ⟨ga, 0, none⟩) 512 512) ∧ w'.cell? ⟨go, x1, none⟩ = some (.slice (some ⟨ga, 0, none⟩) 512 512))
    (first
      | exact K.out _ rfl
      | exact K.out _ (Below.heap_setCell _ _ _ _ hne)
      | exact K.out _ ((Below.heap_setCell _ _ _ _ hne).trans (Below.heap_setCell _ _ _ _ hne))
      | exact K.out _ (Below.heap_setCell _ _ _ _ hne.symm)
      | exact K.out _ ((Below.heap_setCell _ _ _ _ hne.symm).trans (Below.heap_setCell _ _ _ _ hne.symm)))
    ((fail))
  go_wp2_with fail
  obtain ⟨Y, hY⟩ : ∃ Y, Y = ((w9.setCell ⟨gt, x1, none⟩ (.slice (some ⟨ga, 0, none⟩) 512 512)).setCell ⟨gt, x1, none⟩ (.slice (some ⟨ga, 0, none⟩) 512 512)).drew := ⟨_, rfl⟩
  have hwgt : w.heap.size ≤ gt := Nat.le_trans hw8 hgt
  have hbd : Below w9.heap.size w9 w9.drew := below_drewN _ 1
  have HBY : Hid (Below w.heap.size w Y) := by rw [hY]; exact Lib.hid (((HB9.out.setCell (p := ⟨gt, x1, none⟩) hwgt _).setCell (p := ⟨gt, x1, none⟩) hwgt _).trans (below_drewN _ 1))
  have RY : Hid (Rd Y (some ⟨gt, 0, none⟩) ((us9.set x1 (.slice (some ⟨ga, 0, none⟩) 512 512)).set x1 (.slice (some ⟨ga, 0, none⟩) 512 512))) := by
    obtain ⟨A', c', hqe, _, _, hrd, _⟩ := own_rd HQ9.out
    obtain ⟨rfl, rfl⟩ : some ⟨gt, 0, none⟩ = A' ∧ c9 = c' := by simpa using hqe
    have h1 := hrd.setCell x1 (.slice (some ⟨ga, 0, none⟩) 512 512)
    rw [Nat.zero_add] at h1
    have h2 := h1.setCell x1 (.slice (some ⟨ga, 0, none⟩) 512 512)
    rw [Nat.zero_add] at h2
    rw [hY]; exact Lib.hid (h2.kept (below_drewN _ 1))
  have hblk : ∀ g ∈ gs, Y.heap[g]? = w9.heap[g]? := by
    intro g hg
    have hgne := secs_not_own HS9.out HQ9.out g hg
    have hgn : g ≠ gt := by intro e; exact hgne (by rw [e]; rfl)
    rw [hY]
    first
      | exact (Below.heap_setCell _ _ _ _ hgn).trans (Below.heap_setCell _ _ _ _ hgn)
      | exact (Below.heap_setCell _ _ _ _ hgn.symm).trans (Below.heap_setCell _ _ _ _ hgn.symm)
  have RLY : Hid (RdL Y ((us9.set x1 (.slice (some ⟨ga, 0, none⟩) 512 512)).set x1 (.slice (some ⟨ga, 0, none⟩) 512 512)) (((recL s l).set x1 Lk).set x1 Li)) := by
    have h1 : Owns W8.heap.size Y us9 (recL s l) := by rw [hY]; exact (owns_2set HU9.out HQ9.out (gt := gt) rfl ⟨gt, x1, none⟩ ⟨gt, x1, none⟩ rfl rfl _ _).kept (below_drewN _ 1)
    have k1 := (hblk ga (List.mem_of_getElem? HGB.out)).trans (HS9.out.at_ x1 ga Lk HGB.out HLK.out).2
    have k0 := (hblk ga (List.mem_of_getElem? HGA.out)).trans (HS9.out.at_ x1 ga Li HGA.out HLI.out).2
    have m1 := HM.out Lk (List.mem_of_getElem? HLK.out)
    have m0 := HM.out Li (List.mem_of_getElem? HLI.out)
    exact Lib.hid (((h1.rdl (fun x hx => (HM.out x hx).2)).set x1 m1.1 (fun e => by cases e) (Nat.le_refl _) (rd_block k1) m1.2).set x1 m0.1 (fun e => by cases e) (Nat.le_refl _) (rd_block k0) m0.2)
  rw [← hY]
  clear hY hblk hbd z0 z1 y0 y1 q0 q1 K
  have q6 : (er2 == 0) = true := by rw [HE2.out]; rfl
  refine (C8.out _ c9 _ _ RY.out RLY.out).mono ?_
  rintro e wz ⟨⟨vz, rfl, hownz⟩, hbz⟩
  obtain ⟨Az, cz, rfl, hcz⟩ := own_sh hownz
  have HBz := Lib.hid (HBY.out.trans (hbz.mono HBY.out.size))
  clear hownz hbz
  go_wp2
  go_ret
  exact ⟨rfl, HBz.out⟩

set_option maxRecDepth 100000 in
set_option maxHeartbeats 4000000 in
theorem mixed_mEQ (s : Int) (A : Option Addr) (n c : Nat) (l : List Int) (o : Int) (B : Option Addr) (m d : Nat) (l2 : List Int) (x y : Int) (w : World) (hs : 0 < s ∧ s < 18446744073709551616) (ho : 0 < o ∧ o < 18446744073709551616)
    (hln : l.length = n) (hA : A = none → n = 0 ∧ c = 0) (hl : Rd w A (bys l)) (hB : IsB l) (hc : n ≤ c) (hn : n ≤ 4096)
    (hlm : l2.length = m) (hBB : B = none → m = 0 ∧ d = 0) (hl2 : Rd w B (bys l2)) (hB2 : IsB l2) (hd : m ≤ d) (hm : m ≤ 4096)
    (p0 p1 x0 x1 : Nat) (f0 : IntKind.u64.wrap x = (p0 : Int)) (f1 : IntKind.u64.wrap y = (p1 : Int)) (g0 : p0 < 18446744073709551616) (g1 : p1 < 18446744073709551616)
    (d0 : (p0 : Int).tmod (cnt n : Int) = (x0 : Int)) (d1 : (p1 : Int).tmod (cnt n : Int) = (x1 : Int)) (l0 : x0 < cnt n) (l1 : x1 < cnt n) (Li Lk Mx : List Int) (hLi : (recL s l)[x0]? = some Li) (hLk : (recL s l)[x1]? = some Lk)
    (er er2 : Int) (va : List Int) (her : readErr s (n : Int) ((recL s l).set x0 Mx) = er) (hva : readVal s (n : Int) ((recL s l).set x0 Mx) = va) (her2 : readErr s (n : Int) (((recL s l).set x0 Lk).set x1 Li) = er2) (hi : x0 < cnt m) (hMx : (recL o l2)[x0]? = some Mx) (hL : Mx ≠ Li) (he : er = 11) (hso : s ≠ o) (hx : x1 = x0) (he2 : er2 = 0) :
    Calls Try.prog 8 #[.int .u64 s, .slice A n c, .int .u64 o, .slice B m d, .int .i64 x, .int .i64 y] w fun e w' => e = .returned (.bool true) ∧ Below w.heap.size w w' := by
  subst hx
  have HE2 := Lib.hid he2
  clear he2
  have C1 := Lib.hid (write_ok s A n c l w hs hln hn hc hA hl hB)
  have C2 := Lib.hid (fun (w1 : World) (h : Rd w1 B (bys l2)) => write_ok o B m d l2 w1 ho hlm hm hd hBB h hB2)
  have C3 := Lib.hid (fun w => awake_any w)
  have hcp := cnt_pos hn
  have hcm := cnt_pos hm
  have hrl : (recL s l).length = cnt n := by rw [recL_length, hln]
  have hrm : (recL o l2).length = cnt m := by rw [recL_length, hlm]
  have hn' : l.length ≤ 4096 := by omega
  have hm' : l2.length ≤ 4096 := by omega
  have v0 : IntKind.i64.wrap (x1 : Int) = (x1 : Int) := IntWalk.i64_in _ (by omega)
  have v1 : IntKind.i64.wrap (x1 : Int) = (x1 : Int) := IntWalk.i64_in _ (by omega)
  have vk : IntKind.u64.wrap (cnt n : Int) = (cnt n : Int) := u64w (by omega)
  have HM := recL_mem (s := s) hB hn'
  have HM2 := recL_mem (s := o) hB2 hm'
  have C4 := Lib.hid (fun (A' : Option Addr) (c' : Nat) (vs : List Value) (w : World) (h : Rd w A' vs) (hL : RdL w vs (recL s l)) => copylists_any A' (cnt n) c' vs (recL s l) w (hL.1.trans hrl) h hL (by omega) (fun L hL => by have := (HM L hL).1; omega))
  have C5 := Lib.hid (fun (A' : Option Addr) (c' : Nat) (vs : List Value) (w : World) (h : Rd w A' vs) (hL : RdL w vs ((recL s l).set x1 Mx)) => read_any s (n : Int) A' (cnt n) c' vs ((recL s l).set x1 Mx) w (hL.1.trans (by rw [List.length_set, hrl])) h hL)
  rw [her, hva] at C5
  simp only [readAt] at C5
  have C8 := Lib.hid (fun (A' : Option Addr) (c' : Nat) (vs : List Value) (w : World) (h : Rd w A' vs) (hL : RdL w vs (((recL s l).set x1 Lk).set x1 Li)) => read_any s (n : Int) A' (cnt n) c' vs (((recL s l).set x1 Lk).set x1 Li) w (hL.1.trans (by rw [List.length_set, List.length_set, hrl])) h hL)
  rw [her2] at C8
  simp only [readAt] at C8
  generalize readVal s (n : Int) (((recL s l).set x1 Lk).set x1 Li) = va2 at C8
  have HVB : Hid (IsB va) := by
    rw [← hva]; refine Lib.hid (isB_readVal (fun x hx => ?_))
    rcases mem_set_or hx with h | rfl
    · exact (HM x h).2
    · exact (HM2 _ (List.mem_of_getElem? hMx)).2
  have HMIX := Lib.hid hMx
  have H_hL := Lib.hid hL
  have H_he := Lib.hid he
  have H_hso := Lib.hid hso
  clear hMx hL he hso

  have HM := Lib.hid HM
  have HM2 := Lib.hid HM2
  have HLI := Lib.hid hLi
  have HLK := Lib.hid hLk
  have HRL := Lib.hid hrl
  have HRM := Lib.hid hrm
  have HLN := Lib.hid hln
  clear hln hA hrl hrm hs ho hlm hBB hLi hLk her hva her2
  obtain ⟨k, hk⟩ : ∃ k, k = cnt n := ⟨_, rfl⟩
  rw [← hk] at hcp C1 C4 C5 C8 d0 d1 l0 l1 vk HRL
  obtain ⟨q, hq⟩ : ∃ q, q = cnt m := ⟨_, rfl⟩
  rw [← hq] at hcm C2 HRM hi
  clear hk hq
  have hk0 : (k : Int) ≠ 0 := by omega
  go_enter Try.func8, Try.ntmps8
  go_wp2_with fail
  refine C1.out.mono ?_
  rintro e w2 ⟨v2, gs, rfl, hown2, hS2, hb2⟩
  obtain ⟨go, c2, rfl, hgo, hc2⟩ := own_addr hown2 (by omega)
  have HO2 := Lib.hid hown2
  have HS2 := Lib.hid hS2
  have HB2 := Lib.hid hb2
  clear hown2 hS2 hb2
  go_wp2_with fail
  refine (C2.out _ (hl2.kept HB2.out)).mono ?_
  rintro e w3 ⟨v3, hs3, rfl, hown3, hS3, hb3⟩
  obtain ⟨gp, c3, rfl, hgp, hc3⟩ := own_addr hown3 (by omega)
  have HP3 := Lib.hid hown3
  have HT3 := Lib.hid hS3
  have HO3 := Lib.hid (own_kept HO2.out hb3)
  have HS3 := Lib.hid (HS2.out.kept hb3)
  have HB3 := Lib.hid (HB2.out.trans (hb3.mono HB2.out.size))
  have hw2 := HB2.out.size
  clear hown3 hS3 hb3 HO2 HS2 HB2
  go_wp2_with fail
  refine (C3.out _).mono ?_
  rintro e w4 ⟨rfl, hb4⟩
  have HP4 := Lib.hid (own_kept HP3.out hb4)
  have HT4 := Lib.hid (HT3.out.kept hb4)
  have HO4 := Lib.hid (own_kept HO3.out hb4)
  have HS4 := Lib.hid (HS3.out.kept hb4)
  have HB4 := Lib.hid (HB3.out.trans (hb4.mono HB3.out.size))
  clear hb4 HO3 HS3 HB3 HP3 HT3
  go_wp2_with fail
  go_quiet (fail)
  obtain ⟨W, hW⟩ : ∃ W, W = w4.drewN nq := ⟨_, rfl⟩
  have hbW : Below w4.heap.size w4 W := by rw [hW]; exact below_drewN _ _
  have HPW := Lib.hid (own_kept HP4.out hbW)
  have HTW := Lib.hid (HT4.out.kept hbW)
  have HOW := Lib.hid (own_kept HO4.out hbW)
  have HSW := Lib.hid (HS4.out.kept hbW)
  have HBW := Lib.hid (HB4.out.trans (hbW.mono HB4.out.size))
  rw [← hW]
  clear hbW hW HP4 HT4 HO4 HS4 HB4
  have RW : Hid (Rd W (some ⟨go, 0, none⟩) (gs.map secV)) := by
    obtain ⟨A', c', he, _, _, hrd, _⟩ := own_rd HOW.out
    obtain ⟨rfl, rfl⟩ : some ⟨go, 0, none⟩ = A' ∧ c2 = c' := by simpa using he
    exact Lib.hid hrd
  go_wp2_with fail
  refine (C4.out _ _ _ _ RW.out (HSW.out.rdl HM.out)).mono ?_
  rintro e w5 ⟨v5, us, rfl, hown5, hS5, hb5⟩
  obtain ⟨gm, c5, rfl, hgm, hc5⟩ := own_addr hown5 (by omega)
  have HQ5 := Lib.hid hown5
  have HU5 := Lib.hid hS5
  have HP5 := Lib.hid (own_kept HPW.out hb5)
  have HT5 := Lib.hid (HTW.out.kept hb5)
  have HO5 := Lib.hid (own_kept HOW.out hb5)
  have HS5 := Lib.hid (HSW.out.kept hb5)
  have HB5 := Lib.hid (HBW.out.trans (hb5.mono HBW.out.size))
  have hwW := HBW.out.size
  have hgoW : go < W.heap.size := (own_base' HOW.out _ rfl).2
  clear hown5 hS5 hb5 HPW HTW HOW HSW HBW RW
  have hjg : x1 < hs3.length := by rw [HT5.out.len, HRM.out]; exact hi
  have hP := HP5.out.cellAt x1 (by omega)
  rw [List.getElem?_map, List.getElem?_eq_getElem hjg] at hP
  simp only [Option.map_some, secV] at hP
  have hat := (HT5.out.at_ x1 hs3[x1] Mx (List.getElem?_eq_getElem hjg) HMIX.out).2
  have hul : us.length = k := by rw [HU5.out.1, HRL.out]
  have hQ := HQ5.out.cellAt x1 (by omega)
  rw [List.getElem?_eq_getElem (show x1 < us.length by omega)] at hQ
  have hF := HQ5.out.frozenAt x1
  have HAT := Lib.hid hat
  have hgo5 : go < gm := Nat.lt_of_lt_of_le hgoW hgm
  have b1 : (0 : Int) ≤ (x1 : Int) ∧ (x1 : Int) < (q : Int) := by omega
  have b2 : (x1 : Int) < (k : Int) := by omega
  have hx0q : (x1 : Int) < (q : Int) := by omega
  have HMX := Lib.hid (HM2.out Mx (List.mem_of_getElem? HMIX.out))
  clear hat
  generalize hs3[x1] = h at *
  generalize us[x1] = u0 at *
  obtain ⟨X, hX⟩ : ∃ X, X = w5.setCell ⟨gm, x1, none⟩ (.slice (some ⟨h, 0, none⟩) 512 512) := ⟨_, rfl⟩
  have HBX : Hid (Below w.heap.size w X) := by rw [hX]; exact Lib.hid (HB5.out.setCell (p := ⟨gm, x1, none⟩) (Nat.le_trans hwW hgm) _)
  have HOX : Hid (X.ownsRow w.heap.size 23 1 (.slice (some ⟨go, 0, none⟩) k c2) k (gs.map secV)) := by rw [hX]; exact Lib.hid (ownsRow_setCell_other HO5.out (a := ⟨gm, x1, none⟩) (by simp [Value.ownBlock]; omega) _)
  have HSX : Hid (Secs w.heap.size X gs (recL s l)) := by rw [hX]; exact Lib.hid (HS5.out.mv (fun g hg => Below.heap_setCell _ _ _ _ (fun e => secs_not_own HS5.out HQ5.out g hg (by first | (simp [Value.ownBlock, e]; done) | (simp [Value.ownBlock, ← e]; done)))))
  have HATX : Hid (X.heap[h]? = some (.cells (bys Mx).toArray 63 (0, 0))) := by
    rw [hX]
    refine Lib.hid ((Below.heap_setCell _ _ _ _ ?_).trans HAT.out)
    intro e
    have hh := HQ5.out.2
    rcases hh with ⟨e2, _⟩ | ⟨g', cap', cur', e2, _, h4, _⟩
    · simp at e2
    · simp at e2
      have h5 := HAT.out
      simp at e
      first
        | (rw [e, e2.1] at h5; rw [h4] at h5; simp at h5; done)
        | (rw [← e, e2.1] at h5; rw [h4] at h5; simp at h5; done)
  have HRX : Hid (Rd X (some ⟨gm, 0, none⟩) (us.set x1 (.slice (some ⟨h, 0, none⟩) 512 512))) := by
    obtain ⟨A', c', he, _, _, hrd, _⟩ := own_rd HQ5.out
    obtain ⟨rfl, rfl⟩ : some ⟨gm, 0, none⟩ = A' ∧ c5 = c' := by simpa using he
    have := hrd.setCell x1 (.slice (some ⟨h, 0, none⟩) 512 512)
    rw [Nat.zero_add] at this
    rw [hX]; exact Lib.hid this
  have HLX : Hid (RdL X (us.set x1 (.slice (some ⟨h, 0, none⟩) 512 512)) ((recL s l).set x1 Mx)) := by
    have h1 : Owns W.heap.size X us (recL s l) := by rw [hX]; exact own_not_owns HU5.out HQ5.out (go := gm) rfl _ rfl _
    exact Lib.hid ((h1.rdl (fun x hx => (HM.out x hx).2)).set x1 HMX.out.1 (fun e => by cases e) (Nat.le_refl _) (rd_block HATX.out) HMX.out.2)
  have hcm0 : X.cell? ⟨gm, x1, none⟩ = some (.slice (some ⟨h, 0, none⟩) 512 512) := by
    obtain ⟨b, o, e, h3⟩ := HRX.out x1 _ (show (us.set x1 (.slice (some ⟨h, 0, none⟩) 512 512))[x1]? = some (Value.slice (some ⟨h, 0, none⟩) 512 512) by rw [List.getElem?_set, if_pos rfl, if_pos (by omega)])
    simp at e; rw [← e.1, ← e.2, Nat.zero_add] at h3; exact h3
  have HRMX := Lib.hid (rd_block HATX.out)
  have hgX : gm < X.heap.size := by rw [hX]; simp [World.setCell]; exact (own_base' HQ5.out _ rfl).2
  have HCM0 := Lib.hid hcm0
  clear hcm0 HATX HAT
  go_wp2_with fail
  rw [← hX]
  clear hX hP hF
  clear hQ
  refine (C5.out _ c5 _ _ HRX.out HLX.out).mono ?_
  rintro e w7 ⟨⟨v7, rfl, hown7⟩, hb7⟩
  obtain ⟨A7, c7, rfl, hc7, _, hrd7, _⟩ := own_rd hown7
  have HR7 := Lib.hid hrd7
  have HO7 := Lib.hid (own_kept HOX.out hb7)
  have HS7 := Lib.hid (HSX.out.kept hb7)
  have HB7 := Lib.hid (HBX.out.trans (hb7.mono HBX.out.size))
  have hcm7 := (hb7.cell (p := ⟨gm, x1, none⟩) hgX).trans HCM0.out
  have HM7 := Lib.hid (HRMX.out.kept hb7)
  have hjgs : x1 < gs.length := by rw [HS7.out.len, HRL.out]; exact l0
  have hl7 := HO7.out.cellAt x1 (by omega)
  rw [List.getElem?_map, List.getElem?_eq_getElem hjgs] at hl7
  simp only [Option.map_some, secV] at hl7
  have HAT0 := Lib.hid (HS7.out.at_ x1 gs[x1] Li (List.getElem?_eq_getElem hjgs) HLI.out).2
  have HGA := Lib.hid (List.getElem?_eq_getElem hjgs)
  have HLB := Lib.hid (HM.out Li (List.mem_of_getElem? HLI.out))
  generalize gs[x1] = ga at *
  have B1 := fun (W' : World) (hb : Below w7.heap.size w7 W') => bytes_any (some ⟨h, 0, none⟩) 512 512 Mx (some ⟨ga, 0, none⟩) 512 512 Li W' HMX.out.1 HLB.out.1 (HM7.out.kept hb) ((rd_block HAT0.out).kept hb) HMX.out.2 HLB.out.2
  have B2 := fun (W' : World) (hb : Below w7.heap.size w7 W') => bytes_any A7 va.length c7 va A n c l W' rfl HLN.out (HR7.out.kept hb) ((hl.kept HB7.out).kept hb) HVB.out hB
  have hd1 : decide (Mx = Li) = false := by simpa using H_hL.out
  simp only [hd1] at B1
  have hz : (er == 0) = false := by rw [H_he.out]; rfl
  have hz2 : (er != 11) = false := by rw [H_he.out]; rfl
  have hso2 : (s != o) = true := bne_iff_ne.2 H_hso.out
  clear hd1
  have CB1 := Lib.hid B1
  have CB2 := Lib.hid B2
  have b3 : (0 : Int) ≤ (x1 : Int) ∧ (x1 : Int) < (k : Int) := by omega
  clear B1 B2 hown7 hb7 hrd7 hjgs HRX HLX HOX HSX HBX hc7
  go_wp2_with fail
  go_quiet (first
    | (go_at_call 24; exact qsame (CB1.out _ (Below.refl _ _ |>.trans (below_drewN _ _))))
    | (go_at_call 24; exact qsame (CB2.out _ (Below.refl _ _ |>.trans (below_drewN _ _)))))
  generalize hW8 : w7.drewN _ = W8
  have hbW8 : Below w7.heap.size w7 W8 := by rw [← hW8]; exact below_drewN _ _
  have HO8 := Lib.hid (own_kept HO7.out hbW8)
  have HS8 := Lib.hid (HS7.out.kept hbW8)
  have HB8 := Lib.hid (HB7.out.trans (hbW8.mono HB7.out.size))
  clear hW8 hbW8 HO7 HS7 HB7 hcm7 hl7 CB1 CB2 HM7 HR7 HAT0
  have RW8 : Hid (Rd W8 (some ⟨go, 0, none⟩) (gs.map secV)) := by
    obtain ⟨A', c', hqe, _, _, hrd, _⟩ := own_rd HO8.out
    obtain ⟨rfl, rfl⟩ : some ⟨go, 0, none⟩ = A' ∧ c2 = c' := by simpa using hqe
    exact Lib.hid hrd
  go_wp2_with fail
  refine (C4.out _ _ _ _ RW8.out (HS8.out.rdl HM.out)).mono ?_
  rintro e w9 ⟨v9, us9, rfl, hown9, hS9, hb9⟩
  obtain ⟨gt, c9, rfl, hgt, hc9⟩ := own_addr hown9 (by omega)
  have HQ9 := Lib.hid hown9
  have HU9 := Lib.hid hS9
  have HO9 := Lib.hid (own_kept HO8.out hb9)
  have HS9 := Lib.hid (HS8.out.kept hb9)
  have HB9 := Lib.hid (HB8.out.trans (hb9.mono HB8.out.size))
  have hgo8 : go < W8.heap.size := (own_base' HO8.out _ rfl).2
  have hw8 := HB8.out.size
  have hgogt : go < gt := Nat.lt_of_lt_of_le hgo8 hgt
  have hul9 : us9.length = k := by rw [HU9.out.1, HRL.out]
  have hgl9 : gs.length = k := by rw [HS9.out.len, HRL.out]
  obtain ⟨gb, hgb⟩ : ∃ gb, gs[x1]? = some gb := ⟨_, List.getElem?_eq_getElem (by omega)⟩
  obtain rfl : ga = gb := by have hq := HGA.out.symm.trans hgb; simpa using hq
  obtain ⟨t0, ht0⟩ : ∃ t, us9[x1]? = some t := ⟨_, List.getElem?_eq_getElem (by omega)⟩
  obtain ⟨t1, ht1⟩ : ∃ t, us9[x1]? = some t := ⟨_, List.getElem?_eq_getElem (by omega)⟩
  have z0 := HO9.out.cellAt x1 (by omega)
  have z1 := HO9.out.cellAt x1 (by omega)
  rw [List.getElem?_map, HGA.out] at z0
  rw [List.getElem?_map, hgb] at z1
  simp only [Option.map_some, secV] at z0 z1
  have y0 := HQ9.out.cellAt x1 (by omega)
  have y1 := HQ9.out.cellAt x1 (by omega)
  rw [ht0] at y0
  rw [ht1] at y1
  have q0 := HQ9.out.frozenAt x1
  have q1 := HQ9.out.frozenAt x1
  have HGB := Lib.hid hgb
  have b4 : (0 : Int) ≤ (x1 : Int) ∧ (x1 : Int) < (k : Int) := by omega
  have HT := HU9.out.rdl (fun x hx => (HM.out x hx).2)
  clear hown9 hS9 hb9 RW8 HO8 HS8 HB8 hgb ht0 ht1
  have K := Lib.hid (fun (w' : World) (h : w'.heap[go]? = w9.heap[go]?) => (⟨(World.cell?_of_block (w := w9) (a := ⟨go, x1, none⟩) h).trans z0, (World.cell?_of_block (w := w9) (a := ⟨go, x1, none⟩) h).trans z1⟩ :
    w'.cell? ⟨go, x1, none⟩ = some (.slice (some ⟨ga, 0, none⟩) 512 512) ∧ w'.cell? ⟨go, x1, none⟩ = some (.slice (some ⟨ga, 0, none⟩) 512 512)))
  have hne : go ≠ gt := by omega
  go_wp2_with fail
  go_region_held3 (fun w' => w'.cell? ⟨go, x1, none⟩ = some (.slice (some ⟨ga, 0, none⟩) 512 512) ∧ w'.cell? ⟨go, x1, none⟩ = some (.slice (some ⟨ga, 0, none⟩) 512 512))
    (first
      | exact K.out _ rfl
      | exact K.out _ (Below.heap_setCell _ _ _ _ hne)
      | exact K.out _ ((Below.heap_setCell _ _ _ _ hne).trans (Below.heap_setCell _ _ _ _ hne))
      | exact K.out _ (Below.heap_setCell _ _ _ _ hne.symm)
      | exact K.out _ ((Below.heap_setCell _ _ _ _ hne.symm).trans (Below.heap_setCell _ _ _ _ hne.symm)))
    ((fail))
  go_wp2_with fail
  obtain ⟨Y, hY⟩ : ∃ Y, Y = ((w9.setCell ⟨gt, x1, none⟩ (.slice (some ⟨ga, 0, none⟩) 512 512)).setCell ⟨gt, x1, none⟩ (.slice (some ⟨ga, 0, none⟩) 512 512)).drew := ⟨_, rfl⟩
  have hwgt : w.heap.size ≤ gt := Nat.le_trans hw8 hgt
  have hbd : Below w9.heap.size w9 w9.drew := below_drewN _ 1
  have HBY : Hid (Below w.heap.size w Y) := by rw [hY]; exact Lib.hid (((HB9.out.setCell (p := ⟨gt, x1, none⟩) hwgt _).setCell (p := ⟨gt, x1, none⟩) hwgt _).trans (below_drewN _ 1))
  have RY : Hid (Rd Y (some ⟨gt, 0, none⟩) ((us9.set x1 (.slice (some ⟨ga, 0, none⟩) 512 512)).set x1 (.slice (some ⟨ga, 0, none⟩) 512 512))) := by
    obtain ⟨A', c', hqe, _, _, hrd, _⟩ := own_rd HQ9.out
    obtain ⟨rfl, rfl⟩ : some ⟨gt, 0, none⟩ = A' ∧ c9 = c' := by simpa using hqe
    have h1 := hrd.setCell x1 (.slice (some ⟨ga, 0, none⟩) 512 512)
    rw [Nat.zero_add] at h1
    have h2 := h1.setCell x1 (.slice (some ⟨ga, 0, none⟩) 512 512)
    rw [Nat.zero_add] at h2
    rw [hY]; exact Lib.hid (h2.kept (below_drewN _ 1))
  have hblk : ∀ g ∈ gs, Y.heap[g]? = w9.heap[g]? := by
    intro g hg
    have hgne := secs_not_own HS9.out HQ9.out g hg
    have hgn : g ≠ gt := by intro e; exact hgne (by rw [e]; rfl)
    rw [hY]
    first
      | exact (Below.heap_setCell _ _ _ _ hgn).trans (Below.heap_setCell _ _ _ _ hgn)
      | exact (Below.heap_setCell _ _ _ _ hgn.symm).trans (Below.heap_setCell _ _ _ _ hgn.symm)
  have RLY : Hid (RdL Y ((us9.set x1 (.slice (some ⟨ga, 0, none⟩) 512 512)).set x1 (.slice (some ⟨ga, 0, none⟩) 512 512)) (((recL s l).set x1 Lk).set x1 Li)) := by
    have h1 : Owns W8.heap.size Y us9 (recL s l) := by rw [hY]; exact (owns_2set HU9.out HQ9.out (gt := gt) rfl ⟨gt, x1, none⟩ ⟨gt, x1, none⟩ rfl rfl _ _).kept (below_drewN _ 1)
    have k1 := (hblk ga (List.mem_of_getElem? HGB.out)).trans (HS9.out.at_ x1 ga Lk HGB.out HLK.out).2
    have k0 := (hblk ga (List.mem_of_getElem? HGA.out)).trans (HS9.out.at_ x1 ga Li HGA.out HLI.out).2
    have m1 := HM.out Lk (List.mem_of_getElem? HLK.out)
    have m0 := HM.out Li (List.mem_of_getElem? HLI.out)
    exact Lib.hid (((h1.rdl (fun x hx => (HM.out x hx).2)).set x1 m1.1 (fun e => by cases e) (Nat.le_refl _) (rd_block k1) m1.2).set x1 m0.1 (fun e => by cases e) (Nat.le_refl _) (rd_block k0) m0.2)
  rw [← hY]
  clear hY hblk hbd z0 z1 y0 y1 q0 q1 K
  have q6 : (er2 == 0) = true := by rw [HE2.out]; rfl
  refine (C8.out _ c9 _ _ RY.out RLY.out).mono ?_
  rintro e wz ⟨⟨vz, rfl, hownz⟩, hbz⟩
  obtain ⟨Az, cz, rfl, hcz⟩ := own_sh hownz
  have HBz := Lib.hid (HBY.out.trans (hbz.mono HBY.out.size))
  clear hownz hbz
  go_wp2
  go_ret
  exact ⟨rfl, HBz.out⟩

end Go.Proofs.Ytdgciajdnmgcnaa
