/- Contracts: dunnagehelp.CopyBytes, dunnageref21.Part; whatever is handed in. -/
import Derived.Test.YtdgciajdnmgcnaaRecPart
namespace Go.Proofs.Ytdgciajdnmgcnaa
open Go.RowKit
set_option linter.unusedVariables false

set_option maxHeartbeats 2000000 in
theorem copybytes_any (A : Option Addr) (n c : Nat) (l : List Int) (w : World) (hn : l.length = n) (hA : A = none → n = 0 ∧ c = 0) (h : Rd w A (bys l)) (hnb : n ≤ 140737488355328) :
    Calls Try.prog 34 #[.slice A n c] w fun e w' => ∃ v, e = .returned v ∧ w'.ownsRow w.heap.size 5 1 v n (bys l) ∧ Below w.heap.size w w' := by
  have HN := Lib.hid hn
  clear hn
  go_enter Try.func34, Try.ntmps34
  go_wp2_with (at_builtin; go_must (refine wpList_append_rd rfl _ _ 23 rfl w.heap.size 5 (.int .u8 0) 1 1 Try.underlying23 infoU8 rfl (by decide) _ 0 [] rfl (World.ownsRow_nil _ _ _ _) A n c (bys l) rfl hA (by rw [bys_length, HN.out]; omega) h (bys_one l) (by unfold maxLen; omega) (by omega) (Nat.le_refl _) ?_))
  intro v8 w8 hown8 hg8
  have hb8 := below_app (Below.refl _ w) (Nat.le_refl _) (World.ownsRow_nil w w.heap.size 5 1) hg8
  have hown9 : w8.ownsRow w.heap.size 5 1 v8 n (bys l) := by simpa using hown8
  go_wp2
  go_ret
  exact ⟨v8, rfl, hown9, hb8⟩
theorem cell_4set {w : World} {b o B : Nat} (h : b ≠ B) {x y z u : Value} : ((((w.setCell ⟨B, 0, none⟩ x).setCell ⟨B, 1, none⟩ y).setCell ⟨B, 2, none⟩ z).setCell ⟨B, 3, none⟩ u).cell? ⟨b, o, none⟩ = w.cell? ⟨b, o, none⟩ := by
  apply World.cell?_of_block
  show _ = w.heap[b]?
  rw [Below.heap_setCell _ _ _ _ (by simp; omega), Below.heap_setCell _ _ _ _ (by simp; omega), Below.heap_setCell _ _ _ _ (by simp; omega), Below.heap_setCell _ _ _ _ (by simp; omega)]
theorem mayB_iff {t a b : Int} {n : Nat} : mayB t a b n = true ↔ (t ≠ 0 ∧ ¬ 9 < b ∧ ¬ b ≤ a ∧ ((a < b - 1 ∧ n = 480) ∨ (¬ a < b - 1 ∧ n ≤ 480 ∧ (0 < n ∨ b = 1)))) := by
  unfold mayB
  by_cases h : a < b - 1
  · simp [h]; omega
  · simp [h]; omega

set_option maxRecDepth 100000 in
set_option maxHeartbeats 4000000 in
theorem refpart_err (A : Option Addr) (n c : Nat) (l : List Int) (w : World) (hn : l.length = n) (h : Rd w A (bys l)) (hI : IsB l) (hnc : n ≤ c) (he : (sec l).err ≠ 0) :
    Calls Try.prog 19 #[.slice A n c] w fun e w' => partAt e w.heap.size w' (frm l) ∧ Below w.heap.size w w' := by
  have hf : frm l = ⟨0, 0, 0, [], (sec l).err⟩ := frm_err he
  have HF := Lib.hid hf
  have C1 := Lib.hid (refopen_any A n c l _ hn (h.kept (ZF.init w).2) hI hnc)
  have hb0 := Lib.hid (ZF.init w)
  obtain ⟨r1, r2, r3, r4⟩ := sec_range hI
  have e1 : ((sec l).err != 0) = true := bne_iff_ne.2 he
  clear hf h hn hI
  go_enter Try.func19, Try.ntmps19
  go_wp2_with fail
  refine C1.out.mono ?_
  rintro e w1 ⟨⟨v1, rfl, hown1⟩, hb1⟩
  have HB1 := Lib.hid ((hb0.out.step hb1).step ((Below.refl _ w1).alloc (Nat.le_refl _) (.cells #[.int .u8 (sec l).kind, .int .u64 (sec l).turn, v1] 56)))
  have hs1 : w.heap.size + 1 ≤ w1.heap.size := by have := hb1.size; simpa using this
  obtain ⟨A1, c1, rfl, hc1⟩ := own_sh hown1
  obtain ⟨k0, k1, k2, k3, f0, f1, f2, f3⟩ := HB1.out.cells
  clear hown1 hb1 he r1 r2 r3 r4
  go_wp2
  refine bodyPost_ret (v := .tuple #[.agg #[.int .u64 0, .int .u64 0, .int .i64 0, .slice none 0 0], .int .i64 (sec l).err]) (by simp [results, Try.results19, go_sem, k0, k1, k2, k3]) rfl ⟨by rw [HF.out]; exact partAt_blank rfl, ?_⟩
  exact HB1.out.stored _ _ _ _

set_option maxRecDepth 100000 in
set_option maxHeartbeats 4000000 in
theorem refpart_kind (A : Option Addr) (n c : Nat) (l : List Int) (w : World) (hn : l.length = n) (h : Rd w A (bys l)) (hI : IsB l) (hnc : n ≤ c) (he : (sec l).err = 0) (hk : (sec l).kind ≠ 113) :
    Calls Try.prog 19 #[.slice A n c] w fun e w' => partAt e w.heap.size w' (frm l) ∧ Below w.heap.size w w' := by
  have hf : frm l = ⟨0, 0, 0, [], 11⟩ := frm_bad he (.inl hk)
  have HF := Lib.hid hf
  have C1 := Lib.hid (refopen_any A n c l _ hn (h.kept (ZF.init w).2) hI hnc)
  have hb0 := Lib.hid (ZF.init w)
  obtain ⟨r1, r2, r3, r4⟩ := sec_range hI
  have e1 : ((sec l).err != 0) = false := by simpa using he
  have e2 : ((sec l).kind != 113) = true := bne_iff_ne.2 hk
  clear hf h hn hI
  go_enter Try.func19, Try.ntmps19
  go_wp2_with fail
  refine C1.out.mono ?_
  rintro e w1 ⟨⟨v1, rfl, hown1⟩, hb1⟩
  have HB1 := Lib.hid ((hb0.out.step hb1).step ((Below.refl _ w1).alloc (Nat.le_refl _) (.cells #[.int .u8 (sec l).kind, .int .u64 (sec l).turn, v1] 56)))
  have hs1 : w.heap.size + 1 ≤ w1.heap.size := by have := hb1.size; simpa using this
  obtain ⟨A1, c1, rfl, hc1⟩ := own_sh hown1
  have BL1 := heap_alloc_new w1 (.cells #[.int .u8 (sec l).kind, .int .u64 (sec l).turn, .slice A1 (sec l).pay.length c1] 56)
  have x0 := block_cell (L := [.int .u8 (sec l).kind, .int .u64 (sec l).turn, .slice A1 (sec l).pay.length c1]) BL1 0
  have x1 := block_cell (L := [.int .u8 (sec l).kind, .int .u64 (sec l).turn, .slice A1 (sec l).pay.length c1]) BL1 1
  have x2 := block_cell (L := [.int .u8 (sec l).kind, .int .u64 (sec l).turn, .slice A1 (sec l).pay.length c1]) BL1 2
  obtain ⟨k0, k1, k2, k3, f0, f1, f2, f3⟩ := HB1.out.cells
  clear hown1 hb1 BL1 he hk r1 r2 r3 r4
  go_wp2
  refine bodyPost_ret (v := .tuple #[.agg #[.int .u64 0, .int .u64 0, .int .i64 0, .slice none 0 0], .int .i64 11]) (by simp [results, Try.results19, go_sem, k0, k1, k2, k3]) rfl ⟨by rw [HF.out]; exact partAt_blank rfl, ?_⟩
  exact HB1.out.stored _ _ _ _

set_option maxRecDepth 100000 in
set_option maxHeartbeats 4000000 in
theorem refpart_turn (A : Option Addr) (n c : Nat) (l : List Int) (w : World) (hn : l.length = n) (h : Rd w A (bys l)) (hI : IsB l) (hnc : n ≤ c) (he : (sec l).err = 0) (hk : (sec l).kind = 113) (ht : (sec l).turn = 0) :
    Calls Try.prog 19 #[.slice A n c] w fun e w' => partAt e w.heap.size w' (frm l) ∧ Below w.heap.size w w' := by
  have hf : frm l = ⟨0, 0, 0, [], 11⟩ := frm_bad he (.inr (.inr (by simp [mayB, ht])))
  have HF := Lib.hid hf
  have C1 := Lib.hid (refopen_any A n c l _ hn (h.kept (ZF.init w).2) hI hnc)
  have hb0 := Lib.hid (ZF.init w)
  obtain ⟨r1, r2, r3, r4⟩ := sec_range hI
  have e1 : ((sec l).err != 0) = false := by simpa using he
  have e2 : ((sec l).kind != 113) = false := by simp [hk]
  have e3 : ((sec l).turn == 0) = true := by simpa using ht
  clear hf h hn hI
  go_enter Try.func19, Try.ntmps19
  go_wp2_with fail
  refine C1.out.mono ?_
  rintro e w1 ⟨⟨v1, rfl, hown1⟩, hb1⟩
  have HB1 := Lib.hid ((hb0.out.step hb1).step ((Below.refl _ w1).alloc (Nat.le_refl _) (.cells #[.int .u8 (sec l).kind, .int .u64 (sec l).turn, v1] 56)))
  have hs1 : w.heap.size + 1 ≤ w1.heap.size := by have := hb1.size; simpa using this
  obtain ⟨A1, c1, rfl, hc1⟩ := own_sh hown1
  have BL1 := heap_alloc_new w1 (.cells #[.int .u8 (sec l).kind, .int .u64 (sec l).turn, .slice A1 (sec l).pay.length c1] 56)
  have x0 := block_cell (L := [.int .u8 (sec l).kind, .int .u64 (sec l).turn, .slice A1 (sec l).pay.length c1]) BL1 0
  have x1 := block_cell (L := [.int .u8 (sec l).kind, .int .u64 (sec l).turn, .slice A1 (sec l).pay.length c1]) BL1 1
  have x2 := block_cell (L := [.int .u8 (sec l).kind, .int .u64 (sec l).turn, .slice A1 (sec l).pay.length c1]) BL1 2
  obtain ⟨k0, k1, k2, k3, f0, f1, f2, f3⟩ := HB1.out.cells
  clear hown1 hb1 BL1 he hk ht r1 r2 r3 r4
  go_wp2
  refine bodyPost_ret (v := .tuple #[.agg #[.int .u64 0, .int .u64 0, .int .i64 0, .slice none 0 0], .int .i64 11]) (by simp [results, Try.results19, go_sem, k0, k1, k2, k3]) rfl ⟨by rw [HF.out]; exact partAt_blank rfl, ?_⟩
  exact HB1.out.stored _ _ _ _

set_option maxRecDepth 100000 in
set_option maxHeartbeats 4000000 in
theorem refpart_short (A : Option Addr) (n c : Nat) (l : List Int) (w : World) (hn : l.length = n) (h : Rd w A (bys l)) (hI : IsB l) (hnc : n ≤ c) (he : (sec l).err = 0) (hk : (sec l).kind = 113) (ht : (sec l).turn ≠ 0) (hp : (sec l).pay.length < 2) :
    Calls Try.prog 19 #[.slice A n c] w fun e w' => partAt e w.heap.size w' (frm l) ∧ Below w.heap.size w w' := by
  have hf : frm l = ⟨0, 0, 0, [], 11⟩ := frm_bad he (.inr (.inl hp))
  have HF := Lib.hid hf
  have C1 := Lib.hid (refopen_any A n c l _ hn (h.kept (ZF.init w).2) hI hnc)
  have hb0 := Lib.hid (ZF.init w)
  obtain ⟨r1, r2, r3, r4⟩ := sec_range hI
  have e1 : ((sec l).err != 0) = false := by simpa using he
  have e2 : ((sec l).kind != 113) = false := by simp [hk]
  have e3 : ((sec l).turn == 0) = false := by simpa using ht
  have e4 : ((sec l).pay.length : Int) < 2 := by omega
  clear hf h hn hI
  go_enter Try.func19, Try.ntmps19
  go_wp2_with fail
  refine C1.out.mono ?_
  rintro e w1 ⟨⟨v1, rfl, hown1⟩, hb1⟩
  have HB1 := Lib.hid ((hb0.out.step hb1).step ((Below.refl _ w1).alloc (Nat.le_refl _) (.cells #[.int .u8 (sec l).kind, .int .u64 (sec l).turn, v1] 56)))
  have hs1 : w.heap.size + 1 ≤ w1.heap.size := by have := hb1.size; simpa using this
  obtain ⟨A1, c1, rfl, hc1⟩ := own_sh hown1
  have BL1 := heap_alloc_new w1 (.cells #[.int .u8 (sec l).kind, .int .u64 (sec l).turn, .slice A1 (sec l).pay.length c1] 56)
  have x0 := block_cell (L := [.int .u8 (sec l).kind, .int .u64 (sec l).turn, .slice A1 (sec l).pay.length c1]) BL1 0
  have x1 := block_cell (L := [.int .u8 (sec l).kind, .int .u64 (sec l).turn, .slice A1 (sec l).pay.length c1]) BL1 1
  have x2 := block_cell (L := [.int .u8 (sec l).kind, .int .u64 (sec l).turn, .slice A1 (sec l).pay.length c1]) BL1 2
  obtain ⟨k0, k1, k2, k3, f0, f1, f2, f3⟩ := HB1.out.cells
  clear hown1 hb1 BL1 he hk ht hp r1 r2 r3 r4
  go_wp2
  refine bodyPost_ret (v := .tuple #[.agg #[.int .u64 0, .int .u64 0, .int .i64 0, .slice none 0 0], .int .i64 11]) (by simp [results, Try.results19, go_sem, k0, k1, k2, k3]) rfl ⟨by rw [HF.out]; exact partAt_blank rfl, ?_⟩
  exact HB1.out.stored _ _ _ _

set_option maxRecDepth 100000 in
set_option maxHeartbeats 4000000 in
theorem refpart_of (A : Option Addr) (n c : Nat) (l : List Int) (w : World) (hn : l.length = n) (h : Rd w A (bys l)) (hI : IsB l) (hnc : n ≤ c) (he : (sec l).err = 0) (hk : (sec l).kind = 113) (ht : (sec l).turn ≠ 0) (hp : 2 ≤ (sec l).pay.length) (h1 : 9 < (bat (sec l).pay 1)) :
    Calls Try.prog 19 #[.slice A n c] w fun e w' => partAt e w.heap.size w' (frm l) ∧ Below w.heap.size w w' := by
  have hf : frm l = ⟨0, 0, 0, [], 11⟩ := frm_bad he (.inr (.inr (by rw [← Bool.not_eq_true, mayB_iff, List.length_drop]; omega)))
  have HF := Lib.hid hf
  have C1 := Lib.hid (refopen_any A n c l _ hn (h.kept (ZF.init w).2) hI hnc)
  have hb0 := Lib.hid (ZF.init w)
  obtain ⟨r1, r2, r3, r4⟩ := sec_range hI
  have e1 : ((sec l).err != 0) = false := by simpa using he
  have e2 : ((sec l).kind != 113) = false := by simp [hk]
  have e3 : ((sec l).turn == 0) = false := by simpa using ht
  clear hf h hn hI
  go_enter Try.func19, Try.ntmps19
  go_wp2_with fail
  refine C1.out.mono ?_
  rintro e w1 ⟨⟨v1, rfl, hown1⟩, hb1⟩
  have HB1 := Lib.hid ((hb0.out.step hb1).step ((Below.refl _ w1).alloc (Nat.le_refl _) (.cells #[.int .u8 (sec l).kind, .int .u64 (sec l).turn, v1] 56)))
  have hs1 : w.heap.size + 1 ≤ w1.heap.size := by have := hb1.size; simpa using this
  obtain ⟨g, c1, rfl, hgb, hc1⟩ := own_addr1 hown1 (by omega)
  have hc0 := hown1.cellAt 0 (by omega)
  have hc1' := hown1.cellAt 1 (by omega)
  rw [bys_getElem?] at hc0 hc1'
  rw [List.getElem?_eq_getElem (show 0 < (sec l).pay.length by omega)] at hc0
  rw [List.getElem?_eq_getElem (show 1 < (sec l).pay.length by omega)] at hc1'
  rw [show ((sec l).pay)[0] = bat (sec l).pay 0 by simp [bat, List.getD_eq_getElem?_getD, List.getElem?_eq_getElem (show 0 < (sec l).pay.length by omega)]] at hc0
  rw [show ((sec l).pay)[1] = bat (sec l).pay 1 by simp [bat, List.getD_eq_getElem?_getD, List.getElem?_eq_getElem (show 1 < (sec l).pay.length by omega)]] at hc1'
  simp only [Option.map_some] at hc0 hc1'
  have BL1 := heap_alloc_new w1 (.cells #[.int .u8 (sec l).kind, .int .u64 (sec l).turn, .slice (some ⟨g, 0, none⟩) (sec l).pay.length c1] 56)
  have x0 := block_cell (L := [.int .u8 (sec l).kind, .int .u64 (sec l).turn, .slice (some ⟨g, 0, none⟩) (sec l).pay.length c1]) BL1 0
  have x1 := block_cell (L := [.int .u8 (sec l).kind, .int .u64 (sec l).turn, .slice (some ⟨g, 0, none⟩) (sec l).pay.length c1]) BL1 1
  have x2 := block_cell (L := [.int .u8 (sec l).kind, .int .u64 (sec l).turn, .slice (some ⟨g, 0, none⟩) (sec l).pay.length c1]) BL1 2
  have hba : Below w1.heap.size w1 (w1.alloc (.cells #[.int .u8 (sec l).kind, .int .u64 (sec l).turn, .slice (some ⟨g, 0, none⟩) (sec l).pay.length c1] 56)) := (Below.refl _ w1).alloc (Nat.le_refl _) _
  have y0 := hba.cell (p := ⟨g, 0, none⟩) (own_base' hown1 _ rfl).2 |>.trans hc0
  have y1 := hba.cell (p := ⟨g, 1, none⟩) (own_base' hown1 _ rfl).2 |>.trans hc1'
  have HO1 := Lib.hid (own_kept hown1 hba)
  have a0 := bat_range r3 0
  have a1 := bat_range r3 1
  have ew : IntKind.i64.wrap (bat (sec l).pay 0) = bat (sec l).pay 0 := IntWalk.i64_in _ (by omega)
  have ei : IntKind.i64.wrap (bat (sec l).pay 1) = bat (sec l).pay 1 := IntWalk.i64_in _ (by omega)
  have ep : IntKind.i64.wrap (bat (sec l).pay 0 + 1) = bat (sec l).pay 0 + 1 := IntWalk.i64_in _ (by omega)
  have eu : IntKind.u64.wrap (bat (sec l).pay 0) = bat (sec l).pay 0 := by rw [IntKind.wrap_u64]; omega
  have hcut := run_cutL (P := Try.prog) Try.underlying23 sizeU8 (some ⟨g, 0, none⟩) (sec l).pay.length c1 hp hc1
  have b0 : 0 < (sec l).pay.length := by omega
  have b1 : (1 : Int) < ((sec l).pay.length : Int) := by omega
  have b2 : ¬ ((sec l).pay.length : Int) < 2 := by omega
  have hq1 := (own_tail HO1.out hp).2.2.1
  have hq2 : cutB (some ⟨g, 0, none⟩) 2 c1 = none → (sec l).pay.length - 2 = 0 ∧ c1 - 2 = 0 := by
    intro e; unfold cutB at e; split at e
    · simp at e
    · simp at e
  have hpd : ((sec l).pay.drop 2).length = (sec l).pay.length - 2 := by simp
  obtain ⟨D, hD⟩ : ∃ D, D = cutB (some ⟨g, 0, none⟩) 2 c1 := ⟨_, rfl⟩
  rw [← hD] at hcut hq1 hq2
  obtain ⟨m, hm2⟩ : ∃ m, m = (sec l).pay.length - 2 := ⟨_, rfl⟩
  rw [← hm2] at hcut hpd hq2
  obtain ⟨d, hd2⟩ : ∃ d, d = c1 - 2 := ⟨_, rfl⟩
  rw [← hd2] at hcut hq2
  obtain ⟨pl, hpl⟩ : ∃ pl, pl = (sec l).pay.drop 2 := ⟨_, rfl⟩
  have HPL := Lib.hid hpl
  rw [← hpl] at hpd hq1
  have HPD := Lib.hid hpd
  have HQ1 := Lib.hid hq1
  have HQ2 := Lib.hid hq2
  have hm496 : m ≤ 496 := by omega
  clear hc0 hc1' BL1 hba hown1 hb1 a0 a1 he hk r1 r2 r3 r4 ht hD hm2 hd2 hpl hpd hq1 hq2
  go_wp2_with fail
  go_quiet (fail)
  obtain ⟨W, hW⟩ : ∃ W, W = (w1.alloc (.cells #[.int .u8 (sec l).kind, .int .u64 (sec l).turn, .slice (some ⟨g, 0, none⟩) (sec l).pay.length c1] 56)).drewN nq := ⟨_, rfl⟩
  have hWs : w1.heap.size < W.heap.size := by rw [hW]; show w1.heap.size < (w1.alloc (.cells #[.int .u8 (sec l).kind, .int .u64 (sec l).turn, .slice (some ⟨g, 0, none⟩) (sec l).pay.length c1] 56)).heap.size; simp
  have HBW : Hid (ZF w W) := by rw [hW]; exact Lib.hid (HB1.out.drewN _)
  have xt : W.cell? ⟨w1.heap.size, 1, none⟩ = some (.int .u64 (sec l).turn) := by rw [hW]; exact x1
  have HRW : Hid (Rd W D (bys pl)) := by rw [hW]; exact Lib.hid (HQ1.out.kept (below_drewN _ _))
  rw [← hW]
  clear hW x0 x1 x2 y0 y1 HB1 HQ1
  obtain ⟨k0, k1, k2, k3, f0, f1, f2, f3⟩ := HBW.out.cells
  go_wp2
  refine bodyPost_ret (v := .tuple #[.agg #[.int .u64 0, .int .u64 0, .int .i64 0, .slice none 0 0], .int .i64 11]) (by simp [results, Try.results19, go_sem, k0, k1, k2, k3]) rfl ⟨by rw [HF.out]; exact partAt_blank rfl, ?_⟩
  exact HBW.out.stored _ _ _ _

set_option maxRecDepth 100000 in
set_option maxHeartbeats 4000000 in
theorem refpart_at (A : Option Addr) (n c : Nat) (l : List Int) (w : World) (hn : l.length = n) (h : Rd w A (bys l)) (hI : IsB l) (hnc : n ≤ c) (he : (sec l).err = 0) (hk : (sec l).kind = 113) (ht : (sec l).turn ≠ 0) (hp : 2 ≤ (sec l).pay.length) (h1 : ¬ 9 < (bat (sec l).pay 1)) (h2 : (bat (sec l).pay 1) ≤ (bat (sec l).pay 0)) :
    Calls Try.prog 19 #[.slice A n c] w fun e w' => partAt e w.heap.size w' (frm l) ∧ Below w.heap.size w w' := by
  have hf : frm l = ⟨0, 0, 0, [], 11⟩ := frm_bad he (.inr (.inr (by rw [← Bool.not_eq_true, mayB_iff, List.length_drop]; omega)))
  have HF := Lib.hid hf
  have C1 := Lib.hid (refopen_any A n c l _ hn (h.kept (ZF.init w).2) hI hnc)
  have hb0 := Lib.hid (ZF.init w)
  obtain ⟨r1, r2, r3, r4⟩ := sec_range hI
  have e1 : ((sec l).err != 0) = false := by simpa using he
  have e2 : ((sec l).kind != 113) = false := by simp [hk]
  have e3 : ((sec l).turn == 0) = false := by simpa using ht
  clear hf h hn hI
  go_enter Try.func19, Try.ntmps19
  go_wp2_with fail
  refine C1.out.mono ?_
  rintro e w1 ⟨⟨v1, rfl, hown1⟩, hb1⟩
  have HB1 := Lib.hid ((hb0.out.step hb1).step ((Below.refl _ w1).alloc (Nat.le_refl _) (.cells #[.int .u8 (sec l).kind, .int .u64 (sec l).turn, v1] 56)))
  have hs1 : w.heap.size + 1 ≤ w1.heap.size := by have := hb1.size; simpa using this
  obtain ⟨g, c1, rfl, hgb, hc1⟩ := own_addr1 hown1 (by omega)
  have hc0 := hown1.cellAt 0 (by omega)
  have hc1' := hown1.cellAt 1 (by omega)
  rw [bys_getElem?] at hc0 hc1'
  rw [List.getElem?_eq_getElem (show 0 < (sec l).pay.length by omega)] at hc0
  rw [List.getElem?_eq_getElem (show 1 < (sec l).pay.length by omega)] at hc1'
  rw [show ((sec l).pay)[0] = bat (sec l).pay 0 by simp [bat, List.getD_eq_getElem?_getD, List.getElem?_eq_getElem (show 0 < (sec l).pay.length by omega)]] at hc0
  rw [show ((sec l).pay)[1] = bat (sec l).pay 1 by simp [bat, List.getD_eq_getElem?_getD, List.getElem?_eq_getElem (show 1 < (sec l).pay.length by omega)]] at hc1'
  simp only [Option.map_some] at hc0 hc1'
  have BL1 := heap_alloc_new w1 (.cells #[.int .u8 (sec l).kind, .int .u64 (sec l).turn, .slice (some ⟨g, 0, none⟩) (sec l).pay.length c1] 56)
  have x0 := block_cell (L := [.int .u8 (sec l).kind, .int .u64 (sec l).turn, .slice (some ⟨g, 0, none⟩) (sec l).pay.length c1]) BL1 0
  have x1 := block_cell (L := [.int .u8 (sec l).kind, .int .u64 (sec l).turn, .slice (some ⟨g, 0, none⟩) (sec l).pay.length c1]) BL1 1
  have x2 := block_cell (L := [.int .u8 (sec l).kind, .int .u64 (sec l).turn, .slice (some ⟨g, 0, none⟩) (sec l).pay.length c1]) BL1 2
  have hba : Below w1.heap.size w1 (w1.alloc (.cells #[.int .u8 (sec l).kind, .int .u64 (sec l).turn, .slice (some ⟨g, 0, none⟩) (sec l).pay.length c1] 56)) := (Below.refl _ w1).alloc (Nat.le_refl _) _
  have y0 := hba.cell (p := ⟨g, 0, none⟩) (own_base' hown1 _ rfl).2 |>.trans hc0
  have y1 := hba.cell (p := ⟨g, 1, none⟩) (own_base' hown1 _ rfl).2 |>.trans hc1'
  have HO1 := Lib.hid (own_kept hown1 hba)
  have a0 := bat_range r3 0
  have a1 := bat_range r3 1
  have ew : IntKind.i64.wrap (bat (sec l).pay 0) = bat (sec l).pay 0 := IntWalk.i64_in _ (by omega)
  have ei : IntKind.i64.wrap (bat (sec l).pay 1) = bat (sec l).pay 1 := IntWalk.i64_in _ (by omega)
  have ep : IntKind.i64.wrap (bat (sec l).pay 0 + 1) = bat (sec l).pay 0 + 1 := IntWalk.i64_in _ (by omega)
  have eu : IntKind.u64.wrap (bat (sec l).pay 0) = bat (sec l).pay 0 := by rw [IntKind.wrap_u64]; omega
  have hcut := run_cutL (P := Try.prog) Try.underlying23 sizeU8 (some ⟨g, 0, none⟩) (sec l).pay.length c1 hp hc1
  have b0 : 0 < (sec l).pay.length := by omega
  have b1 : (1 : Int) < ((sec l).pay.length : Int) := by omega
  have b2 : ¬ ((sec l).pay.length : Int) < 2 := by omega
  have hq1 := (own_tail HO1.out hp).2.2.1
  have hq2 : cutB (some ⟨g, 0, none⟩) 2 c1 = none → (sec l).pay.length - 2 = 0 ∧ c1 - 2 = 0 := by
    intro e; unfold cutB at e; split at e
    · simp at e
    · simp at e
  have hpd : ((sec l).pay.drop 2).length = (sec l).pay.length - 2 := by simp
  obtain ⟨D, hD⟩ : ∃ D, D = cutB (some ⟨g, 0, none⟩) 2 c1 := ⟨_, rfl⟩
  rw [← hD] at hcut hq1 hq2
  obtain ⟨m, hm2⟩ : ∃ m, m = (sec l).pay.length - 2 := ⟨_, rfl⟩
  rw [← hm2] at hcut hpd hq2
  obtain ⟨d, hd2⟩ : ∃ d, d = c1 - 2 := ⟨_, rfl⟩
  rw [← hd2] at hcut hq2
  obtain ⟨pl, hpl⟩ : ∃ pl, pl = (sec l).pay.drop 2 := ⟨_, rfl⟩
  have HPL := Lib.hid hpl
  rw [← hpl] at hpd hq1
  have HPD := Lib.hid hpd
  have HQ1 := Lib.hid hq1
  have HQ2 := Lib.hid hq2
  have hm496 : m ≤ 496 := by omega
  clear hc0 hc1' BL1 hba hown1 hb1 a0 a1 he hk r1 r2 r3 r4 ht hD hm2 hd2 hpl hpd hq1 hq2
  go_wp2_with fail
  go_quiet (fail)
  obtain ⟨W, hW⟩ : ∃ W, W = (w1.alloc (.cells #[.int .u8 (sec l).kind, .int .u64 (sec l).turn, .slice (some ⟨g, 0, none⟩) (sec l).pay.length c1] 56)).drewN nq := ⟨_, rfl⟩
  have hWs : w1.heap.size < W.heap.size := by rw [hW]; show w1.heap.size < (w1.alloc (.cells #[.int .u8 (sec l).kind, .int .u64 (sec l).turn, .slice (some ⟨g, 0, none⟩) (sec l).pay.length c1] 56)).heap.size; simp
  have HBW : Hid (ZF w W) := by rw [hW]; exact Lib.hid (HB1.out.drewN _)
  have xt : W.cell? ⟨w1.heap.size, 1, none⟩ = some (.int .u64 (sec l).turn) := by rw [hW]; exact x1
  have HRW : Hid (Rd W D (bys pl)) := by rw [hW]; exact Lib.hid (HQ1.out.kept (below_drewN _ _))
  rw [← hW]
  clear hW x0 x1 x2 y0 y1 HB1 HQ1
  obtain ⟨k0, k1, k2, k3, f0, f1, f2, f3⟩ := HBW.out.cells
  go_wp2
  refine bodyPost_ret (v := .tuple #[.agg #[.int .u64 0, .int .u64 0, .int .i64 0, .slice none 0 0], .int .i64 11]) (by simp [results, Try.results19, go_sem, k0, k1, k2, k3]) rfl ⟨by rw [HF.out]; exact partAt_blank rfl, ?_⟩
  exact HBW.out.stored _ _ _ _

set_option maxRecDepth 100000 in
set_option maxHeartbeats 4000000 in
theorem refpart_big (A : Option Addr) (n c : Nat) (l : List Int) (w : World) (hn : l.length = n) (h : Rd w A (bys l)) (hI : IsB l) (hnc : n ≤ c) (he : (sec l).err = 0) (hk : (sec l).kind = 113) (ht : (sec l).turn ≠ 0) (hp : 2 ≤ (sec l).pay.length) (h1 : ¬ 9 < (bat (sec l).pay 1)) (h2 : ¬ (bat (sec l).pay 1) ≤ (bat (sec l).pay 0)) (h3 : 480 < ((sec l).pay.length - 2)) :
    Calls Try.prog 19 #[.slice A n c] w fun e w' => partAt e w.heap.size w' (frm l) ∧ Below w.heap.size w w' := by
  have hf : frm l = ⟨0, 0, 0, [], 11⟩ := frm_bad he (.inr (.inr (by rw [← Bool.not_eq_true, mayB_iff, List.length_drop]; omega)))
  have HF := Lib.hid hf
  have C1 := Lib.hid (refopen_any A n c l _ hn (h.kept (ZF.init w).2) hI hnc)
  have hb0 := Lib.hid (ZF.init w)
  obtain ⟨r1, r2, r3, r4⟩ := sec_range hI
  have e1 : ((sec l).err != 0) = false := by simpa using he
  have e2 : ((sec l).kind != 113) = false := by simp [hk]
  have e3 : ((sec l).turn == 0) = false := by simpa using ht
  clear hf h hn hI
  go_enter Try.func19, Try.ntmps19
  go_wp2_with fail
  refine C1.out.mono ?_
  rintro e w1 ⟨⟨v1, rfl, hown1⟩, hb1⟩
  have HB1 := Lib.hid ((hb0.out.step hb1).step ((Below.refl _ w1).alloc (Nat.le_refl _) (.cells #[.int .u8 (sec l).kind, .int .u64 (sec l).turn, v1] 56)))
  have hs1 : w.heap.size + 1 ≤ w1.heap.size := by have := hb1.size; simpa using this
  obtain ⟨g, c1, rfl, hgb, hc1⟩ := own_addr1 hown1 (by omega)
  have hc0 := hown1.cellAt 0 (by omega)
  have hc1' := hown1.cellAt 1 (by omega)
  rw [bys_getElem?] at hc0 hc1'
  rw [List.getElem?_eq_getElem (show 0 < (sec l).pay.length by omega)] at hc0
  rw [List.getElem?_eq_getElem (show 1 < (sec l).pay.length by omega)] at hc1'
  rw [show ((sec l).pay)[0] = bat (sec l).pay 0 by simp [bat, List.getD_eq_getElem?_getD, List.getElem?_eq_getElem (show 0 < (sec l).pay.length by omega)]] at hc0
  rw [show ((sec l).pay)[1] = bat (sec l).pay 1 by simp [bat, List.getD_eq_getElem?_getD, List.getElem?_eq_getElem (show 1 < (sec l).pay.length by omega)]] at hc1'
  simp only [Option.map_some] at hc0 hc1'
  have BL1 := heap_alloc_new w1 (.cells #[.int .u8 (sec l).kind, .int .u64 (sec l).turn, .slice (some ⟨g, 0, none⟩) (sec l).pay.length c1] 56)
  have x0 := block_cell (L := [.int .u8 (sec l).kind, .int .u64 (sec l).turn, .slice (some ⟨g, 0, none⟩) (sec l).pay.length c1]) BL1 0
  have x1 := block_cell (L := [.int .u8 (sec l).kind, .int .u64 (sec l).turn, .slice (some ⟨g, 0, none⟩) (sec l).pay.length c1]) BL1 1
  have x2 := block_cell (L := [.int .u8 (sec l).kind, .int .u64 (sec l).turn, .slice (some ⟨g, 0, none⟩) (sec l).pay.length c1]) BL1 2
  have hba : Below w1.heap.size w1 (w1.alloc (.cells #[.int .u8 (sec l).kind, .int .u64 (sec l).turn, .slice (some ⟨g, 0, none⟩) (sec l).pay.length c1] 56)) := (Below.refl _ w1).alloc (Nat.le_refl _) _
  have y0 := hba.cell (p := ⟨g, 0, none⟩) (own_base' hown1 _ rfl).2 |>.trans hc0
  have y1 := hba.cell (p := ⟨g, 1, none⟩) (own_base' hown1 _ rfl).2 |>.trans hc1'
  have HO1 := Lib.hid (own_kept hown1 hba)
  have a0 := bat_range r3 0
  have a1 := bat_range r3 1
  have ew : IntKind.i64.wrap (bat (sec l).pay 0) = bat (sec l).pay 0 := IntWalk.i64_in _ (by omega)
  have ei : IntKind.i64.wrap (bat (sec l).pay 1) = bat (sec l).pay 1 := IntWalk.i64_in _ (by omega)
  have ep : IntKind.i64.wrap (bat (sec l).pay 0 + 1) = bat (sec l).pay 0 + 1 := IntWalk.i64_in _ (by omega)
  have eu : IntKind.u64.wrap (bat (sec l).pay 0) = bat (sec l).pay 0 := by rw [IntKind.wrap_u64]; omega
  have hcut := run_cutL (P := Try.prog) Try.underlying23 sizeU8 (some ⟨g, 0, none⟩) (sec l).pay.length c1 hp hc1
  have b0 : 0 < (sec l).pay.length := by omega
  have b1 : (1 : Int) < ((sec l).pay.length : Int) := by omega
  have b2 : ¬ ((sec l).pay.length : Int) < 2 := by omega
  have hq1 := (own_tail HO1.out hp).2.2.1
  have hq2 : cutB (some ⟨g, 0, none⟩) 2 c1 = none → (sec l).pay.length - 2 = 0 ∧ c1 - 2 = 0 := by
    intro e; unfold cutB at e; split at e
    · simp at e
    · simp at e
  have hpd : ((sec l).pay.drop 2).length = (sec l).pay.length - 2 := by simp
  obtain ⟨D, hD⟩ : ∃ D, D = cutB (some ⟨g, 0, none⟩) 2 c1 := ⟨_, rfl⟩
  rw [← hD] at hcut hq1 hq2
  obtain ⟨m, hm2⟩ : ∃ m, m = (sec l).pay.length - 2 := ⟨_, rfl⟩
  rw [← hm2] at hcut hpd hq2
  obtain ⟨d, hd2⟩ : ∃ d, d = c1 - 2 := ⟨_, rfl⟩
  rw [← hd2] at hcut hq2
  obtain ⟨pl, hpl⟩ : ∃ pl, pl = (sec l).pay.drop 2 := ⟨_, rfl⟩
  have HPL := Lib.hid hpl
  rw [← hpl] at hpd hq1
  have HPD := Lib.hid hpd
  have HQ1 := Lib.hid hq1
  have HQ2 := Lib.hid hq2
  have f9 : (480 : Int) < (m : Int) := by omega
  have hm496 : m ≤ 496 := by omega
  clear hc0 hc1' BL1 hba hown1 hb1 a0 a1 he hk r1 r2 r3 r4 ht hD hm2 hd2 hpl hpd hq1 hq2
  go_wp2_with fail
  go_quiet (fail)
  obtain ⟨W, hW⟩ : ∃ W, W = (w1.alloc (.cells #[.int .u8 (sec l).kind, .int .u64 (sec l).turn, .slice (some ⟨g, 0, none⟩) (sec l).pay.length c1] 56)).drewN nq := ⟨_, rfl⟩
  have hWs : w1.heap.size < W.heap.size := by rw [hW]; show w1.heap.size < (w1.alloc (.cells #[.int .u8 (sec l).kind, .int .u64 (sec l).turn, .slice (some ⟨g, 0, none⟩) (sec l).pay.length c1] 56)).heap.size; simp
  have HBW : Hid (ZF w W) := by rw [hW]; exact Lib.hid (HB1.out.drewN _)
  have xt : W.cell? ⟨w1.heap.size, 1, none⟩ = some (.int .u64 (sec l).turn) := by rw [hW]; exact x1
  have HRW : Hid (Rd W D (bys pl)) := by rw [hW]; exact Lib.hid (HQ1.out.kept (below_drewN _ _))
  rw [← hW]
  clear hW x0 x1 x2 y0 y1 HB1 HQ1
  obtain ⟨k0, k1, k2, k3, f0, f1, f2, f3⟩ := HBW.out.cells
  go_wp2
  refine bodyPost_ret (v := .tuple #[.agg #[.int .u64 0, .int .u64 0, .int .i64 0, .slice none 0 0], .int .i64 11]) (by simp [results, Try.results19, go_sem, k0, k1, k2, k3]) rfl ⟨by rw [HF.out]; exact partAt_blank rfl, ?_⟩
  exact HBW.out.stored _ _ _ _

set_option maxRecDepth 100000 in
set_option maxHeartbeats 4000000 in
theorem refpart_full (A : Option Addr) (n c : Nat) (l : List Int) (w : World) (hn : l.length = n) (h : Rd w A (bys l)) (hI : IsB l) (hnc : n ≤ c) (he : (sec l).err = 0) (hk : (sec l).kind = 113) (ht : (sec l).turn ≠ 0) (hp : 2 ≤ (sec l).pay.length) (h1 : ¬ 9 < (bat (sec l).pay 1)) (h2 : ¬ (bat (sec l).pay 1) ≤ (bat (sec l).pay 0)) (h3 : ¬ 480 < ((sec l).pay.length - 2)) (h4 : (bat (sec l).pay 0) + 1 < (bat (sec l).pay 1)) (h5 : ((sec l).pay.length - 2) ≠ 480) :
    Calls Try.prog 19 #[.slice A n c] w fun e w' => partAt e w.heap.size w' (frm l) ∧ Below w.heap.size w w' := by
  have hf : frm l = ⟨0, 0, 0, [], 11⟩ := frm_bad he (.inr (.inr (by rw [← Bool.not_eq_true, mayB_iff, List.length_drop]; omega)))
  have HF := Lib.hid hf
  have C1 := Lib.hid (refopen_any A n c l _ hn (h.kept (ZF.init w).2) hI hnc)
  have hb0 := Lib.hid (ZF.init w)
  obtain ⟨r1, r2, r3, r4⟩ := sec_range hI
  have e1 : ((sec l).err != 0) = false := by simpa using he
  have e2 : ((sec l).kind != 113) = false := by simp [hk]
  have e3 : ((sec l).turn == 0) = false := by simpa using ht
  clear hf h hn hI
  go_enter Try.func19, Try.ntmps19
  go_wp2_with fail
  refine C1.out.mono ?_
  rintro e w1 ⟨⟨v1, rfl, hown1⟩, hb1⟩
  have HB1 := Lib.hid ((hb0.out.step hb1).step ((Below.refl _ w1).alloc (Nat.le_refl _) (.cells #[.int .u8 (sec l).kind, .int .u64 (sec l).turn, v1] 56)))
  have hs1 : w.heap.size + 1 ≤ w1.heap.size := by have := hb1.size; simpa using this
  obtain ⟨g, c1, rfl, hgb, hc1⟩ := own_addr1 hown1 (by omega)
  have hc0 := hown1.cellAt 0 (by omega)
  have hc1' := hown1.cellAt 1 (by omega)
  rw [bys_getElem?] at hc0 hc1'
  rw [List.getElem?_eq_getElem (show 0 < (sec l).pay.length by omega)] at hc0
  rw [List.getElem?_eq_getElem (show 1 < (sec l).pay.length by omega)] at hc1'
  rw [show ((sec l).pay)[0] = bat (sec l).pay 0 by simp [bat, List.getD_eq_getElem?_getD, List.getElem?_eq_getElem (show 0 < (sec l).pay.length by omega)]] at hc0
  rw [show ((sec l).pay)[1] = bat (sec l).pay 1 by simp [bat, List.getD_eq_getElem?_getD, List.getElem?_eq_getElem (show 1 < (sec l).pay.length by omega)]] at hc1'
  simp only [Option.map_some] at hc0 hc1'
  have BL1 := heap_alloc_new w1 (.cells #[.int .u8 (sec l).kind, .int .u64 (sec l).turn, .slice (some ⟨g, 0, none⟩) (sec l).pay.length c1] 56)
  have x0 := block_cell (L := [.int .u8 (sec l).kind, .int .u64 (sec l).turn, .slice (some ⟨g, 0, none⟩) (sec l).pay.length c1]) BL1 0
  have x1 := block_cell (L := [.int .u8 (sec l).kind, .int .u64 (sec l).turn, .slice (some ⟨g, 0, none⟩) (sec l).pay.length c1]) BL1 1
  have x2 := block_cell (L := [.int .u8 (sec l).kind, .int .u64 (sec l).turn, .slice (some ⟨g, 0, none⟩) (sec l).pay.length c1]) BL1 2
  have hba : Below w1.heap.size w1 (w1.alloc (.cells #[.int .u8 (sec l).kind, .int .u64 (sec l).turn, .slice (some ⟨g, 0, none⟩) (sec l).pay.length c1] 56)) := (Below.refl _ w1).alloc (Nat.le_refl _) _
  have y0 := hba.cell (p := ⟨g, 0, none⟩) (own_base' hown1 _ rfl).2 |>.trans hc0
  have y1 := hba.cell (p := ⟨g, 1, none⟩) (own_base' hown1 _ rfl).2 |>.trans hc1'
  have HO1 := Lib.hid (own_kept hown1 hba)
  have a0 := bat_range r3 0
  have a1 := bat_range r3 1
  have ew : IntKind.i64.wrap (bat (sec l).pay 0) = bat (sec l).pay 0 := IntWalk.i64_in _ (by omega)
  have ei : IntKind.i64.wrap (bat (sec l).pay 1) = bat (sec l).pay 1 := IntWalk.i64_in _ (by omega)
  have ep : IntKind.i64.wrap (bat (sec l).pay 0 + 1) = bat (sec l).pay 0 + 1 := IntWalk.i64_in _ (by omega)
  have eu : IntKind.u64.wrap (bat (sec l).pay 0) = bat (sec l).pay 0 := by rw [IntKind.wrap_u64]; omega
  have hcut := run_cutL (P := Try.prog) Try.underlying23 sizeU8 (some ⟨g, 0, none⟩) (sec l).pay.length c1 hp hc1
  have b0 : 0 < (sec l).pay.length := by omega
  have b1 : (1 : Int) < ((sec l).pay.length : Int) := by omega
  have b2 : ¬ ((sec l).pay.length : Int) < 2 := by omega
  have hq1 := (own_tail HO1.out hp).2.2.1
  have hq2 : cutB (some ⟨g, 0, none⟩) 2 c1 = none → (sec l).pay.length - 2 = 0 ∧ c1 - 2 = 0 := by
    intro e; unfold cutB at e; split at e
    · simp at e
    · simp at e
  have hpd : ((sec l).pay.drop 2).length = (sec l).pay.length - 2 := by simp
  obtain ⟨D, hD⟩ : ∃ D, D = cutB (some ⟨g, 0, none⟩) 2 c1 := ⟨_, rfl⟩
  rw [← hD] at hcut hq1 hq2
  obtain ⟨m, hm2⟩ : ∃ m, m = (sec l).pay.length - 2 := ⟨_, rfl⟩
  rw [← hm2] at hcut hpd hq2
  obtain ⟨d, hd2⟩ : ∃ d, d = c1 - 2 := ⟨_, rfl⟩
  rw [← hd2] at hcut hq2
  obtain ⟨pl, hpl⟩ : ∃ pl, pl = (sec l).pay.drop 2 := ⟨_, rfl⟩
  have HPL := Lib.hid hpl
  rw [← hpl] at hpd hq1
  have HPD := Lib.hid hpd
  have HQ1 := Lib.hid hq1
  have HQ2 := Lib.hid hq2
  have f9 : ¬ (480 : Int) < (m : Int) := by omega
  have f5 : ((m : Int) != 480) = true := by rw [bne_iff_ne]; omega
  have hm496 : m ≤ 496 := by omega
  clear hc0 hc1' BL1 hba hown1 hb1 a0 a1 he hk r1 r2 r3 r4 ht hD hm2 hd2 hpl hpd hq1 hq2
  go_wp2_with fail
  go_quiet (fail)
  obtain ⟨W, hW⟩ : ∃ W, W = (w1.alloc (.cells #[.int .u8 (sec l).kind, .int .u64 (sec l).turn, .slice (some ⟨g, 0, none⟩) (sec l).pay.length c1] 56)).drewN nq := ⟨_, rfl⟩
  have hWs : w1.heap.size < W.heap.size := by rw [hW]; show w1.heap.size < (w1.alloc (.cells #[.int .u8 (sec l).kind, .int .u64 (sec l).turn, .slice (some ⟨g, 0, none⟩) (sec l).pay.length c1] 56)).heap.size; simp
  have HBW : Hid (ZF w W) := by rw [hW]; exact Lib.hid (HB1.out.drewN _)
  have xt : W.cell? ⟨w1.heap.size, 1, none⟩ = some (.int .u64 (sec l).turn) := by rw [hW]; exact x1
  have HRW : Hid (Rd W D (bys pl)) := by rw [hW]; exact Lib.hid (HQ1.out.kept (below_drewN _ _))
  rw [← hW]
  clear hW x0 x1 x2 y0 y1 HB1 HQ1
  obtain ⟨k0, k1, k2, k3, f0, f1, f2, f3⟩ := HBW.out.cells
  go_wp2
  refine bodyPost_ret (v := .tuple #[.agg #[.int .u64 0, .int .u64 0, .int .i64 0, .slice none 0 0], .int .i64 11]) (by simp [results, Try.results19, go_sem, k0, k1, k2, k3]) rfl ⟨by rw [HF.out]; exact partAt_blank rfl, ?_⟩
  exact HBW.out.stored _ _ _ _

set_option maxRecDepth 100000 in
set_option maxHeartbeats 4000000 in
theorem refpart_last (A : Option Addr) (n c : Nat) (l : List Int) (w : World) (hn : l.length = n) (h : Rd w A (bys l)) (hI : IsB l) (hnc : n ≤ c) (he : (sec l).err = 0) (hk : (sec l).kind = 113) (ht : (sec l).turn ≠ 0) (hp : 2 ≤ (sec l).pay.length) (h1 : ¬ 9 < (bat (sec l).pay 1)) (h2 : ¬ (bat (sec l).pay 1) ≤ (bat (sec l).pay 0)) (h3 : ¬ 480 < ((sec l).pay.length - 2)) (h4 : ¬ (bat (sec l).pay 0) + 1 < (bat (sec l).pay 1)) (h5 : 1 < (bat (sec l).pay 1)) (h6 : ((sec l).pay.length - 2) < 1) :
    Calls Try.prog 19 #[.slice A n c] w fun e w' => partAt e w.heap.size w' (frm l) ∧ Below w.heap.size w w' := by
  have hf : frm l = ⟨0, 0, 0, [], 11⟩ := frm_bad he (.inr (.inr (by rw [← Bool.not_eq_true, mayB_iff, List.length_drop]; omega)))
  have HF := Lib.hid hf
  have C1 := Lib.hid (refopen_any A n c l _ hn (h.kept (ZF.init w).2) hI hnc)
  have hb0 := Lib.hid (ZF.init w)
  obtain ⟨r1, r2, r3, r4⟩ := sec_range hI
  have e1 : ((sec l).err != 0) = false := by simpa using he
  have e2 : ((sec l).kind != 113) = false := by simp [hk]
  have e3 : ((sec l).turn == 0) = false := by simpa using ht
  clear hf h hn hI
  go_enter Try.func19, Try.ntmps19
  go_wp2_with fail
  refine C1.out.mono ?_
  rintro e w1 ⟨⟨v1, rfl, hown1⟩, hb1⟩
  have HB1 := Lib.hid ((hb0.out.step hb1).step ((Below.refl _ w1).alloc (Nat.le_refl _) (.cells #[.int .u8 (sec l).kind, .int .u64 (sec l).turn, v1] 56)))
  have hs1 : w.heap.size + 1 ≤ w1.heap.size := by have := hb1.size; simpa using this
  obtain ⟨g, c1, rfl, hgb, hc1⟩ := own_addr1 hown1 (by omega)
  have hc0 := hown1.cellAt 0 (by omega)
  have hc1' := hown1.cellAt 1 (by omega)
  rw [bys_getElem?] at hc0 hc1'
  rw [List.getElem?_eq_getElem (show 0 < (sec l).pay.length by omega)] at hc0
  rw [List.getElem?_eq_getElem (show 1 < (sec l).pay.length by omega)] at hc1'
  rw [show ((sec l).pay)[0] = bat (sec l).pay 0 by simp [bat, List.getD_eq_getElem?_getD, List.getElem?_eq_getElem (show 0 < (sec l).pay.length by omega)]] at hc0
  rw [show ((sec l).pay)[1] = bat (sec l).pay 1 by simp [bat, List.getD_eq_getElem?_getD, List.getElem?_eq_getElem (show 1 < (sec l).pay.length by omega)]] at hc1'
  simp only [Option.map_some] at hc0 hc1'
  have BL1 := heap_alloc_new w1 (.cells #[.int .u8 (sec l).kind, .int .u64 (sec l).turn, .slice (some ⟨g, 0, none⟩) (sec l).pay.length c1] 56)
  have x0 := block_cell (L := [.int .u8 (sec l).kind, .int .u64 (sec l).turn, .slice (some ⟨g, 0, none⟩) (sec l).pay.length c1]) BL1 0
  have x1 := block_cell (L := [.int .u8 (sec l).kind, .int .u64 (sec l).turn, .slice (some ⟨g, 0, none⟩) (sec l).pay.length c1]) BL1 1
  have x2 := block_cell (L := [.int .u8 (sec l).kind, .int .u64 (sec l).turn, .slice (some ⟨g, 0, none⟩) (sec l).pay.length c1]) BL1 2
  have hba : Below w1.heap.size w1 (w1.alloc (.cells #[.int .u8 (sec l).kind, .int .u64 (sec l).turn, .slice (some ⟨g, 0, none⟩) (sec l).pay.length c1] 56)) := (Below.refl _ w1).alloc (Nat.le_refl _) _
  have y0 := hba.cell (p := ⟨g, 0, none⟩) (own_base' hown1 _ rfl).2 |>.trans hc0
  have y1 := hba.cell (p := ⟨g, 1, none⟩) (own_base' hown1 _ rfl).2 |>.trans hc1'
  have HO1 := Lib.hid (own_kept hown1 hba)
  have a0 := bat_range r3 0
  have a1 := bat_range r3 1
  have ew : IntKind.i64.wrap (bat (sec l).pay 0) = bat (sec l).pay 0 := IntWalk.i64_in _ (by omega)
  have ei : IntKind.i64.wrap (bat (sec l).pay 1) = bat (sec l).pay 1 := IntWalk.i64_in _ (by omega)
  have ep : IntKind.i64.wrap (bat (sec l).pay 0 + 1) = bat (sec l).pay 0 + 1 := IntWalk.i64_in _ (by omega)
  have eu : IntKind.u64.wrap (bat (sec l).pay 0) = bat (sec l).pay 0 := by rw [IntKind.wrap_u64]; omega
  have hcut := run_cutL (P := Try.prog) Try.underlying23 sizeU8 (some ⟨g, 0, none⟩) (sec l).pay.length c1 hp hc1
  have b0 : 0 < (sec l).pay.length := by omega
  have b1 : (1 : Int) < ((sec l).pay.length : Int) := by omega
  have b2 : ¬ ((sec l).pay.length : Int) < 2 := by omega
  have hq1 := (own_tail HO1.out hp).2.2.1
  have hq2 : cutB (some ⟨g, 0, none⟩) 2 c1 = none → (sec l).pay.length - 2 = 0 ∧ c1 - 2 = 0 := by
    intro e; unfold cutB at e; split at e
    · simp at e
    · simp at e
  have hpd : ((sec l).pay.drop 2).length = (sec l).pay.length - 2 := by simp
  obtain ⟨D, hD⟩ : ∃ D, D = cutB (some ⟨g, 0, none⟩) 2 c1 := ⟨_, rfl⟩
  rw [← hD] at hcut hq1 hq2
  obtain ⟨m, hm2⟩ : ∃ m, m = (sec l).pay.length - 2 := ⟨_, rfl⟩
  rw [← hm2] at hcut hpd hq2
  obtain ⟨d, hd2⟩ : ∃ d, d = c1 - 2 := ⟨_, rfl⟩
  rw [← hd2] at hcut hq2
  obtain ⟨pl, hpl⟩ : ∃ pl, pl = (sec l).pay.drop 2 := ⟨_, rfl⟩
  have HPL := Lib.hid hpl
  rw [← hpl] at hpd hq1
  have HPD := Lib.hid hpd
  have HQ1 := Lib.hid hq1
  have HQ2 := Lib.hid hq2
  have f9 : ¬ (480 : Int) < (m : Int) := by omega
  have f5 : (bat (sec l).pay 0 + 1 == bat (sec l).pay 1) = true := by rw [beq_iff_eq]; omega
  have f6 : (m : Int) < 1 := by omega
  have hm496 : m ≤ 496 := by omega
  clear hc0 hc1' BL1 hba hown1 hb1 a0 a1 he hk r1 r2 r3 r4 ht hD hm2 hd2 hpl hpd hq1 hq2
  go_wp2_with fail
  go_quiet (fail)
  obtain ⟨W, hW⟩ : ∃ W, W = (w1.alloc (.cells #[.int .u8 (sec l).kind, .int .u64 (sec l).turn, .slice (some ⟨g, 0, none⟩) (sec l).pay.length c1] 56)).drewN nq := ⟨_, rfl⟩
  have hWs : w1.heap.size < W.heap.size := by rw [hW]; show w1.heap.size < (w1.alloc (.cells #[.int .u8 (sec l).kind, .int .u64 (sec l).turn, .slice (some ⟨g, 0, none⟩) (sec l).pay.length c1] 56)).heap.size; simp
  have HBW : Hid (ZF w W) := by rw [hW]; exact Lib.hid (HB1.out.drewN _)
  have xt : W.cell? ⟨w1.heap.size, 1, none⟩ = some (.int .u64 (sec l).turn) := by rw [hW]; exact x1
  have HRW : Hid (Rd W D (bys pl)) := by rw [hW]; exact Lib.hid (HQ1.out.kept (below_drewN _ _))
  rw [← hW]
  clear hW x0 x1 x2 y0 y1 HB1 HQ1
  obtain ⟨k0, k1, k2, k3, f0, f1, f2, f3⟩ := HBW.out.cells
  go_wp2
  refine bodyPost_ret (v := .tuple #[.agg #[.int .u64 0, .int .u64 0, .int .i64 0, .slice none 0 0], .int .i64 11]) (by simp [results, Try.results19, go_sem, k0, k1, k2, k3]) rfl ⟨by rw [HF.out]; exact partAt_blank rfl, ?_⟩
  exact HBW.out.stored _ _ _ _

set_option maxRecDepth 100000 in
set_option maxHeartbeats 4000000 in
theorem refpart_good1 (A : Option Addr) (n c : Nat) (l : List Int) (w : World) (hn : l.length = n) (h : Rd w A (bys l)) (hI : IsB l) (hnc : n ≤ c) (he : (sec l).err = 0) (hk : (sec l).kind = 113) (ht : (sec l).turn ≠ 0) (hp : 2 ≤ (sec l).pay.length) (h1 : ¬ 9 < (bat (sec l).pay 1)) (h2 : ¬ (bat (sec l).pay 1) ≤ (bat (sec l).pay 0)) (h3 : ¬ 480 < ((sec l).pay.length - 2)) (h4 : (bat (sec l).pay 0) + 1 < (bat (sec l).pay 1)) (h5 : ((sec l).pay.length - 2) = 480) :
    Calls Try.prog 19 #[.slice A n c] w fun e w' => partAt e w.heap.size w' (frm l) ∧ Below w.heap.size w w' := by
  have hf : frm l = ⟨(sec l).turn, bat (sec l).pay 0, bat (sec l).pay 1, (sec l).pay.drop 2, 0⟩ := frm_good he hk hp (by have hb0 := bat_range (sec_range hI).2.2.1 0; rw [mayB_iff, List.length_drop]; omega)
  have HF := Lib.hid hf
  have C1 := Lib.hid (refopen_any A n c l _ hn (h.kept (ZF.init w).2) hI hnc)
  have hb0 := Lib.hid (ZF.init w)
  obtain ⟨r1, r2, r3, r4⟩ := sec_range hI
  have e1 : ((sec l).err != 0) = false := by simpa using he
  have e2 : ((sec l).kind != 113) = false := by simp [hk]
  have e3 : ((sec l).turn == 0) = false := by simpa using ht
  clear hf h hn hI
  go_enter Try.func19, Try.ntmps19
  go_wp2_with fail
  refine C1.out.mono ?_
  rintro e w1 ⟨⟨v1, rfl, hown1⟩, hb1⟩
  have HB1 := Lib.hid ((hb0.out.step hb1).step ((Below.refl _ w1).alloc (Nat.le_refl _) (.cells #[.int .u8 (sec l).kind, .int .u64 (sec l).turn, v1] 56)))
  have hs1 : w.heap.size + 1 ≤ w1.heap.size := by have := hb1.size; simpa using this
  obtain ⟨g, c1, rfl, hgb, hc1⟩ := own_addr1 hown1 (by omega)
  have hc0 := hown1.cellAt 0 (by omega)
  have hc1' := hown1.cellAt 1 (by omega)
  rw [bys_getElem?] at hc0 hc1'
  rw [List.getElem?_eq_getElem (show 0 < (sec l).pay.length by omega)] at hc0
  rw [List.getElem?_eq_getElem (show 1 < (sec l).pay.length by omega)] at hc1'
  rw [show ((sec l).pay)[0] = bat (sec l).pay 0 by simp [bat, List.getD_eq_getElem?_getD, List.getElem?_eq_getElem (show 0 < (sec l).pay.length by omega)]] at hc0
  rw [show ((sec l).pay)[1] = bat (sec l).pay 1 by simp [bat, List.getD_eq_getElem?_getD, List.getElem?_eq_getElem (show 1 < (sec l).pay.length by omega)]] at hc1'
  simp only [Option.map_some] at hc0 hc1'
  have BL1 := heap_alloc_new w1 (.cells #[.int .u8 (sec l).kind, .int .u64 (sec l).turn, .slice (some ⟨g, 0, none⟩) (sec l).pay.length c1] 56)
  have x0 := block_cell (L := [.int .u8 (sec l).kind, .int .u64 (sec l).turn, .slice (some ⟨g, 0, none⟩) (sec l).pay.length c1]) BL1 0
  have x1 := block_cell (L := [.int .u8 (sec l).kind, .int .u64 (sec l).turn, .slice (some ⟨g, 0, none⟩) (sec l).pay.length c1]) BL1 1
  have x2 := block_cell (L := [.int .u8 (sec l).kind, .int .u64 (sec l).turn, .slice (some ⟨g, 0, none⟩) (sec l).pay.length c1]) BL1 2
  have hba : Below w1.heap.size w1 (w1.alloc (.cells #[.int .u8 (sec l).kind, .int .u64 (sec l).turn, .slice (some ⟨g, 0, none⟩) (sec l).pay.length c1] 56)) := (Below.refl _ w1).alloc (Nat.le_refl _) _
  have y0 := hba.cell (p := ⟨g, 0, none⟩) (own_base' hown1 _ rfl).2 |>.trans hc0
  have y1 := hba.cell (p := ⟨g, 1, none⟩) (own_base' hown1 _ rfl).2 |>.trans hc1'
  have HO1 := Lib.hid (own_kept hown1 hba)
  have a0 := bat_range r3 0
  have a1 := bat_range r3 1
  have ew : IntKind.i64.wrap (bat (sec l).pay 0) = bat (sec l).pay 0 := IntWalk.i64_in _ (by omega)
  have ei : IntKind.i64.wrap (bat (sec l).pay 1) = bat (sec l).pay 1 := IntWalk.i64_in _ (by omega)
  have ep : IntKind.i64.wrap (bat (sec l).pay 0 + 1) = bat (sec l).pay 0 + 1 := IntWalk.i64_in _ (by omega)
  have eu : IntKind.u64.wrap (bat (sec l).pay 0) = bat (sec l).pay 0 := by rw [IntKind.wrap_u64]; omega
  have hcut := run_cutL (P := Try.prog) Try.underlying23 sizeU8 (some ⟨g, 0, none⟩) (sec l).pay.length c1 hp hc1
  have b0 : 0 < (sec l).pay.length := by omega
  have b1 : (1 : Int) < ((sec l).pay.length : Int) := by omega
  have b2 : ¬ ((sec l).pay.length : Int) < 2 := by omega
  have hq1 := (own_tail HO1.out hp).2.2.1
  have hq2 : cutB (some ⟨g, 0, none⟩) 2 c1 = none → (sec l).pay.length - 2 = 0 ∧ c1 - 2 = 0 := by
    intro e; unfold cutB at e; split at e
    · simp at e
    · simp at e
  have hpd : ((sec l).pay.drop 2).length = (sec l).pay.length - 2 := by simp
  obtain ⟨D, hD⟩ : ∃ D, D = cutB (some ⟨g, 0, none⟩) 2 c1 := ⟨_, rfl⟩
  rw [← hD] at hcut hq1 hq2
  obtain ⟨m, hm2⟩ : ∃ m, m = (sec l).pay.length - 2 := ⟨_, rfl⟩
  rw [← hm2] at hcut hpd hq2
  obtain ⟨d, hd2⟩ : ∃ d, d = c1 - 2 := ⟨_, rfl⟩
  rw [← hd2] at hcut hq2
  obtain ⟨pl, hpl⟩ : ∃ pl, pl = (sec l).pay.drop 2 := ⟨_, rfl⟩
  have HPL := Lib.hid hpl
  rw [← hpl] at hpd hq1
  have HPD := Lib.hid hpd
  have HQ1 := Lib.hid hq1
  have HQ2 := Lib.hid hq2
  have f9 : ¬ (480 : Int) < (m : Int) := by omega
  have f5 : ((m : Int) != 480) = false := by rw [bne_eq_false_iff_eq]; omega
  have f7 : (bat (sec l).pay 0 + 1 == bat (sec l).pay 1) = false := by rw [beq_eq_false_iff_ne]; omega
  have hm496 : m ≤ 496 := by omega
  clear hc0 hc1' BL1 hba hown1 hb1 a0 a1 he hk r1 r2 r3 r4 ht hD hm2 hd2 hpl hpd hq1 hq2
  go_wp2_with fail
  go_quiet (fail)
  obtain ⟨W, hW⟩ : ∃ W, W = (w1.alloc (.cells #[.int .u8 (sec l).kind, .int .u64 (sec l).turn, .slice (some ⟨g, 0, none⟩) (sec l).pay.length c1] 56)).drewN nq := ⟨_, rfl⟩
  have hWs : w1.heap.size < W.heap.size := by rw [hW]; show w1.heap.size < (w1.alloc (.cells #[.int .u8 (sec l).kind, .int .u64 (sec l).turn, .slice (some ⟨g, 0, none⟩) (sec l).pay.length c1] 56)).heap.size; simp
  have HBW : Hid (ZF w W) := by rw [hW]; exact Lib.hid (HB1.out.drewN _)
  have xt : W.cell? ⟨w1.heap.size, 1, none⟩ = some (.int .u64 (sec l).turn) := by rw [hW]; exact x1
  have HRW : Hid (Rd W D (bys pl)) := by rw [hW]; exact Lib.hid (HQ1.out.kept (below_drewN _ _))
  rw [← hW]
  clear hW x0 x1 x2 y0 y1 HB1 HQ1
  obtain ⟨k0, k1, k2, k3, f0, f1, f2, f3⟩ := HBW.out.cells
  have C8 := Lib.hid (fun (w' : World) (hb : Below W.heap.size W w') => copybytes_any D m d pl w' HPD.out HQ2.out (HRW.out.kept hb) (by omega))
  go_wp2_with fail
  have hne : w1.heap.size ≠ w.heap.size := by omega
  go_region_held3 (fun w' => w'.cell? ⟨w1.heap.size, 1, none⟩ = some (.int .u64 (sec l).turn))
    (first
      | exact xt
      | exact xt'
      | exact (cell_4set hne).trans xt')
    ((go_at_call 34; (refine (C8.out W.drew (below_drewN _ 1)).mono ?_); rintro e w8 ⟨v, rfl, hown, hb8⟩; obtain ⟨A8, c8, rfl, hnc8, hcm8, hrd8, hlen8⟩ := own_rd hown; have HO8 := Lib.hid hown; have HB8 := Lib.hid ((HBW.out.drewN 1).step hb8); obtain ⟨k0', k1', k2', k3', f0', f1', f2', f3'⟩ := HB8.out.cells; have xt' := (hb8.cell (p := ⟨w1.heap.size, 1, none⟩) hWs).trans xt))
  go_wp2
  have hzb := HBW.out.2.size
  refine bodyPost_ret (v := .tuple #[.agg #[.int .u64 (sec l).turn, .int .u64 (bat (sec l).pay 0), .int .i64 (bat (sec l).pay 1), .slice A8 m c8], .int .i64 0]) (by simp [results, Try.results19, go_sem, k0', k1', k2', k3']) rfl ⟨?_, ?_⟩
  · rw [HF.out]
    have hlt : w.heap.size < W.drew.heap.size := lt_of_block (show W.drew.heap[w.heap.size]? = _ from HBW.out.1)
    have hq := own_4set (b := w.heap.size) HO8.out hlt (.int .u64 (sec l).turn) (.int .u64 (bat (sec l).pay 0)) (.int .i64 (bat (sec l).pay 1)) (.slice A8 m c8)
    rw [← HPL.out]
    obtain ⟨A9, c9, he9, t1, _, t3, _⟩ := own_rd hq
    obtain ⟨rfl, rfl⟩ : A8 = A9 ∧ c8 = c9 := by simpa using he9
    refine ⟨A8, c8, by rw [HPD.out], by rw [HPD.out]; exact t1, (fun e => by
      subst e
      rcases hq.2 with ⟨h, h0⟩ | ⟨g', cap, cur, h1, _⟩
      · simp at h; exact ⟨by rw [HPD.out]; exact h0, h.2⟩
      · simp at h1), t3, fun a ha => ⟨Nat.le_of_lt (Nat.lt_of_lt_of_le hlt (own_base' hq a ha).1), (own_base' hq a ha).2, ?_⟩⟩
    rcases hq.2 with ⟨h, _⟩ | ⟨g', cap, cur, h1, h2, h3, _⟩
    · simp at h; rw [h.1] at ha; cases ha
    · simp at h1; rw [h1.1] at ha; simp at ha; subst ha
      exact fun j => block_free (L := cur.toList) (by simpa using h3) j
  · exact HB8.out.stored _ _ _ _

set_option maxRecDepth 100000 in
set_option maxHeartbeats 4000000 in
theorem refpart_good2 (A : Option Addr) (n c : Nat) (l : List Int) (w : World) (hn : l.length = n) (h : Rd w A (bys l)) (hI : IsB l) (hnc : n ≤ c) (he : (sec l).err = 0) (hk : (sec l).kind = 113) (ht : (sec l).turn ≠ 0) (hp : 2 ≤ (sec l).pay.length) (h1 : ¬ 9 < (bat (sec l).pay 1)) (h2 : ¬ (bat (sec l).pay 1) ≤ (bat (sec l).pay 0)) (h3 : ¬ 480 < ((sec l).pay.length - 2)) (h4 : ¬ (bat (sec l).pay 0) + 1 < (bat (sec l).pay 1)) (h5 : ¬ 1 < (bat (sec l).pay 1)) :
    Calls Try.prog 19 #[.slice A n c] w fun e w' => partAt e w.heap.size w' (frm l) ∧ Below w.heap.size w w' := by
  have hf : frm l = ⟨(sec l).turn, bat (sec l).pay 0, bat (sec l).pay 1, (sec l).pay.drop 2, 0⟩ := frm_good he hk hp (by have hb0 := bat_range (sec_range hI).2.2.1 0; rw [mayB_iff, List.length_drop]; omega)
  have HF := Lib.hid hf
  have C1 := Lib.hid (refopen_any A n c l _ hn (h.kept (ZF.init w).2) hI hnc)
  have hb0 := Lib.hid (ZF.init w)
  obtain ⟨r1, r2, r3, r4⟩ := sec_range hI
  have e1 : ((sec l).err != 0) = false := by simpa using he
  have e2 : ((sec l).kind != 113) = false := by simp [hk]
  have e3 : ((sec l).turn == 0) = false := by simpa using ht
  clear hf h hn hI
  go_enter Try.func19, Try.ntmps19
  go_wp2_with fail
  refine C1.out.mono ?_
  rintro e w1 ⟨⟨v1, rfl, hown1⟩, hb1⟩
  have HB1 := Lib.hid ((hb0.out.step hb1).step ((Below.refl _ w1).alloc (Nat.le_refl _) (.cells #[.int .u8 (sec l).kind, .int .u64 (sec l).turn, v1] 56)))
  have hs1 : w.heap.size + 1 ≤ w1.heap.size := by have := hb1.size; simpa using this
  obtain ⟨g, c1, rfl, hgb, hc1⟩ := own_addr1 hown1 (by omega)
  have hc0 := hown1.cellAt 0 (by omega)
  have hc1' := hown1.cellAt 1 (by omega)
  rw [bys_getElem?] at hc0 hc1'
  rw [List.getElem?_eq_getElem (show 0 < (sec l).pay.length by omega)] at hc0
  rw [List.getElem?_eq_getElem (show 1 < (sec l).pay.length by omega)] at hc1'
  rw [show ((sec l).pay)[0] = bat (sec l).pay 0 by simp [bat, List.getD_eq_getElem?_getD, List.getElem?_eq_getElem (show 0 < (sec l).pay.length by omega)]] at hc0
  rw [show ((sec l).pay)[1] = bat (sec l).pay 1 by simp [bat, List.getD_eq_getElem?_getD, List.getElem?_eq_getElem (show 1 < (sec l).pay.length by omega)]] at hc1'
  simp only [Option.map_some] at hc0 hc1'
  have BL1 := heap_alloc_new w1 (.cells #[.int .u8 (sec l).kind, .int .u64 (sec l).turn, .slice (some ⟨g, 0, none⟩) (sec l).pay.length c1] 56)
  have x0 := block_cell (L := [.int .u8 (sec l).kind, .int .u64 (sec l).turn, .slice (some ⟨g, 0, none⟩) (sec l).pay.length c1]) BL1 0
  have x1 := block_cell (L := [.int .u8 (sec l).kind, .int .u64 (sec l).turn, .slice (some ⟨g, 0, none⟩) (sec l).pay.length c1]) BL1 1
  have x2 := block_cell (L := [.int .u8 (sec l).kind, .int .u64 (sec l).turn, .slice (some ⟨g, 0, none⟩) (sec l).pay.length c1]) BL1 2
  have hba : Below w1.heap.size w1 (w1.alloc (.cells #[.int .u8 (sec l).kind, .int .u64 (sec l).turn, .slice (some ⟨g, 0, none⟩) (sec l).pay.length c1] 56)) := (Below.refl _ w1).alloc (Nat.le_refl _) _
  have y0 := hba.cell (p := ⟨g, 0, none⟩) (own_base' hown1 _ rfl).2 |>.trans hc0
  have y1 := hba.cell (p := ⟨g, 1, none⟩) (own_base' hown1 _ rfl).2 |>.trans hc1'
  have HO1 := Lib.hid (own_kept hown1 hba)
  have a0 := bat_range r3 0
  have a1 := bat_range r3 1
  have ew : IntKind.i64.wrap (bat (sec l).pay 0) = bat (sec l).pay 0 := IntWalk.i64_in _ (by omega)
  have ei : IntKind.i64.wrap (bat (sec l).pay 1) = bat (sec l).pay 1 := IntWalk.i64_in _ (by omega)
  have ep : IntKind.i64.wrap (bat (sec l).pay 0 + 1) = bat (sec l).pay 0 + 1 := IntWalk.i64_in _ (by omega)
  have eu : IntKind.u64.wrap (bat (sec l).pay 0) = bat (sec l).pay 0 := by rw [IntKind.wrap_u64]; omega
  have hcut := run_cutL (P := Try.prog) Try.underlying23 sizeU8 (some ⟨g, 0, none⟩) (sec l).pay.length c1 hp hc1
  have b0 : 0 < (sec l).pay.length := by omega
  have b1 : (1 : Int) < ((sec l).pay.length : Int) := by omega
  have b2 : ¬ ((sec l).pay.length : Int) < 2 := by omega
  have hq1 := (own_tail HO1.out hp).2.2.1
  have hq2 : cutB (some ⟨g, 0, none⟩) 2 c1 = none → (sec l).pay.length - 2 = 0 ∧ c1 - 2 = 0 := by
    intro e; unfold cutB at e; split at e
    · simp at e
    · simp at e
  have hpd : ((sec l).pay.drop 2).length = (sec l).pay.length - 2 := by simp
  obtain ⟨D, hD⟩ : ∃ D, D = cutB (some ⟨g, 0, none⟩) 2 c1 := ⟨_, rfl⟩
  rw [← hD] at hcut hq1 hq2
  obtain ⟨m, hm2⟩ : ∃ m, m = (sec l).pay.length - 2 := ⟨_, rfl⟩
  rw [← hm2] at hcut hpd hq2
  obtain ⟨d, hd2⟩ : ∃ d, d = c1 - 2 := ⟨_, rfl⟩
  rw [← hd2] at hcut hq2
  obtain ⟨pl, hpl⟩ : ∃ pl, pl = (sec l).pay.drop 2 := ⟨_, rfl⟩
  have HPL := Lib.hid hpl
  rw [← hpl] at hpd hq1
  have HPD := Lib.hid hpd
  have HQ1 := Lib.hid hq1
  have HQ2 := Lib.hid hq2
  have f9 : ¬ (480 : Int) < (m : Int) := by omega
  have f7 : (bat (sec l).pay 0 + 1 == bat (sec l).pay 1) = true := by rw [beq_iff_eq]; omega
  have hm496 : m ≤ 496 := by omega
  clear hc0 hc1' BL1 hba hown1 hb1 a0 a1 he hk r1 r2 r3 r4 ht hD hm2 hd2 hpl hpd hq1 hq2
  go_wp2_with fail
  go_quiet (fail)
  obtain ⟨W, hW⟩ : ∃ W, W = (w1.alloc (.cells #[.int .u8 (sec l).kind, .int .u64 (sec l).turn, .slice (some ⟨g, 0, none⟩) (sec l).pay.length c1] 56)).drewN nq := ⟨_, rfl⟩
  have hWs : w1.heap.size < W.heap.size := by rw [hW]; show w1.heap.size < (w1.alloc (.cells #[.int .u8 (sec l).kind, .int .u64 (sec l).turn, .slice (some ⟨g, 0, none⟩) (sec l).pay.length c1] 56)).heap.size; simp
  have HBW : Hid (ZF w W) := by rw [hW]; exact Lib.hid (HB1.out.drewN _)
  have xt : W.cell? ⟨w1.heap.size, 1, none⟩ = some (.int .u64 (sec l).turn) := by rw [hW]; exact x1
  have HRW : Hid (Rd W D (bys pl)) := by rw [hW]; exact Lib.hid (HQ1.out.kept (below_drewN _ _))
  rw [← hW]
  clear hW x0 x1 x2 y0 y1 HB1 HQ1
  obtain ⟨k0, k1, k2, k3, f0, f1, f2, f3⟩ := HBW.out.cells
  have C8 := Lib.hid (fun (w' : World) (hb : Below W.heap.size W w') => copybytes_any D m d pl w' HPD.out HQ2.out (HRW.out.kept hb) (by omega))
  go_wp2_with fail
  have hne : w1.heap.size ≠ w.heap.size := by omega
  go_region_held3 (fun w' => w'.cell? ⟨w1.heap.size, 1, none⟩ = some (.int .u64 (sec l).turn))
    (first
      | exact xt
      | exact xt'
      | exact (cell_4set hne).trans xt')
    ((go_at_call 34; (refine (C8.out W.drew (below_drewN _ 1)).mono ?_); rintro e w8 ⟨v, rfl, hown, hb8⟩; obtain ⟨A8, c8, rfl, hnc8, hcm8, hrd8, hlen8⟩ := own_rd hown; have HO8 := Lib.hid hown; have HB8 := Lib.hid ((HBW.out.drewN 1).step hb8); obtain ⟨k0', k1', k2', k3', f0', f1', f2', f3'⟩ := HB8.out.cells; have xt' := (hb8.cell (p := ⟨w1.heap.size, 1, none⟩) hWs).trans xt))
  go_wp2
  have hzb := HBW.out.2.size
  refine bodyPost_ret (v := .tuple #[.agg #[.int .u64 (sec l).turn, .int .u64 (bat (sec l).pay 0), .int .i64 (bat (sec l).pay 1), .slice A8 m c8], .int .i64 0]) (by simp [results, Try.results19, go_sem, k0', k1', k2', k3']) rfl ⟨?_, ?_⟩
  · rw [HF.out]
    have hlt : w.heap.size < W.drew.heap.size := lt_of_block (show W.drew.heap[w.heap.size]? = _ from HBW.out.1)
    have hq := own_4set (b := w.heap.size) HO8.out hlt (.int .u64 (sec l).turn) (.int .u64 (bat (sec l).pay 0)) (.int .i64 (bat (sec l).pay 1)) (.slice A8 m c8)
    rw [← HPL.out]
    obtain ⟨A9, c9, he9, t1, _, t3, _⟩ := own_rd hq
    obtain ⟨rfl, rfl⟩ : A8 = A9 ∧ c8 = c9 := by simpa using he9
    refine ⟨A8, c8, by rw [HPD.out], by rw [HPD.out]; exact t1, (fun e => by
      subst e
      rcases hq.2 with ⟨h, h0⟩ | ⟨g', cap, cur, h1, _⟩
      · simp at h; exact ⟨by rw [HPD.out]; exact h0, h.2⟩
      · simp at h1), t3, fun a ha => ⟨Nat.le_of_lt (Nat.lt_of_lt_of_le hlt (own_base' hq a ha).1), (own_base' hq a ha).2, ?_⟩⟩
    rcases hq.2 with ⟨h, _⟩ | ⟨g', cap, cur, h1, h2, h3, _⟩
    · simp at h; rw [h.1] at ha; cases ha
    · simp at h1; rw [h1.1] at ha; simp at ha; subst ha
      exact fun j => block_free (L := cur.toList) (by simpa using h3) j
  · exact HB8.out.stored _ _ _ _

set_option maxRecDepth 100000 in
set_option maxHeartbeats 4000000 in
theorem refpart_good3 (A : Option Addr) (n c : Nat) (l : List Int) (w : World) (hn : l.length = n) (h : Rd w A (bys l)) (hI : IsB l) (hnc : n ≤ c) (he : (sec l).err = 0) (hk : (sec l).kind = 113) (ht : (sec l).turn ≠ 0) (hp : 2 ≤ (sec l).pay.length) (h1 : ¬ 9 < (bat (sec l).pay 1)) (h2 : ¬ (bat (sec l).pay 1) ≤ (bat (sec l).pay 0)) (h3 : ¬ 480 < ((sec l).pay.length - 2)) (h4 : ¬ (bat (sec l).pay 0) + 1 < (bat (sec l).pay 1)) (h5 : 1 < (bat (sec l).pay 1)) (h6 : ¬ ((sec l).pay.length - 2) < 1) :
    Calls Try.prog 19 #[.slice A n c] w fun e w' => partAt e w.heap.size w' (frm l) ∧ Below w.heap.size w w' := by
  have hf : frm l = ⟨(sec l).turn, bat (sec l).pay 0, bat (sec l).pay 1, (sec l).pay.drop 2, 0⟩ := frm_good he hk hp (by have hb0 := bat_range (sec_range hI).2.2.1 0; rw [mayB_iff, List.length_drop]; omega)
  have HF := Lib.hid hf
  have C1 := Lib.hid (refopen_any A n c l _ hn (h.kept (ZF.init w).2) hI hnc)
  have hb0 := Lib.hid (ZF.init w)
  obtain ⟨r1, r2, r3, r4⟩ := sec_range hI
  have e1 : ((sec l).err != 0) = false := by simpa using he
  have e2 : ((sec l).kind != 113) = false := by simp [hk]
  have e3 : ((sec l).turn == 0) = false := by simpa using ht
  clear hf h hn hI
  go_enter Try.func19, Try.ntmps19
  go_wp2_with fail
  refine C1.out.mono ?_
  rintro e w1 ⟨⟨v1, rfl, hown1⟩, hb1⟩
  have HB1 := Lib.hid ((hb0.out.step hb1).step ((Below.refl _ w1).alloc (Nat.le_refl _) (.cells #[.int .u8 (sec l).kind, .int .u64 (sec l).turn, v1] 56)))
  have hs1 : w.heap.size + 1 ≤ w1.heap.size := by have := hb1.size; simpa using this
  obtain ⟨g, c1, rfl, hgb, hc1⟩ := own_addr1 hown1 (by omega)
  have hc0 := hown1.cellAt 0 (by omega)
  have hc1' := hown1.cellAt 1 (by omega)
  rw [bys_getElem?] at hc0 hc1'
  rw [List.getElem?_eq_getElem (show 0 < (sec l).pay.length by omega)] at hc0
  rw [List.getElem?_eq_getElem (show 1 < (sec l).pay.length by omega)] at hc1'
  rw [show ((sec l).pay)[0] = bat (sec l).pay 0 by simp [bat, List.getD_eq_getElem?_getD, List.getElem?_eq_getElem (show 0 < (sec l).pay.length by omega)]] at hc0
  rw [show ((sec l).pay)[1] = bat (sec l).pay 1 by simp [bat, List.getD_eq_getElem?_getD, List.getElem?_eq_getElem (show 1 < (sec l).pay.length by omega)]] at hc1'
  simp only [Option.map_some] at hc0 hc1'
  have BL1 := heap_alloc_new w1 (.cells #[.int .u8 (sec l).kind, .int .u64 (sec l).turn, .slice (some ⟨g, 0, none⟩) (sec l).pay.length c1] 56)
  have x0 := block_cell (L := [.int .u8 (sec l).kind, .int .u64 (sec l).turn, .slice (some ⟨g, 0, none⟩) (sec l).pay.length c1]) BL1 0
  have x1 := block_cell (L := [.int .u8 (sec l).kind, .int .u64 (sec l).turn, .slice (some ⟨g, 0, none⟩) (sec l).pay.length c1]) BL1 1
  have x2 := block_cell (L := [.int .u8 (sec l).kind, .int .u64 (sec l).turn, .slice (some ⟨g, 0, none⟩) (sec l).pay.length c1]) BL1 2
  have hba : Below w1.heap.size w1 (w1.alloc (.cells #[.int .u8 (sec l).kind, .int .u64 (sec l).turn, .slice (some ⟨g, 0, none⟩) (sec l).pay.length c1] 56)) := (Below.refl _ w1).alloc (Nat.le_refl _) _
  have y0 := hba.cell (p := ⟨g, 0, none⟩) (own_base' hown1 _ rfl).2 |>.trans hc0
  have y1 := hba.cell (p := ⟨g, 1, none⟩) (own_base' hown1 _ rfl).2 |>.trans hc1'
  have HO1 := Lib.hid (own_kept hown1 hba)
  have a0 := bat_range r3 0
  have a1 := bat_range r3 1
  have ew : IntKind.i64.wrap (bat (sec l).pay 0) = bat (sec l).pay 0 := IntWalk.i64_in _ (by omega)
  have ei : IntKind.i64.wrap (bat (sec l).pay 1) = bat (sec l).pay 1 := IntWalk.i64_in _ (by omega)
  have ep : IntKind.i64.wrap (bat (sec l).pay 0 + 1) = bat (sec l).pay 0 + 1 := IntWalk.i64_in _ (by omega)
  have eu : IntKind.u64.wrap (bat (sec l).pay 0) = bat (sec l).pay 0 := by rw [IntKind.wrap_u64]; omega
  have hcut := run_cutL (P := Try.prog) Try.underlying23 sizeU8 (some ⟨g, 0, none⟩) (sec l).pay.length c1 hp hc1
  have b0 : 0 < (sec l).pay.length := by omega
  have b1 : (1 : Int) < ((sec l).pay.length : Int) := by omega
  have b2 : ¬ ((sec l).pay.length : Int) < 2 := by omega
  have hq1 := (own_tail HO1.out hp).2.2.1
  have hq2 : cutB (some ⟨g, 0, none⟩) 2 c1 = none → (sec l).pay.length - 2 = 0 ∧ c1 - 2 = 0 := by
    intro e; unfold cutB at e; split at e
    · simp at e
    · simp at e
  have hpd : ((sec l).pay.drop 2).length = (sec l).pay.length - 2 := by simp
  obtain ⟨D, hD⟩ : ∃ D, D = cutB (some ⟨g, 0, none⟩) 2 c1 := ⟨_, rfl⟩
  rw [← hD] at hcut hq1 hq2
  obtain ⟨m, hm2⟩ : ∃ m, m = (sec l).pay.length - 2 := ⟨_, rfl⟩
  rw [← hm2] at hcut hpd hq2
  obtain ⟨d, hd2⟩ : ∃ d, d = c1 - 2 := ⟨_, rfl⟩
  rw [← hd2] at hcut hq2
  obtain ⟨pl, hpl⟩ : ∃ pl, pl = (sec l).pay.drop 2 := ⟨_, rfl⟩
  have HPL := Lib.hid hpl
  rw [← hpl] at hpd hq1
  have HPD := Lib.hid hpd
  have HQ1 := Lib.hid hq1
  have HQ2 := Lib.hid hq2
  have f9 : ¬ (480 : Int) < (m : Int) := by omega
  have f7 : (bat (sec l).pay 0 + 1 == bat (sec l).pay 1) = true := by rw [beq_iff_eq]; omega
  have f6 : ¬ (m : Int) < 1 := by omega
  have hm496 : m ≤ 496 := by omega
  clear hc0 hc1' BL1 hba hown1 hb1 a0 a1 he hk r1 r2 r3 r4 ht hD hm2 hd2 hpl hpd hq1 hq2
  go_wp2_with fail
  go_quiet (fail)
  obtain ⟨W, hW⟩ : ∃ W, W = (w1.alloc (.cells #[.int .u8 (sec l).kind, .int .u64 (sec l).turn, .slice (some ⟨g, 0, none⟩) (sec l).pay.length c1] 56)).drewN nq := ⟨_, rfl⟩
  have hWs : w1.heap.size < W.heap.size := by rw [hW]; show w1.heap.size < (w1.alloc (.cells #[.int .u8 (sec l).kind, .int .u64 (sec l).turn, .slice (some ⟨g, 0, none⟩) (sec l).pay.length c1] 56)).heap.size; simp
  have HBW : Hid (ZF w W) := by rw [hW]; exact Lib.hid (HB1.out.drewN _)
  have xt : W.cell? ⟨w1.heap.size, 1, none⟩ = some (.int .u64 (sec l).turn) := by rw [hW]; exact x1
  have HRW : Hid (Rd W D (bys pl)) := by rw [hW]; exact Lib.hid (HQ1.out.kept (below_drewN _ _))
  rw [← hW]
  clear hW x0 x1 x2 y0 y1 HB1 HQ1
  obtain ⟨k0, k1, k2, k3, f0, f1, f2, f3⟩ := HBW.out.cells
  have C8 := Lib.hid (fun (w' : World) (hb : Below W.heap.size W w') => copybytes_any D m d pl w' HPD.out HQ2.out (HRW.out.kept hb) (by omega))
  go_wp2_with fail
  have hne : w1.heap.size ≠ w.heap.size := by omega
  go_region_held3 (fun w' => w'.cell? ⟨w1.heap.size, 1, none⟩ = some (.int .u64 (sec l).turn))
    (first
      | exact xt
      | exact xt'
      | exact (cell_4set hne).trans xt')
    ((go_at_call 34; (refine (C8.out W.drew (below_drewN _ 1)).mono ?_); rintro e w8 ⟨v, rfl, hown, hb8⟩; obtain ⟨A8, c8, rfl, hnc8, hcm8, hrd8, hlen8⟩ := own_rd hown; have HO8 := Lib.hid hown; have HB8 := Lib.hid ((HBW.out.drewN 1).step hb8); obtain ⟨k0', k1', k2', k3', f0', f1', f2', f3'⟩ := HB8.out.cells; have xt' := (hb8.cell (p := ⟨w1.heap.size, 1, none⟩) hWs).trans xt))
  go_wp2
  have hzb := HBW.out.2.size
  refine bodyPost_ret (v := .tuple #[.agg #[.int .u64 (sec l).turn, .int .u64 (bat (sec l).pay 0), .int .i64 (bat (sec l).pay 1), .slice A8 m c8], .int .i64 0]) (by simp [results, Try.results19, go_sem, k0', k1', k2', k3']) rfl ⟨?_, ?_⟩
  · rw [HF.out]
    have hlt : w.heap.size < W.drew.heap.size := lt_of_block (show W.drew.heap[w.heap.size]? = _ from HBW.out.1)
    have hq := own_4set (b := w.heap.size) HO8.out hlt (.int .u64 (sec l).turn) (.int .u64 (bat (sec l).pay 0)) (.int .i64 (bat (sec l).pay 1)) (.slice A8 m c8)
    rw [← HPL.out]
    obtain ⟨A9, c9, he9, t1, _, t3, _⟩ := own_rd hq
    obtain ⟨rfl, rfl⟩ : A8 = A9 ∧ c8 = c9 := by simpa using he9
    refine ⟨A8, c8, by rw [HPD.out], by rw [HPD.out]; exact t1, (fun e => by
      subst e
      rcases hq.2 with ⟨h, h0⟩ | ⟨g', cap, cur, h1, _⟩
      · simp at h; exact ⟨by rw [HPD.out]; exact h0, h.2⟩
      · simp at h1), t3, fun a ha => ⟨Nat.le_of_lt (Nat.lt_of_lt_of_le hlt (own_base' hq a ha).1), (own_base' hq a ha).2, ?_⟩⟩
    rcases hq.2 with ⟨h, _⟩ | ⟨g', cap, cur, h1, h2, h3, _⟩
    · simp at h; rw [h.1] at ha; cases ha
    · simp at h1; rw [h1.1] at ha; simp at ha; subst ha
      exact fun j => block_free (L := cur.toList) (by simpa using h3) j
  · exact HB8.out.stored _ _ _ _

theorem refpart_any (A : Option Addr) (n c : Nat) (l : List Int) (w : World) (hn : l.length = n) (h : Rd w A (bys l)) (hI : IsB l) (hnc : n ≤ c) :
    Calls Try.prog 19 #[.slice A n c] w fun e w' => partAt e w.heap.size w' (frm l) ∧ Below w.heap.size w w' := by
  by_cases he : (sec l).err = 0
  · by_cases hk : (sec l).kind = 113
    · by_cases ht : (sec l).turn = 0
      · exact refpart_turn A n c l w hn h hI hnc he hk ht
      by_cases hp : 2 ≤ (sec l).pay.length
      · by_cases h1 : 9 < (bat (sec l).pay 1)
        · exact refpart_of A n c l w hn h hI hnc he hk ht hp h1
        by_cases h2 : (bat (sec l).pay 1) ≤ (bat (sec l).pay 0)
        · exact refpart_at A n c l w hn h hI hnc he hk ht hp h1 h2
        by_cases h3 : 480 < ((sec l).pay.length - 2)
        · exact refpart_big A n c l w hn h hI hnc he hk ht hp h1 h2 h3
        by_cases h4 : (bat (sec l).pay 0) + 1 < (bat (sec l).pay 1)
        · by_cases h5 : ((sec l).pay.length - 2) = 480
          · exact refpart_good1 A n c l w hn h hI hnc he hk ht hp h1 h2 h3 h4 h5
          · exact refpart_full A n c l w hn h hI hnc he hk ht hp h1 h2 h3 h4 h5
        by_cases h5 : 1 < (bat (sec l).pay 1)
        · by_cases h6 : ((sec l).pay.length - 2) < 1
          · exact refpart_last A n c l w hn h hI hnc he hk ht hp h1 h2 h3 h4 h5 h6
          · exact refpart_good3 A n c l w hn h hI hnc he hk ht hp h1 h2 h3 h4 h5 h6
        · exact refpart_good2 A n c l w hn h hI hnc he hk ht hp h1 h2 h3 h4 h5
      · exact refpart_short A n c l w hn h hI hnc he hk ht (by omega)
    · exact refpart_kind A n c l w hn h hI hnc he hk
  · exact refpart_err A n c l w hn h hI hnc he
end Go.Proofs.Ytdgciajdnmgcnaa
