/- Contracts: record.Part; whatever is handed in. -/
import Derived.Test.YtdgciajdnmgcnaaRecMay
import Derived.StillTailTactics
namespace Go.Proofs.Ytdgciajdnmgcnaa
open Go.RowKit
set_option linter.unusedVariables false

/-- What a part answers: its data lies in a block that was not there before. -/
def partAt (e : Ending) (base : Nat) (w' : World) (F : Frm) : Prop :=
  ∃ (A : Option Addr) (c : Nat), e = .returned (.tuple #[.agg #[.int .u64 F.age, .int .u64 F.first, .int .i64 F.of, .slice A F.data.length c], .int .i64 F.err]) ∧ F.data.length ≤ c ∧ (A = none → F.data.length = 0 ∧ c = 0) ∧ Rd w' A (bys F.data) ∧ ∀ a, A = some a → base ≤ a.block ∧ a.block < w'.heap.size ∧ ∀ j, w'.frozen? ⟨a.block, j, none⟩ = false
theorem partAt_blank {e : Ending} {base : Nat} {w' : World} {er : Int} (h : e = .returned (.tuple #[.agg #[.int .u64 0, .int .u64 0, .int .i64 0, .slice none 0 0], .int .i64 er])) : partAt e base w' ⟨0, 0, 0, [], er⟩ :=
  ⟨none, 0, h, Nat.le_refl _, fun _ => ⟨rfl, rfl⟩, Rd.nil _ _, fun a e => by cases e⟩

/-- The variable of the struct result, still blank. -/
def ZF (w0 w : World) : Prop := w.heap[w0.heap.size]? = some (.cells [Value.int .u64 0, .int .u64 0, .int .i64 0, .slice none 0 0].toArray 36 (0, 0)) ∧ Below w0.heap.size w0 w
theorem ZF.init (w : World) : ZF w (w.alloc (.cells #[.int .u64 0, .int .u64 0, .int .i64 0, .slice none 0 0] 36)) := ⟨heap_alloc_new _ _, (Below.refl _ _).alloc (Nat.le_refl _) _⟩
theorem ZF.step {w0 w w' : World} (h : ZF w0 w) (hb : Below w.heap.size w w') : ZF w0 w' := ⟨(hb.block _ (Array.getElem?_eq_some_iff.1 h.1).1).trans h.1, h.2.trans (hb.mono h.2.size)⟩
theorem ZF.drewN {w0 w : World} (h : ZF w0 w) (n : Nat) : ZF w0 (w.drewN n) := ⟨h.1, h.2.trans (below_drewN _ _)⟩
theorem ZF.cells {w0 w : World} (h : ZF w0 w) : w.cell? ⟨w0.heap.size, 0, none⟩ = some (.int .u64 0) ∧ w.cell? ⟨w0.heap.size, 1, none⟩ = some (.int .u64 0) ∧ w.cell? ⟨w0.heap.size, 2, none⟩ = some (.int .i64 0) ∧ w.cell? ⟨w0.heap.size, 3, none⟩ = some (.slice none 0 0) ∧
    w.frozen? ⟨w0.heap.size, 0, none⟩ = false ∧ w.frozen? ⟨w0.heap.size, 1, none⟩ = false ∧ w.frozen? ⟨w0.heap.size, 2, none⟩ = false ∧ w.frozen? ⟨w0.heap.size, 3, none⟩ = false :=
  ⟨block_cell h.1 0, block_cell h.1 1, block_cell h.1 2, block_cell h.1 3, block_free h.1 0, block_free h.1 1, block_free h.1 2, block_free h.1 3⟩
/-- Four stores into that variable. -/
theorem ZF.stored {w0 w : World} (h : ZF w0 w) (x y z u : Value) : Below w0.heap.size w0 ((((w.setCell ⟨w0.heap.size, 0, none⟩ x).setCell ⟨w0.heap.size, 1, none⟩ y).setCell ⟨w0.heap.size, 2, none⟩ z).setCell ⟨w0.heap.size, 3, none⟩ u) :=
  (((h.2.setCell (p := ⟨w0.heap.size, 0, none⟩) (Nat.le_refl _) _).setCell (p := ⟨w0.heap.size, 1, none⟩) (Nat.le_refl _) _).setCell (p := ⟨w0.heap.size, 2, none⟩) (Nat.le_refl _) _).setCell (p := ⟨w0.heap.size, 3, none⟩) (Nat.le_refl _) _
theorem own_4set {w : World} {base b e n : Nat} {v : Value} {xs : List Value} (h : w.ownsRow base e 1 v n xs) (hb : b < base) (x y z u : Value) : ((((w.setCell ⟨b, 0, none⟩ x).setCell ⟨b, 1, none⟩ y).setCell ⟨b, 2, none⟩ z).setCell ⟨b, 3, none⟩ u).ownsRow base e 1 v n xs :=
  ownsRow_setCell_below (ownsRow_setCell_below (ownsRow_setCell_below (ownsRow_setCell_below h (a := ⟨b, 0, none⟩) hb x) (a := ⟨b, 1, none⟩) hb y) (a := ⟨b, 2, none⟩) hb z) (a := ⟨b, 3, none⟩) hb u
theorem own_addr1 {w : World} {base e n : Nat} {v : Value} {xs : List Value} (h : w.ownsRow base e 1 v n xs) (hn : 0 < n) : ∃ g c, v = .slice (some ⟨g, 0, none⟩) n c ∧ base ≤ g ∧ n ≤ c := by
  rcases h.2 with ⟨_, h0⟩ | ⟨g, cap, cur, hv, hb, _, hc, _⟩
  · omega
  · exact ⟨g, cap, hv, hb, hc⟩
/-- The rest of an own row, behind its first two. -/
theorem own_tail {w : World} {base g n c : Nat} {l : List Int} (h : w.ownsRow base 5 1 (.slice (some ⟨g, 0, none⟩) n c) n (bys l)) (h2 : 2 ≤ n) :
    n - 2 ≤ c - 2 ∧ (l.drop 2).length = n - 2 ∧ Rd w (cutB (some ⟨g, 0, none⟩) 2 c) (bys (l.drop 2)) ∧ ∀ a, cutB (some ⟨g, 0, none⟩) 2 c = some a → base ≤ a.block ∧ a.block < w.heap.size ∧ ∀ j, w.frozen? ⟨a.block, j, none⟩ = false := by
  obtain ⟨A', c', he, hnc, _, hrd, hlen⟩ := own_rd h
  obtain ⟨rfl, rfl⟩ : some ⟨g, 0, none⟩ = A' ∧ c = c' := by simpa using he
  have hl : l.length = n := by simpa [bys_length] using hlen
  refine ⟨by omega, by simp [hl], ?_, ?_⟩
  · have := rd_cutB hrd 2 n c h2 (by omega) (by omega)
    rwa [List.take_of_length_le (by simp [hl])] at this
  · intro a ha
    have hab : a.block = g := by
      unfold cutB at ha; split at ha
      · simp at ha; rw [← ha]
      · simp [add_at] at ha; rw [← ha]
    rw [hab]
    exact ⟨(own_base' h _ rfl).1, (own_base' h _ rfl).2, fun j => h.frozenAt j⟩

set_option maxRecDepth 100000 in
set_option maxHeartbeats 4000000 in
theorem part_err (A : Option Addr) (n c : Nat) (l : List Int) (w : World) (hn : l.length = n) (h : Rd w A (bys l)) (hI : IsB l) (hnc : n ≤ c) (he : (sec l).err ≠ 0) :
    Calls Try.prog 18 #[.slice A n c] w fun e w' => partAt e w.heap.size w' (frm l) ∧ Below w.heap.size w w' := by
  have hf : frm l = ⟨0, 0, 0, [], (sec l).err⟩ := frm_err he
  have HF := Lib.hid hf
  have C1 := Lib.hid (open_any A n c l _ hn (h.kept (ZF.init w).2) hI hnc)
  have hb0 := Lib.hid (ZF.init w)
  obtain ⟨r1, r2, r3, r4⟩ := sec_range hI
  have e1 : ((sec l).err != 0) = true := bne_iff_ne.2 he
  clear hf h hn hI
  go_enter Try.func18, Try.ntmps18
  go_wp2_with fail
  refine C1.out.mono ?_
  rintro e w1 ⟨⟨v1, rfl, hown1⟩, hb1⟩
  have HB1 := Lib.hid ((hb0.out.step hb1).step ((Below.refl _ w1).alloc (Nat.le_refl _) (.cells #[.int .u8 (sec l).kind, .int .u64 (sec l).turn, v1] 56)))
  have hs1 : w.heap.size + 1 ≤ w1.heap.size := by have := hb1.size; simpa using this
  obtain ⟨A1, c1, rfl, hc1⟩ := own_sh hown1
  obtain ⟨k0, k1, k2, k3, f0, f1, f2, f3⟩ := HB1.out.cells
  clear hown1 hb1 he r1 r2 r3 r4
  go_wp2
  refine bodyPost_ret (v := .tuple #[.agg #[.int .u64 0, .int .u64 0, .int .i64 0, .slice none 0 0], .int .i64 (sec l).err]) (by simp [results, Try.results18, go_sem, k0, k1, k2, k3]) rfl ⟨by rw [HF.out]; exact partAt_blank rfl, ?_⟩
  exact HB1.out.stored _ _ _ _

set_option maxRecDepth 100000 in
set_option maxHeartbeats 4000000 in
theorem part_kind (A : Option Addr) (n c : Nat) (l : List Int) (w : World) (hn : l.length = n) (h : Rd w A (bys l)) (hI : IsB l) (hnc : n ≤ c) (he : (sec l).err = 0) (hk : (sec l).kind ≠ 113) :
    Calls Try.prog 18 #[.slice A n c] w fun e w' => partAt e w.heap.size w' (frm l) ∧ Below w.heap.size w w' := by
  have hf : frm l = ⟨0, 0, 0, [], 11⟩ := frm_bad he (.inl hk)
  have HF := Lib.hid hf
  have C1 := Lib.hid (open_any A n c l _ hn (h.kept (ZF.init w).2) hI hnc)
  have hb0 := Lib.hid (ZF.init w)
  obtain ⟨r1, r2, r3, r4⟩ := sec_range hI
  have e1 : ((sec l).err != 0) = false := by simpa using he
  have e2 : ((sec l).kind != 113) = true := bne_iff_ne.2 hk
  clear hf h hn hI
  go_enter Try.func18, Try.ntmps18
  go_wp2_with fail
  refine C1.out.mono ?_
  rintro e w1 ⟨⟨v1, rfl, hown1⟩, hb1⟩
  have HB1 := Lib.hid ((hb0.out.step hb1).step ((Below.refl _ w1).alloc (Nat.le_refl _) (.cells #[.int .u8 (sec l).kind, .int .u64 (sec l).turn, v1] 56)))
  have hs1 : w.heap.size + 1 ≤ w1.heap.size := by have := hb1.size; simpa using this
  obtain ⟨A1, c1, rfl, hc1⟩ := own_sh hown1
  have BL1 := heap_alloc_new w1 (.cells #[.int .u8 (sec l).kind, .int .u64 (sec l).turn, .slice A1 (sec l).pay.length c1] 56)
  have x0 := block_cell (L := [.int .u8 (sec l).kind, .int .u64 (sec l).turn, .slice A1 (sec l).pay.length c1]) BL1 0
  have x1 := block_cell (L := [.int .u8 (sec l).kind, .int .u64 (sec l).turn, .slice A1 (sec l).pay.length c1]) BL1 1
  have x2 := block_cell (L := [.int .u8 (sec l).kind, .int .u64 (sec l).turn, .slice A1 (sec l).pay.length c1]) BL1 2
  obtain ⟨k0, k1, k2, k3, f0, f1, f2, f3⟩ := HB1.out.cells
  clear hown1 hb1 BL1 he hk r1 r2 r3 r4
  go_wp2
  refine bodyPost_ret (v := .tuple #[.agg #[.int .u64 0, .int .u64 0, .int .i64 0, .slice none 0 0], .int .i64 11]) (by simp [results, Try.results18, go_sem, k0, k1, k2, k3]) rfl ⟨by rw [HF.out]; exact partAt_blank rfl, ?_⟩
  exact HB1.out.stored _ _ _ _

set_option maxRecDepth 100000 in
set_option maxHeartbeats 4000000 in
theorem part_short (A : Option Addr) (n c : Nat) (l : List Int) (w : World) (hn : l.length = n) (h : Rd w A (bys l)) (hI : IsB l) (hnc : n ≤ c) (he : (sec l).err = 0) (hk : (sec l).kind = 113) (hp : (sec l).pay.length < 2) :
    Calls Try.prog 18 #[.slice A n c] w fun e w' => partAt e w.heap.size w' (frm l) ∧ Below w.heap.size w w' := by
  have hf : frm l = ⟨0, 0, 0, [], 11⟩ := frm_bad he (.inr (.inl hp))
  have HF := Lib.hid hf
  have C1 := Lib.hid (open_any A n c l _ hn (h.kept (ZF.init w).2) hI hnc)
  have hb0 := Lib.hid (ZF.init w)
  obtain ⟨r1, r2, r3, r4⟩ := sec_range hI
  have e1 : ((sec l).err != 0) = false := by simpa using he
  have e2 : ((sec l).kind != 113) = false := by simp [hk]
  have e3 : ((sec l).pay.length : Int) < 2 := by omega
  clear hf h hn hI
  go_enter Try.func18, Try.ntmps18
  go_wp2_with fail
  refine C1.out.mono ?_
  rintro e w1 ⟨⟨v1, rfl, hown1⟩, hb1⟩
  have HB1 := Lib.hid ((hb0.out.step hb1).step ((Below.refl _ w1).alloc (Nat.le_refl _) (.cells #[.int .u8 (sec l).kind, .int .u64 (sec l).turn, v1] 56)))
  have hs1 : w.heap.size + 1 ≤ w1.heap.size := by have := hb1.size; simpa using this
  obtain ⟨A1, c1, rfl, hc1⟩ := own_sh hown1
  have BL1 := heap_alloc_new w1 (.cells #[.int .u8 (sec l).kind, .int .u64 (sec l).turn, .slice A1 (sec l).pay.length c1] 56)
  have x0 := block_cell (L := [.int .u8 (sec l).kind, .int .u64 (sec l).turn, .slice A1 (sec l).pay.length c1]) BL1 0
  have x1 := block_cell (L := [.int .u8 (sec l).kind, .int .u64 (sec l).turn, .slice A1 (sec l).pay.length c1]) BL1 1
  have x2 := block_cell (L := [.int .u8 (sec l).kind, .int .u64 (sec l).turn, .slice A1 (sec l).pay.length c1]) BL1 2
  obtain ⟨k0, k1, k2, k3, f0, f1, f2, f3⟩ := HB1.out.cells
  clear hown1 hb1 BL1 he hk hp r1 r2 r3 r4
  go_wp2
  refine bodyPost_ret (v := .tuple #[.agg #[.int .u64 0, .int .u64 0, .int .i64 0, .slice none 0 0], .int .i64 11]) (by simp [results, Try.results18, go_sem, k0, k1, k2, k3]) rfl ⟨by rw [HF.out]; exact partAt_blank rfl, ?_⟩
  exact HB1.out.stored _ _ _ _

set_option maxRecDepth 100000 in
set_option maxHeartbeats 4000000 in
theorem part_good (A : Option Addr) (n c : Nat) (l : List Int) (w : World) (hn : l.length = n) (h : Rd w A (bys l)) (hI : IsB l) (hnc : n ≤ c) (he : (sec l).err = 0) (hk : (sec l).kind = 113) (hp : 2 ≤ (sec l).pay.length) (hm : mayB (sec l).turn (bat (sec l).pay 0) (bat (sec l).pay 1) ((sec l).pay.drop 2).length = true) :
    Calls Try.prog 18 #[.slice A n c] w fun e w' => partAt e w.heap.size w' (frm l) ∧ Below w.heap.size w w' := by
  have hf : frm l = ⟨(sec l).turn, bat (sec l).pay 0, bat (sec l).pay 1, (sec l).pay.drop 2, 0⟩ := frm_good he hk hp hm
  have HF := Lib.hid hf
  have C1 := Lib.hid (open_any A n c l _ hn (h.kept (ZF.init w).2) hI hnc)
  have hb0 := Lib.hid (ZF.init w)
  obtain ⟨r1, r2, r3, r4⟩ := sec_range hI
  have e1 : ((sec l).err != 0) = false := by simpa using he
  have e2 : ((sec l).kind != 113) = false := by simp [hk]
  clear hf h hn hI
  go_enter Try.func18, Try.ntmps18
  go_wp2_with fail
  refine C1.out.mono ?_
  rintro e w1 ⟨⟨v1, rfl, hown1⟩, hb1⟩
  have HB1 := Lib.hid ((hb0.out.step hb1).step ((Below.refl _ w1).alloc (Nat.le_refl _) (.cells #[.int .u8 (sec l).kind, .int .u64 (sec l).turn, v1] 56)))
  have hs1 : w.heap.size + 1 ≤ w1.heap.size := by have := hb1.size; simpa using this
  obtain ⟨g, c1, rfl, hgb, hc1⟩ := own_addr1 hown1 (by omega)
  have hc0 := hown1.cellAt 0 (by omega)
  have hc1' := hown1.cellAt 1 (by omega)
  rw [bys_getElem?] at hc0 hc1'
  rw [List.getElem?_eq_getElem (show 0 < (sec l).pay.length by omega)] at hc0
  rw [List.getElem?_eq_getElem (show 1 < (sec l).pay.length by omega)] at hc1'
  rw [show ((sec l).pay)[0] = bat (sec l).pay 0 by simp [bat, List.getD_eq_getElem?_getD, List.getElem?_eq_getElem (show 0 < (sec l).pay.length by omega)]] at hc0
  rw [show ((sec l).pay)[1] = bat (sec l).pay 1 by simp [bat, List.getD_eq_getElem?_getD, List.getElem?_eq_getElem (show 1 < (sec l).pay.length by omega)]] at hc1'
  simp only [Option.map_some] at hc0 hc1'
  have BL1 := heap_alloc_new w1 (.cells #[.int .u8 (sec l).kind, .int .u64 (sec l).turn, .slice (some ⟨g, 0, none⟩) (sec l).pay.length c1] 56)
  have x0 := block_cell (L := [.int .u8 (sec l).kind, .int .u64 (sec l).turn, .slice (some ⟨g, 0, none⟩) (sec l).pay.length c1]) BL1 0
  have x1 := block_cell (L := [.int .u8 (sec l).kind, .int .u64 (sec l).turn, .slice (some ⟨g, 0, none⟩) (sec l).pay.length c1]) BL1 1
  have x2 := block_cell (L := [.int .u8 (sec l).kind, .int .u64 (sec l).turn, .slice (some ⟨g, 0, none⟩) (sec l).pay.length c1]) BL1 2
  have hba : Below w1.heap.size w1 (w1.alloc (.cells #[.int .u8 (sec l).kind, .int .u64 (sec l).turn, .slice (some ⟨g, 0, none⟩) (sec l).pay.length c1] 56)) := (Below.refl _ w1).alloc (Nat.le_refl _) _
  have y0 := hba.cell (p := ⟨g, 0, none⟩) (own_base' hown1 _ rfl).2 |>.trans hc0
  have y1 := hba.cell (p := ⟨g, 1, none⟩) (own_base' hown1 _ rfl).2 |>.trans hc1'
  have HO1 := Lib.hid (own_kept hown1 hba)
  have a0 := bat_range r3 0
  have a1 := bat_range r3 1
  have ew : IntKind.u64.wrap (bat (sec l).pay 0) = bat (sec l).pay 0 := by rw [IntKind.wrap_u64]; omega
  have ei : IntKind.i64.wrap (bat (sec l).pay 1) = bat (sec l).pay 1 := IntWalk.i64_in _ (by omega)
  have hcut := run_cutL (P := Try.prog) Try.underlying23 sizeU8 (some ⟨g, 0, none⟩) (sec l).pay.length c1 hp hc1
  have CM := Lib.hid (fun (w : World) => may_any (sec l).turn (bat (sec l).pay 0) (bat (sec l).pay 1) (cutB (some ⟨g, 0, none⟩) 2 c1) ((sec l).pay.length - 2) (c1 - 2) w a0 a1)
  have hpd : ((sec l).pay.drop 2).length = (sec l).pay.length - 2 := by simp
  rw [hpd] at hm
  rw [hm] at CM
  have b0 : 0 < (sec l).pay.length := by omega
  have b1 : (1 : Int) < ((sec l).pay.length : Int) := by omega
  have b2 : ¬ ((sec l).pay.length : Int) < 2 := by omega
  clear hc0 hc1' BL1 hba hown1 hb1 hm a0 a1 he hk r1 r2 r3
  obtain ⟨D, hD⟩ : ∃ D, D = cutB (some ⟨g, 0, none⟩) 2 c1 := ⟨_, rfl⟩
  rw [← hD] at hcut CM
  have HD := Lib.hid hD.symm
  clear hD
  go_wp2_with fail
  obtain ⟨W, hW⟩ : ∃ W, W = w1.alloc (.cells #[.int .u8 (sec l).kind, .int .u64 (sec l).turn, .slice (some ⟨g, 0, none⟩) (sec l).pay.length c1] 56) := ⟨_, rfl⟩
  have hWs : W.heap.size = w1.heap.size + 1 := by rw [hW]; simp
  rw [← hW] at x0 x1 x2 y0 y1 HO1 HB1 ⊢
  clear hW
  have hgW : g < W.heap.size := by have := (own_base' HO1.out _ rfl).2; exact this
  have hw1W : w1.heap.size < W.heap.size := by omega
  clear hWs
  have K := Lib.hid (fun (w' : World) (hb : Below W.heap.size W w') => (⟨(hb.cell (p := ⟨w1.heap.size, 1, none⟩) hw1W).trans x1, (hb.cell (p := ⟨w1.heap.size, 2, none⟩) hw1W).trans x2, (hb.cell (p := ⟨g, 0, none⟩) hgW).trans y0, (hb.cell (p := ⟨g, 1, none⟩) hgW).trans y1⟩ :
    w'.cell? ⟨w1.heap.size, 1, none⟩ = some (.int .u64 (sec l).turn) ∧ w'.cell? ⟨w1.heap.size, 2, none⟩ = some (.slice (some ⟨g, 0, none⟩) (sec l).pay.length c1) ∧ w'.cell? ⟨g, 0, none⟩ = some (.int .u8 (bat (sec l).pay 0)) ∧ w'.cell? ⟨g, 1, none⟩ = some (.int .u8 (bat (sec l).pay 1))))
  go_region_held3 (fun w' => w'.cell? ⟨w1.heap.size, 1, none⟩ = some (.int .u64 (sec l).turn) ∧ w'.cell? ⟨w1.heap.size, 2, none⟩ = some (.slice (some ⟨g, 0, none⟩) (sec l).pay.length c1) ∧ w'.cell? ⟨g, 0, none⟩ = some (.int .u8 (bat (sec l).pay 0)) ∧ w'.cell? ⟨g, 1, none⟩ = some (.int .u8 (bat (sec l).pay 1)))
    (first
      | exact K.out _ (below_drewN _ 1)
      | exact K.out _ ((show Below W.heap.size W W.drew from below_drewN _ 1).alloc (Nat.le_refl _) _)
      | exact K.out _ ((((((show Below W.heap.size W W.drew from below_drewN _ 1).alloc (Nat.le_refl _) _).setCell (p := ⟨W.heap.size, 0, none⟩) (Nat.le_refl _) _).setCell (p := ⟨W.heap.size, 1, none⟩) (Nat.le_refl _) _).setCell (p := ⟨W.heap.size, 2, none⟩) (Nat.le_refl _) _).setCell (p := ⟨W.heap.size, 3, none⟩) (Nat.le_refl _) _))
    ((fail))
  go_wp2_with fail
  refine (CM.out _).mono ?_
  rintro e w5 ⟨rfl, hb5⟩
  have HBa := Lib.hid (((Below.refl W.heap.size W).alloc (Nat.le_refl _) (.cells #[.int .u64 (sec l).turn, .int .u64 (bat (sec l).pay 0), .int .i64 (bat (sec l).pay 1), .slice D ((sec l).pay.length - 2) (c1 - 2)] 36)).trans (below_drewN _ 1))
  have hba2 : W.heap.size ≤ (W.alloc (.cells #[.int .u64 (sec l).turn, .int .u64 (bat (sec l).pay 0), .int .i64 (bat (sec l).pay 1), .slice D ((sec l).pay.length - 2) (c1 - 2)] 36)).drew.heap.size := HBa.out.size
  have HBb := Lib.hid (HBa.out.trans (hb5.mono hba2))
  have HZ5 := Lib.hid (HB1.out.step HBb.out)
  have HO5 := Lib.hid (own_kept HO1.out HBb.out)
  have BL5 : w5.heap[W.heap.size]? = some (.cells [.int .u64 (sec l).turn, .int .u64 (bat (sec l).pay 0), .int .i64 (bat (sec l).pay 1), .slice D ((sec l).pay.length - 2) (c1 - 2)].toArray 36 (0, 0)) := (hb5.block W.heap.size (lt_of_block (show (W.alloc (.cells #[.int .u64 (sec l).turn, .int .u64 (bat (sec l).pay 0), .int .i64 (bat (sec l).pay 1), .slice D ((sec l).pay.length - 2) (c1 - 2)] 36)).drew.heap[W.heap.size]? = _ from heap_alloc_new W (.cells #[.int .u64 (sec l).turn, .int .u64 (bat (sec l).pay 0), .int .i64 (bat (sec l).pay 1), .slice D ((sec l).pay.length - 2) (c1 - 2)] 36)))).trans (heap_alloc_new W (.cells #[.int .u64 (sec l).turn, .int .u64 (bat (sec l).pay 0), .int .i64 (bat (sec l).pay 1), .slice D ((sec l).pay.length - 2) (c1 - 2)] 36))
  have v0 := block_cell (L := [.int .u64 (sec l).turn, .int .u64 (bat (sec l).pay 0), .int .i64 (bat (sec l).pay 1), .slice D ((sec l).pay.length - 2) (c1 - 2)]) BL5 0
  have v1 := block_cell (L := [.int .u64 (sec l).turn, .int .u64 (bat (sec l).pay 0), .int .i64 (bat (sec l).pay 1), .slice D ((sec l).pay.length - 2) (c1 - 2)]) BL5 1
  have v2 := block_cell (L := [.int .u64 (sec l).turn, .int .u64 (bat (sec l).pay 0), .int .i64 (bat (sec l).pay 1), .slice D ((sec l).pay.length - 2) (c1 - 2)]) BL5 2
  have v3 := block_cell (L := [.int .u64 (sec l).turn, .int .u64 (bat (sec l).pay 0), .int .i64 (bat (sec l).pay 1), .slice D ((sec l).pay.length - 2) (c1 - 2)]) BL5 3
  obtain ⟨k0, k1, k2, k3, f0, f1, f2, f3⟩ := HZ5.out.cells
  clear hb5 BL5 hba2 x0 x1 x2 y0 y1
  go_wp2
  refine bodyPost_ret (v := .tuple #[.agg #[.int .u64 (sec l).turn, .int .u64 (bat (sec l).pay 0), .int .i64 (bat (sec l).pay 1), .slice D ((sec l).pay.length - 2) (c1 - 2)], .int .i64 0]) (by simp [results, Try.results18, go_sem, k0, k1, k2, k3]) rfl ⟨?_, ?_⟩
  · rw [HF.out]
    obtain ⟨t1, t2, t3, t4⟩ := own_tail (own_4set (b := w.heap.size) HO5.out (by simp) (.int .u64 (sec l).turn) (.int .u64 (bat (sec l).pay 0)) (.int .i64 (bat (sec l).pay 1)) (.slice D ((sec l).pay.length - 2) (c1 - 2))) hp
    rw [HD.out] at t3 t4
    exact ⟨D, c1 - 2, by rw [t2], by rw [t2]; exact t1, (fun e => by have hq := HD.out; rw [e] at hq; unfold cutB at hq; split at hq <;> simp at hq), t3, fun a ha => ⟨by have := (t4 a ha).1; simp at this; omega, (t4 a ha).2⟩⟩
  · exact HZ5.out.stored _ _ _ _

set_option maxRecDepth 100000 in
set_option maxHeartbeats 4000000 in
theorem part_may (A : Option Addr) (n c : Nat) (l : List Int) (w : World) (hn : l.length = n) (h : Rd w A (bys l)) (hI : IsB l) (hnc : n ≤ c) (he : (sec l).err = 0) (hk : (sec l).kind = 113) (hp : 2 ≤ (sec l).pay.length) (hm : mayB (sec l).turn (bat (sec l).pay 0) (bat (sec l).pay 1) ((sec l).pay.drop 2).length = false) :
    Calls Try.prog 18 #[.slice A n c] w fun e w' => partAt e w.heap.size w' (frm l) ∧ Below w.heap.size w w' := by
  have hf : frm l = ⟨0, 0, 0, [], 11⟩ := frm_bad he (.inr (.inr hm))
  have HF := Lib.hid hf
  have C1 := Lib.hid (open_any A n c l _ hn (h.kept (ZF.init w).2) hI hnc)
  have hb0 := Lib.hid (ZF.init w)
  obtain ⟨r1, r2, r3, r4⟩ := sec_range hI
  have e1 : ((sec l).err != 0) = false := by simpa using he
  have e2 : ((sec l).kind != 113) = false := by simp [hk]
  clear hf h hn hI
  go_enter Try.func18, Try.ntmps18
  go_wp2_with fail
  refine C1.out.mono ?_
  rintro e w1 ⟨⟨v1, rfl, hown1⟩, hb1⟩
  have HB1 := Lib.hid ((hb0.out.step hb1).step ((Below.refl _ w1).alloc (Nat.le_refl _) (.cells #[.int .u8 (sec l).kind, .int .u64 (sec l).turn, v1] 56)))
  have hs1 : w.heap.size + 1 ≤ w1.heap.size := by have := hb1.size; simpa using this
  obtain ⟨g, c1, rfl, hgb, hc1⟩ := own_addr1 hown1 (by omega)
  have hc0 := hown1.cellAt 0 (by omega)
  have hc1' := hown1.cellAt 1 (by omega)
  rw [bys_getElem?] at hc0 hc1'
  rw [List.getElem?_eq_getElem (show 0 < (sec l).pay.length by omega)] at hc0
  rw [List.getElem?_eq_getElem (show 1 < (sec l).pay.length by omega)] at hc1'
  rw [show ((sec l).pay)[0] = bat (sec l).pay 0 by simp [bat, List.getD_eq_getElem?_getD, List.getElem?_eq_getElem (show 0 < (sec l).pay.length by omega)]] at hc0
  rw [show ((sec l).pay)[1] = bat (sec l).pay 1 by simp [bat, List.getD_eq_getElem?_getD, List.getElem?_eq_getElem (show 1 < (sec l).pay.length by omega)]] at hc1'
  simp only [Option.map_some] at hc0 hc1'
  have BL1 := heap_alloc_new w1 (.cells #[.int .u8 (sec l).kind, .int .u64 (sec l).turn, .slice (some ⟨g, 0, none⟩) (sec l).pay.length c1] 56)
  have x0 := block_cell (L := [.int .u8 (sec l).kind, .int .u64 (sec l).turn, .slice (some ⟨g, 0, none⟩) (sec l).pay.length c1]) BL1 0
  have x1 := block_cell (L := [.int .u8 (sec l).kind, .int .u64 (sec l).turn, .slice (some ⟨g, 0, none⟩) (sec l).pay.length c1]) BL1 1
  have x2 := block_cell (L := [.int .u8 (sec l).kind, .int .u64 (sec l).turn, .slice (some ⟨g, 0, none⟩) (sec l).pay.length c1]) BL1 2
  have hba : Below w1.heap.size w1 (w1.alloc (.cells #[.int .u8 (sec l).kind, .int .u64 (sec l).turn, .slice (some ⟨g, 0, none⟩) (sec l).pay.length c1] 56)) := (Below.refl _ w1).alloc (Nat.le_refl _) _
  have y0 := hba.cell (p := ⟨g, 0, none⟩) (own_base' hown1 _ rfl).2 |>.trans hc0
  have y1 := hba.cell (p := ⟨g, 1, none⟩) (own_base' hown1 _ rfl).2 |>.trans hc1'
  have HO1 := Lib.hid (own_kept hown1 hba)
  have a0 := bat_range r3 0
  have a1 := bat_range r3 1
  have ew : IntKind.u64.wrap (bat (sec l).pay 0) = bat (sec l).pay 0 := by rw [IntKind.wrap_u64]; omega
  have ei : IntKind.i64.wrap (bat (sec l).pay 1) = bat (sec l).pay 1 := IntWalk.i64_in _ (by omega)
  have hcut := run_cutL (P := Try.prog) Try.underlying23 sizeU8 (some ⟨g, 0, none⟩) (sec l).pay.length c1 hp hc1
  have CM := Lib.hid (fun (w : World) => may_any (sec l).turn (bat (sec l).pay 0) (bat (sec l).pay 1) (cutB (some ⟨g, 0, none⟩) 2 c1) ((sec l).pay.length - 2) (c1 - 2) w a0 a1)
  have hpd : ((sec l).pay.drop 2).length = (sec l).pay.length - 2 := by simp
  rw [hpd] at hm
  rw [hm] at CM
  have b0 : 0 < (sec l).pay.length := by omega
  have b1 : (1 : Int) < ((sec l).pay.length : Int) := by omega
  have b2 : ¬ ((sec l).pay.length : Int) < 2 := by omega
  clear hc0 hc1' BL1 hba hown1 hb1 hm a0 a1 he hk r1 r2 r3
  obtain ⟨D, hD⟩ : ∃ D, D = cutB (some ⟨g, 0, none⟩) 2 c1 := ⟨_, rfl⟩
  rw [← hD] at hcut CM
  have HD := Lib.hid hD.symm
  clear hD
  go_wp2_with fail
  obtain ⟨W, hW⟩ : ∃ W, W = w1.alloc (.cells #[.int .u8 (sec l).kind, .int .u64 (sec l).turn, .slice (some ⟨g, 0, none⟩) (sec l).pay.length c1] 56) := ⟨_, rfl⟩
  have hWs : W.heap.size = w1.heap.size + 1 := by rw [hW]; simp
  rw [← hW] at x0 x1 x2 y0 y1 HO1 HB1 ⊢
  clear hW
  have hgW : g < W.heap.size := by have := (own_base' HO1.out _ rfl).2; exact this
  have hw1W : w1.heap.size < W.heap.size := by omega
  clear hWs
  have K := Lib.hid (fun (w' : World) (hb : Below W.heap.size W w') => (⟨(hb.cell (p := ⟨w1.heap.size, 1, none⟩) hw1W).trans x1, (hb.cell (p := ⟨w1.heap.size, 2, none⟩) hw1W).trans x2, (hb.cell (p := ⟨g, 0, none⟩) hgW).trans y0, (hb.cell (p := ⟨g, 1, none⟩) hgW).trans y1⟩ :
    w'.cell? ⟨w1.heap.size, 1, none⟩ = some (.int .u64 (sec l).turn) ∧ w'.cell? ⟨w1.heap.size, 2, none⟩ = some (.slice (some ⟨g, 0, none⟩) (sec l).pay.length c1) ∧ w'.cell? ⟨g, 0, none⟩ = some (.int .u8 (bat (sec l).pay 0)) ∧ w'.cell? ⟨g, 1, none⟩ = some (.int .u8 (bat (sec l).pay 1))))
  go_region_held3 (fun w' => w'.cell? ⟨w1.heap.size, 1, none⟩ = some (.int .u64 (sec l).turn) ∧ w'.cell? ⟨w1.heap.size, 2, none⟩ = some (.slice (some ⟨g, 0, none⟩) (sec l).pay.length c1) ∧ w'.cell? ⟨g, 0, none⟩ = some (.int .u8 (bat (sec l).pay 0)) ∧ w'.cell? ⟨g, 1, none⟩ = some (.int .u8 (bat (sec l).pay 1)))
    (first
      | exact K.out _ (below_drewN _ 1)
      | exact K.out _ ((show Below W.heap.size W W.drew from below_drewN _ 1).alloc (Nat.le_refl _) _)
      | exact K.out _ ((((((show Below W.heap.size W W.drew from below_drewN _ 1).alloc (Nat.le_refl _) _).setCell (p := ⟨W.heap.size, 0, none⟩) (Nat.le_refl _) _).setCell (p := ⟨W.heap.size, 1, none⟩) (Nat.le_refl _) _).setCell (p := ⟨W.heap.size, 2, none⟩) (Nat.le_refl _) _).setCell (p := ⟨W.heap.size, 3, none⟩) (Nat.le_refl _) _))
    ((fail))
  go_wp2_with fail
  refine (CM.out _).mono ?_
  rintro e w5 ⟨rfl, hb5⟩
  have HBa := Lib.hid (((Below.refl W.heap.size W).alloc (Nat.le_refl _) (.cells #[.int .u64 (sec l).turn, .int .u64 (bat (sec l).pay 0), .int .i64 (bat (sec l).pay 1), .slice D ((sec l).pay.length - 2) (c1 - 2)] 36)).trans (below_drewN _ 1))
  have hba2 : W.heap.size ≤ (W.alloc (.cells #[.int .u64 (sec l).turn, .int .u64 (bat (sec l).pay 0), .int .i64 (bat (sec l).pay 1), .slice D ((sec l).pay.length - 2) (c1 - 2)] 36)).drew.heap.size := HBa.out.size
  have HBb := Lib.hid (HBa.out.trans (hb5.mono hba2))
  have HZ5 := Lib.hid (HB1.out.step HBb.out)
  have HO5 := Lib.hid (own_kept HO1.out HBb.out)
  have BL5 : w5.heap[W.heap.size]? = some (.cells [.int .u64 (sec l).turn, .int .u64 (bat (sec l).pay 0), .int .i64 (bat (sec l).pay 1), .slice D ((sec l).pay.length - 2) (c1 - 2)].toArray 36 (0, 0)) := (hb5.block W.heap.size (lt_of_block (show (W.alloc (.cells #[.int .u64 (sec l).turn, .int .u64 (bat (sec l).pay 0), .int .i64 (bat (sec l).pay 1), .slice D ((sec l).pay.length - 2) (c1 - 2)] 36)).drew.heap[W.heap.size]? = _ from heap_alloc_new W (.cells #[.int .u64 (sec l).turn, .int .u64 (bat (sec l).pay 0), .int .i64 (bat (sec l).pay 1), .slice D ((sec l).pay.length - 2) (c1 - 2)] 36)))).trans (heap_alloc_new W (.cells #[.int .u64 (sec l).turn, .int .u64 (bat (sec l).pay 0), .int .i64 (bat (sec l).pay 1), .slice D ((sec l).pay.length - 2) (c1 - 2)] 36))
  have v0 := block_cell (L := [.int .u64 (sec l).turn, .int .u64 (bat (sec l).pay 0), .int .i64 (bat (sec l).pay 1), .slice D ((sec l).pay.length - 2) (c1 - 2)]) BL5 0
  have v1 := block_cell (L := [.int .u64 (sec l).turn, .int .u64 (bat (sec l).pay 0), .int .i64 (bat (sec l).pay 1), .slice D ((sec l).pay.length - 2) (c1 - 2)]) BL5 1
  have v2 := block_cell (L := [.int .u64 (sec l).turn, .int .u64 (bat (sec l).pay 0), .int .i64 (bat (sec l).pay 1), .slice D ((sec l).pay.length - 2) (c1 - 2)]) BL5 2
  have v3 := block_cell (L := [.int .u64 (sec l).turn, .int .u64 (bat (sec l).pay 0), .int .i64 (bat (sec l).pay 1), .slice D ((sec l).pay.length - 2) (c1 - 2)]) BL5 3
  obtain ⟨k0, k1, k2, k3, f0, f1, f2, f3⟩ := HZ5.out.cells
  clear hb5 BL5 hba2 x0 x1 x2 y0 y1
  go_wp2
  refine bodyPost_ret (v := .tuple #[.agg #[.int .u64 0, .int .u64 0, .int .i64 0, .slice none 0 0], .int .i64 11]) (by simp [results, Try.results18, go_sem, k0, k1, k2, k3]) rfl ⟨by rw [HF.out]; exact partAt_blank rfl, ?_⟩
  exact HZ5.out.stored _ _ _ _

theorem part_any (A : Option Addr) (n c : Nat) (l : List Int) (w : World) (hn : l.length = n) (h : Rd w A (bys l)) (hI : IsB l) (hnc : n ≤ c) :
    Calls Try.prog 18 #[.slice A n c] w fun e w' => partAt e w.heap.size w' (frm l) ∧ Below w.heap.size w w' := by
  by_cases he : (sec l).err = 0
  · by_cases hk : (sec l).kind = 113
    · by_cases hp : 2 ≤ (sec l).pay.length
      · cases hm : mayB (sec l).turn (bat (sec l).pay 0) (bat (sec l).pay 1) ((sec l).pay.drop 2).length with
        | true => exact part_good A n c l w hn h hI hnc he hk hp hm
        | false => exact part_may A n c l w hn h hI hnc he hk hp hm
      · exact part_short A n c l w hn h hI hnc he hk (by omega)
    · exact part_kind A n c l w hn h hI hnc he hk
  · exact part_err A n c l w hn h hI hnc he
end Go.Proofs.Ytdgciajdnmgcnaa
