/- Contracts: slices.DeleteFunc of extents, space.Remove, space.Fit. -/
import Derived.Test.YtilmlblejopbmaaSpAdd2
import Derived.Lib.SliceRun
namespace Go.Proofs.Ytilmlblejopbmaa
open Go.RowKit
set_option linter.unusedVariables false

section
variable {P : Program}
theorem run_clear_k (w : World) (t e ty : TypeId) (z : Value) (ht : P.underlying t = some (.slice e)) (hv : ∀ w, (zeroValue e).run P w = .ok z w) (b o n c : Nat) (hn : 0 < n) (L : List Value) (hL : (Builtin.zeroCells z.cells n).toList = L)
    (hc : ∀ j, j < L.length → (w.cell? ⟨b, o + j, none⟩).isSome = true) (hf : ∀ j, j < L.length → w.frozen? ⟨b, o + j, none⟩ = false) (h1 : ∀ v ∈ L, v.oneCell' = true) :
    (Builtin.clear_ #[t] ty #[.slice (some ⟨b, o, none⟩) n c]).run P w = .ok (.tuple #[]) (w.setCells b o L) := by
  have hst := run_storeCells_cells (P := P) b o L 0 w (by simpa using hc) (by simpa using hf) h1
  simp only [Nat.add_zero] at hst
  obtain ⟨m, rfl⟩ : ∃ m, n = m + 1 := ⟨n - 1, by omega⟩
  simp [Builtin.clear_, run_underlying ht, hv, hL, hst]
theorem run_from3 {t e : TypeId} {k : Nat} (kh : IntKind) (ht : P.underlying t = some (.slice e)) (hsz : (P.info? e).map (·.size) = some k) (g n c lo : Nat) (h : Int) (hh : h = lo) (h2 : lo ≤ n) (h3 : lo < c) :
    ∀ W : World, (Instr.slice t (.slice (some ⟨g, 0, none⟩) n c) (some (.int kh h)) none none).run P W = .ok (.slice (some ⟨g, lo * k, none⟩) (n - lo) (c - lo)) W := by
  intro W
  subst hh
  have hel : P.elem t = e := by simp [Program.elem, ht]
  have hu : P.underlying t = some (.slice (P.elem t)) := by rw [hel]; exact ht
  have hne : ¬ c = lo := by omega
  cases hi' : P.info? e with
  | none => rw [hi'] at hsz; simp at hsz
  | some i =>
    rw [hi'] at hsz
    simp at hsz
    rw [run_slice_l W t (some ⟨g, 0, none⟩) n c hu kh (lo : Int) (by omega) (by omega), hel]
    simp [sizeOf, typeInfo, hi', sliced, Result.andThen, hsz, Addr.add, hne]
    try exact fun h => h.symm
end
theorem own_setCells {base e size n cap g : Nat} : ∀ (vs : List Value) (o : Nat) (w : World) (L : List Value), w.ownsRow base e size (.slice (some ⟨g, 0, none⟩) n cap) n L →
    ∃ L', (w.setCells g o vs).ownsRow base e size (.slice (some ⟨g, 0, none⟩) n cap) n L' ∧ L'.take o = L.take o ∧ w.grownBy (w.setCells g o vs) (some g)
  | [], o, w, L, h => ⟨L, h, rfl, ⟨rfl, rfl, rfl, Nat.le_refl _, fun _ _ _ => rfl⟩⟩
  | v :: vs, o, w, L, h => by
    obtain ⟨h1, g1⟩ := h.stored o v
    obtain ⟨L', h2, t2, g2⟩ := own_setCells vs (o + 1) _ _ h1
    refine ⟨L', h2, ?_, ⟨g2.os.trans g1.os, g2.tape.trans g1.tape, g2.output.trans g1.output, Nat.le_trans g1.size g2.size, fun k hk hne => (g2.block k (Nat.lt_of_lt_of_le hk g1.size) hne).trans (g1.block k hk hne)⟩⟩
    have := congrArg (List.take o) t2
    rw [List.take_take, List.take_take] at this
    have e : min o (o + 1) = o := by omega
    rw [e] at this
    rw [this, List.take_set_of_le (Nat.le_refl _)]
theorem own_pref {w : World} {base e size n i : Nat} {g cap : Nat} {L : List Value} (h : w.ownsRow base e size (.slice (some ⟨g, 0, none⟩) n cap) n L) (hi : i ≤ n) : w.ownsRow base e size (.slice (some ⟨g, 0, none⟩) i cap) i (L.take (i * size)) := by
  obtain ⟨hl, h⟩ := h
  rcases h with ⟨h1, _⟩ | ⟨g', cap', cur, h1, h2, h3, h4, h5, h6, h7⟩
  · simp at h1
  · simp only [Value.slice.injEq, Option.some.injEq, Addr.mk.injEq, and_true, true_and] at h1
    obtain ⟨rfl, rfl⟩ := h1
    refine ⟨by rw [List.length_take, hl]; exact Nat.min_eq_left (Nat.mul_le_mul_right _ hi), .inr ⟨g, cap, cur, rfl, h2, h3, by omega, h5, h6, ?_⟩⟩
    rw [← h7, List.take_take]
    congr 1
    exact (Nat.min_eq_left (Nat.mul_le_mul_right _ hi)).symm
theorem extRow_set (l : List Ext) (i : Nat) (y : Ext) (hi : i < l.length) : (((((l.map rowExt).flatten).set (i * 3) (.int .u64 y.1)).set (i * 3 + 1) (.int .i64 y.2.1)).set (i * 3 + 2) (.int .i64 y.2.2)) = ((l.set i y).map rowExt).flatten := by
  obtain ⟨P, z, Q, hl, hP⟩ : ∃ P z Q, l = P ++ z :: Q ∧ P.length = i := ⟨l.take i, l[i], l.drop (i + 1), by simp, by simp; omega⟩
  subst hl
  subst hP
  have hlen : (P.map rowExt).flatten.length = P.length * 3 := by
    rw [flat_len 3 _ (extRow_len P)]; simp
  have e : (P ++ z :: Q).set P.length y = P ++ y :: Q := by simp
  rw [e]
  simp only [List.map_append, List.map_cons, List.flatten_append, List.flatten_cons]
  generalize (P.map rowExt).flatten = F at *
  generalize (Q.map rowExt).flatten = G at *
  rw [← hlen]
  simp [rowExt]
theorem extRows_take (S : List Ext) (a : Nat) (ha : a ≤ S.length) : ((S.map rowExt).flatten).take (a * 3) = ((S.take a).map rowExt).flatten := by
  conv => lhs; rw [← List.take_append_drop a S, List.map_append, List.flatten_append]
  rw [List.take_append_of_le_length (by rw [extRows_len, List.length_take]; omega), List.take_of_length_le (by rw [extRows_len, List.length_take]; omega)]
theorem filt_succ (p : Ext → Bool) (l : List Ext) (k : Nat) (h : k < l.length) : (l.take (k + 1)).filter p = (l.take k).filter p ++ (if p l[k] then [l[k]] else []) := by
  rw [List.take_add_one, List.getElem?_eq_getElem h, List.filter_append]
  congr 1
  simp [List.filter_cons]
set_option maxRecDepth 100000 in
set_option maxHeartbeats 4000000 in
theorem deletef_any (g : Nat) (bs : Nat) (ob : Obj) (p : Ext → Bool) (he : ∀ args (w1 : World), (callFunc g args).run Try.prog w1 = .ok (.enter g args) w1) (base : Nat) (v : Value) (n : Nat) (xs : List Ext) (w : World) (hn : xs.length = n)
    (h : w.ownsRow base 28 3 v n ((xs.map rowExt).flatten)) (hbs : w.heap[bs]? = some ob) (hbb : bs < base) (hbase : base ≤ w.heap.size) (hcap : n ≤ 5864062014700)
    (hp : ∀ (x : Ext) (w1 : World), w1.heap[bs]? = some ob → Calls Try.prog g #[.agg #[.int .u64 x.1, .int .i64 x.2.1, .int .i64 x.2.2], .pointer (some ⟨bs, 0, none⟩)] w1 fun e w' => e = .returned (.bool (p x)) ∧ Below w1.heap.size w1 w') :
    Calls Try.prog 53 #[v, .func (.func g) #[] #[.pointer (some ⟨bs, 0, none⟩)]] w fun e w' => ∃ v', e = .returned v' ∧ w'.ownsRow base 28 3 v' (xs.filter (fun x => !p x)).length (((xs.filter (fun x => !p x)).map rowExt).flatten) ∧ Below base w w' := by
  have hbl := (Array.getElem?_eq_some_iff.1 hbs).1
  obtain ⟨A, c, rfl, hnc, hcm, hrd, hlen⟩ := own_rd h
  have CI := Lib.hid (indexf_any g (.pointer (some ⟨bs, 0, none⟩)) p he A n c xs w hn hrd hcap (fun x _ w1 hb => hp x w1 ((hb.block bs hbl).trans hbs)))
  have HP := Lib.hid hp
  have HBS := Lib.hid hbs
  have HN := Lib.hid hn
  have HO0 := Lib.hid h
  cases hfi : xs.findIdx? p with
  | none =>
    have hidx : idxE p xs = -1 := by unfold idxE; rw [hfi]
    rw [hidx] at CI
    have HF : Hid (xs.filter (fun x => !p x) = xs) := Lib.hid (by
      rw [List.filter_eq_self]
      intro x hx
      have := (List.findIdx?_eq_none_iff.1 hfi) x hx
      simp [this])
    clear hfi hidx h hbs hrd hlen hp hn
    go_enter Try.func53, Try.ntmps53
    go_wp2_with fail
    refine CI.out.mono ?_
    rintro e w1 ⟨rfl, hb1⟩
    have HB1 := Lib.hid hb1
    clear hb1
    go_wp2
    go_ret
    refine ⟨_, rfl, ?_, ?_⟩
    · rw [HF.out, HN.out]; exact own_kept HO0.out HB1.out
    · exact HB1.out.mono hbase
  | some i0 =>
    obtain ⟨hi0, hp0, hlt0⟩ := List.findIdx?_eq_some_iff_getElem.1 hfi
    have hidx : idxE p xs = (i0 : Int) := by unfold idxE; rw [hfi]
    rw [hidx] at CI
    obtain ⟨gb, rfl, hgb⟩ : ∃ gb, A = some ⟨gb, 0, none⟩ ∧ base ≤ gb := by
      rcases h.2 with ⟨h1, _⟩ | ⟨gb, cap, cur, h1, h2, _⟩
      · simp at h1; omega
      · simp at h1; exact ⟨gb, h1.1, h2⟩
    have hin : i0 < n := by omega
    have HT0 : Hid (xs.take i0 = (xs.take (i0 + 1)).filter (fun x => !p x)) := Lib.hid (by
      rw [filt_succ _ xs i0 hi0, hp0]
      simp only [Bool.not_true, Bool.false_eq_true, if_false, List.append_nil]
      symm
      rw [List.filter_eq_self]
      intro x hx
      obtain ⟨j, hj, rfl⟩ := List.mem_take_iff_getElem.1 hx
      simpa using hlt0 j (by omega))
    have cutA' := run_cut_k (P := Try.prog) .i64 Try.underlying22 (e := 28) (by kernel_rfl) (some ⟨gb, 0, none⟩) n c
    clear hfi hidx h hbs hrd hlen hp hn hp0 hlt0 hi0
    go_enter Try.func53, Try.ntmps53
    go_wp2_with fail
    refine CI.out.mono ?_
    rintro e w1 ⟨rfl, hb1⟩
    have HO1 := Lib.hid (own_kept HO0.out hb1)
    have HB1 := Lib.hid (hb1.mono hbase)
    clear hb1
    go_wp2_with fail
    go_loopw [6, 5] (fun sj si wr => ∃ (j i : Nat) (ys : List Ext), i < j ∧ j ≤ n ∧ sj = .int .i64 j ∧ si = .int .i64 i ∧ Hid (ys.length = n) ∧ Hid (ys.take i = (xs.take j).filter (fun x => !p x)) ∧ Hid (ys.drop j = xs.drop j) ∧ Hid (wr.ownsRow base 28 3 (.slice (some ⟨gb, 0, none⟩) n c) n ((ys.map rowExt).flatten)) ∧ Hid (Below base w wr)) (fun j _ _ => n - (intOf j).toNat)
    case atStart => exact ⟨i0 + 1, i0, xs, by omega, by omega, by go_num, rfl, HN, HT0, Lib.hid rfl, HO1, HB1⟩
    case round =>
      obtain ⟨wo, hwo⟩ : ∃ wo : World, wo = wr := ⟨_, rfl⟩
      subst hwo
      obtain ⟨j, i, ys, hij, hj, rfl, rfl, HYL, HYT, HYD, HO, HB⟩ := hrel
      by_cases hlt : j < n
      · have hjx : j < xs.length := by have := HN.out; omega
        have hjy : j < ys.length := by have := HYL.out; omega
        have hyx : ys[j] = xs[j] := by
          have h9 : ys[j]? = xs[j]? := by
            have := congrArg List.head? HYD.out
            simpa [List.head?_drop] using this
          rw [List.getElem?_eq_getElem hjy, List.getElem?_eq_getElem hjx] at h9
          exact Option.some.inj h9
        obtain ⟨_, _, e0, _, _, hrdY, _⟩ := own_rd HO.out
        injection e0 with e1 e2 e3
        subst e1
        obtain ⟨b', o', hbo, hrow⟩ := hrdY.at_row (extRow_len ys) (by decide) (i := j) (r := rowExt ys[j]) (by simp [List.getElem?_eq_getElem hjy])
        simp only [Option.some.injEq, Addr.mk.injEq, and_true] at hbo
        obtain ⟨rfl, rfl⟩ := hbo
        rw [hyx] at hrow
        have HFS := Lib.hid (filt_succ (fun x => !p x) xs j hjx)
        have HDD : Hid (ys.drop (j + 1) = xs.drop (j + 1)) := Lib.hid (by
          have := congrArg List.tail HYD.out
          rw [List.drop_eq_getElem_cons hjy, List.drop_eq_getElem_cons hjx] at this
          simpa using this)
        have c0 := hrow 0 _ rfl
        have c1 := hrow 1 _ rfl
        have c2 := hrow 2 _ rfl
        simp only [Nat.zero_add, Nat.add_zero] at c0 c1 c2
        have b1 : (0 : Int) ≤ (j : Int) ∧ (j : Int) < (n : Int) := by omega
        have b2 : (0 : Int) ≤ (i : Int) ∧ (i : Int) < (n : Int) := by omega
        clear hrow hrdY hyx e2 e3
        generalize xs[j] = x at *
        have hz := HB.out.size
        have hgl := (HO.out.lt gb rfl).2
        obtain ⟨wb, hwb⟩ : ∃ wb : World, wb = wo.alloc (.cells #[.int .u64 x.1, .int .i64 x.2.1, .int .i64 x.2.2] 28) := ⟨_, rfl⟩
        have HOb : Hid (wb.ownsRow base 28 3 (.slice (some ⟨gb, 0, none⟩) n c) n ((ys.map rowExt).flatten)) := by rw [hwb]; exact Lib.hid (HO.out.alloc _)
        have HBb : Hid (Below base w wb) := by rw [hwb]; exact Lib.hid (HB.out.alloc (Nat.le_trans hbase hz) _)
        have hblk : wb.heap[wo.heap.size]? = some (.cells #[.int .u64 x.1, .int .i64 x.2.1, .int .i64 x.2.2] 28 (0, 0)) := by rw [hwb]; exact heap_alloc_new _ _
        have HBK := Lib.hid hblk
        have hzb : wb.heap.size = wo.heap.size + 1 := by rw [hwb]; simp
        have hbox := (HBb.out.block bs hbb).trans HBS.out
        have CP := Lib.hid (HP.out x wb hbox)
        clear hblk hbox
        cases hpx : p x with
        | true =>
          rw [hpx] at CP
          have HF2 : Hid (ys.take i = (xs.take (j + 1)).filter (fun x => !p x)) := Lib.hid (by rw [HFS.out, hpx, HYT.out]; simp)
          clear hpx
          go_wp2_with fail
          rw [← hwb]
          clear hwb c0 c1 c2
          refine CP.out.mono ?_
          rintro e w3 ⟨rfl, hb3⟩
          have HO3 := Lib.hid (own_kept HOb.out hb3)
          have HB3 := Lib.hid (HBb.out.trans (hb3.mono (by have := HBb.out.size; omega)))
          clear hb3
          go_wp2
          go_roundw
          case rel => (repeat apply Exists.intro); exact ⟨⟨j + 1, i, ys, by omega, by omega, by go_num, rfl, HYL, HF2, HDD, HO3, HB3⟩, rfl⟩
          case measure => simp [intOf]; omega
        | false =>
          rw [hpx] at CP
          have HYL2 : Hid ((ys.set i x).length = n) := Lib.hid (by simpa using HYL.out)
          have HF2 : Hid ((ys.set i x).take (i + 1) = (xs.take (j + 1)).filter (fun x => !p x)) := Lib.hid (by
            have hil : i < (ys.set i x).length := by rw [HYL2.out]; omega
            rw [HFS.out, hpx, List.take_add_one, List.getElem?_eq_getElem hil, List.take_set_of_le (Nat.le_refl _), HYT.out]
            simp)
          have HD2 : Hid ((ys.set i x).drop (j + 1) = xs.drop (j + 1)) := Lib.hid (by rw [List.drop_set_of_lt (by omega)]; exact HDD.out)
          clear hpx
          go_wp2_with fail
          rw [← hwb]
          clear hwb c0 c1 c2
          refine CP.out.mono ?_
          rintro e w3 ⟨rfl, hb3⟩
          have hx3 := (hb3.block wo.heap.size (by omega)).trans HBK.out
          have hc3 := fun k => cell_of_row w3 wo.heap.size k _ _ _ hx3
          have HO3 := Lib.hid (own_kept HOb.out hb3)
          have HB3 := Lib.hid (HBb.out.trans (hb3.mono (by have := HBb.out.size; omega)))
          have hil : i < ys.length := by rw [HYL.out]; omega
          have hrl := extRows_len ys
          obtain ⟨u0, hu0⟩ : ∃ u, w3.cell? ⟨gb, i * 3, none⟩ = some u := ⟨_, (HO3.out.cellAt (i * 3) (by omega)).trans (List.getElem?_eq_getElem (by rw [hrl]; omega))⟩
          obtain ⟨u1, hu1⟩ : ∃ u, w3.cell? ⟨gb, i * 3 + 1, none⟩ = some u := ⟨_, (HO3.out.cellAt (i * 3 + 1) (by omega)).trans (List.getElem?_eq_getElem (by rw [hrl]; omega))⟩
          obtain ⟨u2, hu2⟩ : ∃ u, w3.cell? ⟨gb, i * 3 + 2, none⟩ = some u := ⟨_, (HO3.out.cellAt (i * 3 + 2) (by omega)).trans (List.getElem?_eq_getElem (by rw [hrl]; omega))⟩
          have hf0 := HO3.out.frozenAt (i * 3)
          have hf1 := HO3.out.frozenAt (i * 3 + 1)
          have hf2 := HO3.out.frozenAt (i * 3 + 2)
          have HO4 : Hid ((((w3.setCell ⟨gb, i * 3, none⟩ (.int .u64 x.1)).setCell ⟨gb, i * 3 + 1, none⟩ (.int .i64 x.2.1)).setCell ⟨gb, i * 3 + 2, none⟩ (.int .i64 x.2.2)).ownsRow base 28 3 (.slice (some ⟨gb, 0, none⟩) n c) n (((ys.set i x).map rowExt).flatten)) := Lib.hid (by
            rw [← extRow_set ys i x hil]
            exact (((HO3.out.stored (i * 3) (.int .u64 x.1)).1.stored (i * 3 + 1) (.int .i64 x.2.1)).1.stored (i * 3 + 2) (.int .i64 x.2.2)).1)
          have HB4 : Hid (Below base w (((w3.setCell ⟨gb, i * 3, none⟩ (.int .u64 x.1)).setCell ⟨gb, i * 3 + 1, none⟩ (.int .i64 x.2.1)).setCell ⟨gb, i * 3 + 2, none⟩ (.int .i64 x.2.2))) := Lib.hid (((HB3.out.setCell (p := ⟨gb, i * 3, none⟩) hgb _).setCell (p := ⟨gb, i * 3 + 1, none⟩) hgb _).setCell (p := ⟨gb, i * 3 + 2, none⟩) hgb _)
          clear hb3 hx3 hrl
          go_wp2
          go_roundw
          case rel => (repeat apply Exists.intro); exact ⟨⟨j + 1, i + 1, ys.set i x, by omega, by omega, by go_num, by go_num, HYL2, HF2, HD2, HO4, HB4⟩, rfl⟩
          case measure => simp [intOf]; omega
      · obtain rfl : j = n := by omega
        have HF : Hid (ys.take i = xs.filter (fun x => !p x)) := Lib.hid (by rw [HYT.out, List.take_of_length_le (by have := HN.out; omega)])
        have HFL : Hid ((xs.filter (fun x => !p x)).length = i) := Lib.hid (by rw [← HF.out, List.length_take, HYL.out]; omega)
        have cf := run_from3 (P := Try.prog) (k := 3) .i64 Try.underlying22 (e := 28) (by kernel_rfl) gb j c i (i : Int) rfl (by omega) (by omega)
        have ch := cutA' i (i : Int) rfl (by omega)
        obtain ⟨L, hL⟩ : ∃ L, (Builtin.zeroCells (Value.agg #[.int .u64 0, .int .i64 0, .int .i64 0]).cells (j - i)).toList = L := ⟨_, rfl⟩
        have hLl : L.length = (j - i) * 3 := by rw [← hL]; simp [Builtin.zeroCells, Value.cells]
        have hL1 : ∀ v ∈ L, v.oneCell' = true := by
          rw [← hL]
          intro v hv
          simp [Builtin.zeroCells, Value.cells] at hv
          obtain ⟨a, ha, rfl⟩ := hv
          have h3 : a % 3 = 0 ∨ a % 3 = 1 ∨ a % 3 = 2 := by omega
          rcases h3 with h3 | h3 | h3 <;> rw [h3] <;> rfl
        have hrl := extRows_len ys
        rw [HYL.out] at hrl
        have hclr := fun ty => run_clear_k (P := Try.prog) wo 22 28 ty (z := .agg #[.int .u64 0, .int .i64 0, .int .i64 0]) Try.underlying22 (fun w => by kernel_rfl) gb (i * 3) (j - i) (c - i) (by omega) L hL
          (fun k hk => by rw [HO.out.cellAt (i * 3 + k) (by omega), List.getElem?_eq_getElem (by rw [hrl]; omega)]; rfl) (fun k hk => HO.out.frozenAt (i * 3 + k)) hL1
        obtain ⟨L', ho', ht', hg'⟩ := own_setCells L (i * 3) wo _ HO.out
        have HO' := Lib.hid (own_pref ho' (show i ≤ j by omega))
        have HT' : Hid (L'.take (i * 3) = ((xs.filter (fun x => !p x)).map rowExt).flatten) := Lib.hid (by rw [ht', extRows_take _ _ (by rw [HYL.out]; omega), HF.out])
        have HB' := Lib.hid (HB.out.grown hg' (by have := HB.out.size; omega) (fun k e => by injection e with e; omega))
        clear hLl hL1 hrl ho' ht' hg' cutA' hL
        generalize wo.setCells gb (i * 3) L = wz at *
        go_wp2
        go_ret
        exact ⟨_, rfl, by rw [HFL.out, ← HT'.out]; exact HO'.out, HB'.out⟩
end Go.Proofs.Ytilmlblejopbmaa
