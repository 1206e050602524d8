/- Contracts: moves.May, slices.Index, slices.Delete of extents. -/
import Derived.Test.YtmipfmeafbeegaaMvPure
import Derived.Test.YtmipfmeafbeegaaSpCut
import Derived.StillTailTactics
namespace Go.Proofs.Ytmipfmeafbeegaa
open Go.RowKit
set_option linter.unusedVariables false

def may5 (C s f t n : Int) : Bool := decide (f ≠ t) && oneB C s f n && oneB C s t n
theorem may5_iff (C s f t n : Int) : may5 C s f t n = true ↔ (f ≠ t ∧ 0 ≤ C ∧ C ≤ 65536 ∧ 1 ≤ s ∧ 1 ≤ n ∧ n ≤ 9 ∧ 0 ≤ f ∧ f ≤ C - n ∧ 0 ≤ t ∧ t ≤ C - n) := by
  unfold may5 oneB
  simp only [Bool.and_eq_true, decide_eq_true_eq]
  omega
set_option maxHeartbeats 2000000 in
theorem may_true (C s f t n : Int) (w : World) (h : may5 C s f t n = true) :
    Calls Try.prog 18 #[.int .i64 C, .agg #[.int .u64 s, .int .i64 f, .int .i64 t, .int .i64 n]] w fun e w' => e = .returned (.bool true) ∧ Below w.heap.size w w' := by
  obtain ⟨h0, h1, h2, h3, h4, h5, h6, h7, h8, h9⟩ := (may5_iff C s f t n).1 h
  have q : (f == t) = false := by simpa using h0
  clear h h0
  go_enter Try.func18, Try.ntmps18
  go_wp2
  go_ret
  exact ⟨rfl, below1 _ _⟩
set_option maxHeartbeats 2000000 in
theorem may_false (C s f t n : Int) (w : World) (hC : 0 ≤ C) (hC2 : C ≤ 65536) (h : may5 C s f t n = false) :
    Calls Try.prog 18 #[.int .i64 C, .agg #[.int .u64 s, .int .i64 f, .int .i64 t, .int .i64 n]] w fun e w' => e = .returned (.bool false) ∧ Below w.heap.size w w' := by
  have hn : ¬ (f ≠ t ∧ 0 ≤ C ∧ C ≤ 65536 ∧ 1 ≤ s ∧ 1 ≤ n ∧ n ≤ 9 ∧ 0 ≤ f ∧ f ≤ C - n ∧ 0 ≤ t ∧ t ≤ C - n) := by
    rw [← may5_iff, h]; simp
  clear h
  by_cases hs : 1 ≤ s
  · by_cases hn1 : 1 ≤ n
    · by_cases hn2 : n ≤ 9
      · by_cases hft : f = t
        · have q : (f == t) = true := by simpa using hft
          have hft' := Lib.hid hft
          clear hft hn
          go_enter Try.func18, Try.ntmps18
          go_wp2
          go_ret
          exact ⟨rfl, below1 _ _⟩
        · have q : (f == t) = false := by simpa using hft
          by_cases c1 : 0 ≤ f
          · by_cases c2 : f ≤ C - n
            · by_cases c3 : 0 ≤ t
              · have c4 : C - n < t := by omega
                clear hn hft
                go_enter Try.func18, Try.ntmps18
                go_wp2
                go_ret
                exact ⟨bool_ (by simp; omega), below1 _ _⟩
              · have c3' : t < 0 := by omega
                clear hn hft c3
                go_enter Try.func18, Try.ntmps18
                go_wp2
                go_ret
                exact ⟨rfl, below1 _ _⟩
            · have c3' : C - n < f := by omega
              clear hn hft c2
              go_enter Try.func18, Try.ntmps18
              go_wp2
              go_ret
              exact ⟨rfl, below1 _ _⟩
          · have c3' : f < 0 := by omega
            clear hn hft c1
            go_enter Try.func18, Try.ntmps18
            go_wp2
            go_ret
            exact ⟨rfl, below1 _ _⟩
      · have c3' : 9 < n := by omega
        clear hn hn2
        go_enter Try.func18, Try.ntmps18
        go_wp2
        go_ret
        exact ⟨rfl, below1 _ _⟩
    · have c3' : n < 1 := by omega
      clear hn hn1
      go_enter Try.func18, Try.ntmps18
      go_wp2
      go_ret
      exact ⟨rfl, below1 _ _⟩
  · have c3' : s < 1 := by omega
    clear hn hs
    go_enter Try.func18, Try.ntmps18
    go_wp2
    go_ret
    exact ⟨rfl, below1 _ _⟩

theorem may_any (C : Int) (m : Mov) (w : World) :
    Calls Try.prog 18 #[.int .i64 C, .agg #[.int .u64 m.1, .int .i64 m.2.1, .int .i64 m.2.2.1, .int .i64 m.2.2.2]] w fun e w' => e = .returned (.bool (mayB C m)) ∧ Below w.heap.size w w' := by
  obtain ⟨s, f, t, n⟩ := m
  have e0 : mayB C (s, f, t, n) = may5 C s f t n := rfl
  rw [e0]
  by_cases c1 : 0 ≤ C
  · by_cases c2 : C ≤ 65536
    · cases h : may5 C s f t n with
      | true => exact may_true C s f t n w h
      | false => exact may_false C s f t n w c1 c2 h
    · have c2' : 65536 < C := by omega
      have e : may5 C s f t n = false := by
        cases h : may5 C s f t n with
        | true => have := (may5_iff _ _ _ _ _).1 h; omega
        | false => rfl
      rw [e]
      clear c2 e e0
      go_enter Try.func18, Try.ntmps18
      go_wp2
      go_ret
      exact ⟨rfl, below1 _ _⟩
  · have c1' : C < 0 := by omega
    have e : may5 C s f t n = false := by
      cases h : may5 C s f t n with
      | true => have := (may5_iff _ _ _ _ _).1 h; omega
      | false => rfl
    rw [e]
    clear c1 e e0
    go_enter Try.func18, Try.ntmps18
    go_wp2
    go_ret
    exact ⟨rfl, below1 _ _⟩
theorem eqE_parts (x a : Ext) : ((x.1 == a.1) = true ∧ (x.2.1 == a.2.1) = true ∧ (x.2.2 == a.2.2) = true ∧ decide (a = x) = true) ∨ ((x.1 == a.1) = false ∧ decide (a = x) = false) ∨ ((x.1 == a.1) = true ∧ (x.2.1 == a.2.1) = false ∧ decide (a = x) = false) ∨ ((x.1 == a.1) = true ∧ (x.2.1 == a.2.1) = true ∧ (x.2.2 == a.2.2) = false ∧ decide (a = x) = false) := by
  have e : decide (a = x) = decide (x = a) := decide_eq_decide.2 ⟨Eq.symm, Eq.symm⟩
  rw [e]
  clear e
  obtain ⟨x1, x2, x3⟩ := x
  obtain ⟨a1, a2, a3⟩ := a
  by_cases h1 : x1 = a1 <;> by_cases h2 : x2 = a2 <;> by_cases h3 : x3 = a3 <;> simp [h1, h2, h3]
set_option maxRecDepth 100000 in
set_option maxHeartbeats 2000000 in
theorem index_any (A : Option Addr) (n c : Nat) (xs : List Ext) (e : Ext) (w : World) (hn : xs.length = n) (h : Rd w A ((xs.map rowExt).flatten)) (hcap : n ≤ 5864062014700) :
    Calls Try.prog 33 #[.slice A n c, .agg #[.int .u64 e.1, .int .i64 e.2.1, .int .i64 e.2.2]] w fun e' w' => e' = .returned (.int .i64 (idxE (fun y => decide (y = e)) xs)) ∧ Below w.heap.size w w' := by
  obtain ⟨w0, hw0⟩ : ∃ w0 : World, w0 = w.alloc (.cells #[.int .u64 e.1, .int .i64 e.2.1, .int .i64 e.2.2] 26) := ⟨_, rfl⟩
  have hb0 : Below w.heap.size w w0 := by rw [hw0]; exact below1 _ _
  have hx0 : w0.heap[w.heap.size]? = some (.cells #[.int .u64 e.1, .int .i64 e.2.1, .int .i64 e.2.2] 26 (0, 0)) := by rw [hw0]; exact heap_alloc_new _ _
  have hz0 : w0.heap.size = w.heap.size + 1 := by rw [hw0]; simp
  have HN := Lib.hid hn
  have HR := Lib.hid (h.kept hb0)
  have HB0 := Lib.hid hb0
  have HX0 := Lib.hid hx0
  clear hn h hb0 hx0
  go_enter Try.func33, Try.ntmps33
  go_wp2_with fail
  rw [← hw0]
  clear hw0
  go_loopw [8] (fun i wr => ∃ k : Nat, k ≤ n ∧ i = .int .i64 k ∧ Hid (∀ x ∈ xs.take k, (fun y => decide (y = e)) x = false) ∧ Hid (Below w0.heap.size w0 wr)) (fun i _ => n - (intOf i).toNat)
  case atStart => exact ⟨0, by omega, rfl, Lib.hid (by simp), Lib.hid (Below.refl _ _)⟩
  case round =>
    obtain ⟨k, hk, rfl, HF, HB⟩ := hrel
    by_cases hlt : k < n
    · have hkx : k < xs.length := by have := HN.out; omega
      obtain ⟨b, o, rfl, hrow⟩ := (HR.out.kept HB.out).at_row (extRow_len xs) (by decide) (i := k) (r := rowExt xs[k]) (by simp [List.getElem?_eq_getElem hkx])
      have hz := HB.out.size
      have HT : Hid (xs.take (k + 1) = xs.take k ++ [xs[k]]) := Lib.hid (by rw [List.take_add_one, List.getElem?_eq_getElem hkx]; rfl)
      have HX : Hid (decide (xs[k] = e) = true → xs.findIdx? (fun y => decide (y = e)) = some k) := Lib.hid (fun hpx => by
        rw [List.findIdx?_eq_some_iff_getElem]
        refine ⟨hkx, hpx, fun j hj => ?_⟩
        have := HF.out xs[j] (by rw [List.mem_take_iff_getElem]; exact ⟨j, by omega, rfl⟩)
        simpa using this)
      have c0 := hrow 0 _ rfl
      have c1 := hrow 1 _ rfl
      have c2 := hrow 2 _ rfl
      have hbx := fun i => cell_of_row wr w.heap.size i _ _ _ ((HB.out.block w.heap.size (by omega)).trans HX0.out)
      have h0 := hbx 0
      have h1 := hbx 1
      have h2 := hbx 2
      simp only [List.getElem?_toArray, List.getElem?_cons_zero, List.getElem?_cons_succ] at h0 h1 h2
      simp only [Nat.add_zero] at c0
      have b1 : (0 : Int) ≤ (k : Int) ∧ (k : Int) < (n : Int) := by omega
      clear hrow hbx
      generalize xs[k] = x at *
      rcases eqE_parts e x with ⟨q0, q1, q2, hq⟩ | ⟨q0, hq⟩ | ⟨q0, q1, hq⟩ | ⟨q0, q1, q2, hq⟩
      · have HPX := Lib.hid hq
        clear hq
        go_wp2_with fail
        go_region
        go_wp2
        go_ret
        exact ⟨by unfold idxE; rw [HX.out HPX.out]; rfl, HB0.out.trans ((HB.out.trans (by first | exact below_drewN _ _ | exact (Below.refl _ _).drew)).mono (by omega))⟩
      all_goals have HPX := Lib.hid hq
      all_goals clear hq
      all_goals go_wp2_with fail
      all_goals go_region
      all_goals go_wp2
      all_goals go_roundw
      all_goals first
        | exact ⟨k + 1, by omega, by go_num, Lib.hid (by rw [HT.out]; intro y hy; rcases List.mem_append.1 hy with hy | hy; exact HF.out y hy; simp at hy; rw [hy]; exact HPX.out), Lib.hid (HB.out.trans (by first | exact below_drewN _ _ | exact (Below.refl _ _).drew))⟩
        | (simp [intOf]; omega)
    · obtain rfl : k = n := by omega
      have HX : Hid (xs.findIdx? (fun y => decide (y = e)) = none) := Lib.hid (by
        rw [List.findIdx?_eq_none_iff]
        intro x hx
        exact HF.out x (by rw [List.take_of_length_le (by have := HN.out; omega)]; exact hx))
      go_wp2
      go_ret
      exact ⟨by unfold idxE; rw [HX.out]; rfl, HB0.out.trans (HB.out.mono (by omega))⟩
theorem own_ext {w : World} {base e size n m : Nat} {g cap : Nat} {L : List Value} (h : w.ownsRow base e size (.slice (some ⟨g, 0, none⟩) n cap) n L) (h1 : n ≤ m) (h2 : m ≤ cap) :
    ∃ L', w.ownsRow base e size (.slice (some ⟨g, 0, none⟩) m cap) m L' ∧ L'.take (n * size) = L := by
  obtain ⟨hl, h⟩ := h
  rcases h with ⟨h3, _⟩ | ⟨g', cap', cur, h3, h4, h5, h6, h7, h8, h9⟩
  · simp at h3
  · simp only [Value.slice.injEq, Option.some.injEq, Addr.mk.injEq, and_true, true_and] at h3
    obtain ⟨rfl, rfl⟩ := h3
    have hle : n * size ≤ m * size := Nat.mul_le_mul_right _ h1
    have hle2 : m * size ≤ cap * size := Nat.mul_le_mul_right _ h2
    refine ⟨cur.toList.take (m * size), ⟨by simp; omega, .inr ⟨g, cap, cur, rfl, h4, h5, h2, h7, h8, rfl⟩⟩, ?_⟩
    rw [List.take_take, Nat.min_eq_left hle, h9]
section
variable {P : Program}
theorem run_cut3 {t e : TypeId} {k : Nat} (ht : P.underlying t = some (.slice e)) (hsz : (P.info? e).map (·.size) = some k) (A : Option Addr) (n c lo hi mx : Nat) (l h m : Int) (el : l = lo) (eh : h = hi) (em : m = mx) (h1 : lo ≤ hi) (h2 : hi ≤ mx) (h3 : mx ≤ c) :
    ∀ W : World, (Instr.slice t (.slice A n c) (some (.int .i64 l)) (some (.int .i64 h)) (some (.int .i64 m))).run P W = .ok (sliced A lo hi mx k) W := by
  intro W
  subst el; subst eh; subst em
  have hel : P.elem t = e := by simp [Program.elem, ht]
  have hu : P.underlying t = some (.slice (P.elem t)) := by rw [hel]; exact ht
  cases hi' : P.info? e with
  | none => rw [hi'] at hsz; simp at hsz
  | some i =>
    rw [hi'] at hsz
    simp at hsz
    rw [run_slice_lhm W t A n c hu .i64 .i64 .i64 (lo : Int) (hi : Int) (mx : Int) (by omega) (by omega) (by omega) (by omega), hel]
    simp [sizeOf, typeInfo, hi', Result.andThen, hsz]
theorem run_cut2 {t e : TypeId} {k : Nat} (ht : P.underlying t = some (.slice e)) (hsz : (P.info? e).map (·.size) = some k) (g n c lo hi : Nat) (l h : Int) (el : l = lo) (eh : h = hi) (h1 : lo ≤ hi) (h2 : hi ≤ c) (h3 : lo < c) :
    ∀ W : World, (Instr.slice t (.slice (some ⟨g, 0, none⟩) n c) (some (.int .i64 l)) (some (.int .i64 h)) none).run P W = .ok (.slice (some ⟨g, lo * k, none⟩) (hi - lo) (c - lo)) W := by
  intro W
  subst el; subst eh
  have hel : P.elem t = e := by simp [Program.elem, ht]
  have hu : P.underlying t = some (.slice (P.elem t)) := by rw [hel]; exact ht
  have hne : ¬ c = lo := by omega
  cases hi' : P.info? e with
  | none => rw [hi'] at hsz; simp at hsz
  | some i =>
    rw [hi'] at hsz
    simp at hsz
    rw [run_slice_lh W t (some ⟨g, 0, none⟩) n c hu .i64 .i64 (lo : Int) (hi : Int) (by omega) (by omega) (by omega), hel]
    simp [sizeOf, typeInfo, hi', sliced, Result.andThen, hsz, Addr.add, hne]
    try exact fun h => h.symm
end
set_option maxRecDepth 100000 in
set_option maxHeartbeats 2000000 in
theorem delete_any (base gb n c : Nat) (xs : List Ext) (i : Nat) (w : World) (hn : xs.length = n) (h : w.ownsRow base 26 3 (.slice (some ⟨gb, 0, none⟩) n c) n ((xs.map rowExt).flatten)) (hbase : base ≤ w.heap.size) (hi : i < n) (hcap : n ≤ 5864062014700) :
    Calls Try.prog 35 #[.slice (some ⟨gb, 0, none⟩) n c, .int .i64 (i : Int), .int .i64 ((i : Int) + 1)] w fun e w' => e = .returned (.slice (some ⟨gb, 0, none⟩) (n - 1) c) ∧ w'.ownsRow base 26 3 (.slice (some ⟨gb, 0, none⟩) (n - 1) c) (n - 1) (((xs.eraseIdx i).map rowExt).flatten) ∧ Below base w w' := by
  obtain ⟨_, _, e0, hnc, hcm, hrd, hlen⟩ := own_rd h
  injection e0 with e1 e2 e3
  subst e1; subst e3
  have hgb : base ≤ gb := (h.lt gb rfl).1
  have q : ((i : Int) == (i : Int) + 1) = false := by simp; omega
  have hrl := extRows_len xs
  rw [hn] at hrl
  have cut3 := run_cut3 (P := Try.prog) (k := 3) Try.underlying22 (e := 26) (by kernel_rfl) (some ⟨gb, 0, none⟩) n c i (i + 1) n (i : Int) ((i : Int) + 1) (n : Int) rfl (by omega) rfl (by omega) (by omega) hnc
  have cutA1 := run_cut_k (P := Try.prog) .i64 Try.underlying22 (e := 26) (by kernel_rfl) (some ⟨gb, 0, none⟩) n c i (i : Int) rfl (by omega)
  have cutB1 := run_from_k (P := Try.prog) (k := 3) .i64 Try.underlying22 (e := 26) (by kernel_rfl) (some ⟨gb, 0, none⟩) n c (i + 1) ((i : Int) + 1) (by omega) (by omega)
  have cutC1 := run_cut2 (P := Try.prog) (k := 3) Try.underlying22 (e := 26) (by kernel_rfl) gb (n - 1) c (n - 1) n ((n - 1 : Nat) : Int) (n : Int) rfl rfl (by omega) hnc (by omega)
  have HO := Lib.hid (own_pref h (show i ≤ n by omega))
  have HT : Hid (((xs.map rowExt).flatten).take (i * 3) = ((xs.take i).map rowExt).flatten) := Lib.hid (extRows_take xs i (by omega))
  have HD : Hid (((xs.map rowExt).flatten).drop ((i + 1) * 3) = ((xs.drop (i + 1)).map rowExt).flatten) := Lib.hid (extRows_drop xs (i + 1) (by omega))
  have HE : Hid (((xs.take i).map rowExt).flatten ++ ((xs.drop (i + 1)).map rowExt).flatten = ((xs.eraseIdx i).map rowExt).flatten) := Lib.hid (by rw [List.eraseIdx_eq_take_drop_succ, List.map_append, List.flatten_append])
  have HR : Hid (Rd w (cutA (some ⟨gb, 0, none⟩) (i + 1) c 3) (((xs.drop (i + 1)).map rowExt).flatten)) := Lib.hid (by rw [← HD.out]; exact rd_cut hrd (by rw [hrl]) (by omega) hnc)
  have HL : Hid ((((xs.drop (i + 1)).map rowExt).flatten).length = (n - (i + 1)) * 3) := Lib.hid (by rw [extRows_len, List.length_drop, hn])
  have HON := Lib.hid (extRows_one (xs.drop (i + 1)))
  have HNO : Hid (cutA (some ⟨gb, 0, none⟩) (i + 1) c 3 = none → n - (i + 1) = 0 ∧ c - (i + 1) = 0) := Lib.hid (fun e => by have := cutA_none e; cases this)
  rw [HT.out] at HO
  generalize ((xs.take i).map rowExt).flatten = F1 at *
  generalize ((xs.drop (i + 1)).map rowExt).flatten = F2 at *
  obtain ⟨i0, hi0, hz0, hz1, hz2⟩ := info_parts infoE
  have b0 : (0 : Int) ≤ (i : Int) ∧ (i : Int) + 1 ≤ (n : Int) := by omega
  clear h hrd hlen hrl hn e2 HT HD
  go_enter Try.func35, Try.ntmps35
  go_wp2_with fail
  go_still_tail 6, (by kernel_rfl)
  change wpList _ _ _ _ _ w.drew
  go_wp2_with (at_builtin; go_must (refine wpList_append_fits_any _ rfl _ _ 22 rfl base 26 i0 3 Try.underlying22 hi0 hz1 gb i c F1 rfl HO.out.drew (cutA (some ⟨gb, 0, none⟩) (i + 1) c 3) (n - (i + 1)) (c - (i + 1)) F2 rfl HL.out HNO.out (fun ad e j u hu => by have := HR.out; rw [e] at this; exact this.addr j u hu) HON.out (by omega) ?_))
  intro w2 hown2 hg2
  have hk : i + (n - (i + 1)) = n - 1 := by omega
  rw [hk, HE.out] at hown2
  have hB2 : Below base w w2 := ((Below.refl _ _).drew).grown hg2 hbase (fun j e => by injection e with e; omega)
  rw [hk]
  obtain ⟨M, hM, hMt⟩ := own_ext hown2 (show n - 1 ≤ n by omega) hnc
  obtain ⟨L, hL⟩ : ∃ L, (Builtin.zeroCells (Value.agg #[.int .u64 0, .int .i64 0, .int .i64 0]).cells (n - (n - 1))).toList = L := ⟨_, rfl⟩
  have hLl : L.length = (n - (n - 1)) * 3 := by rw [← hL]; simp [Builtin.zeroCells, Value.cells]
  have hL1 : ∀ v ∈ L, v.oneCell' = true := by
    rw [← hL]
    intro v hv
    simp [Builtin.zeroCells, Value.cells] at hv
    obtain ⟨a, ha, rfl⟩ := hv
    have h3 : a % 3 = 0 ∨ a % 3 = 1 ∨ a % 3 = 2 := by omega
    rcases h3 with h3 | h3 | h3 <;> rw [h3] <;> rfl
  have hMl : M.length = n * 3 := hM.1
  have hclr := fun ty => run_clear_k (P := Try.prog) w2 22 26 ty (z := .agg #[.int .u64 0, .int .i64 0, .int .i64 0]) Try.underlying22 (fun w => by kernel_rfl) gb ((n - 1) * 3) (n - (n - 1)) (c - (n - 1)) (by omega) L hL
    (fun k hk => by rw [hM.cellAt ((n - 1) * 3 + k) (by omega), List.getElem?_eq_getElem (by rw [hMl]; omega)]; rfl) (fun k hk => hM.frozenAt ((n - 1) * 3 + k)) hL1
  obtain ⟨L', ho', ht', hg'⟩ := own_setCells L ((n - 1) * 3) w2 _ hM
  have HO' := Lib.hid (own_pref ho' (show n - 1 ≤ n by omega))
  have HT' : Hid (L'.take ((n - 1) * 3) = ((xs.eraseIdx i).map rowExt).flatten) := Lib.hid (by rw [ht', hMt])
  have HB' := Lib.hid (hB2.grown hg' (by have := hB2.size; omega) (fun k e => by injection e with e; omega))
  clear hLl hL1 hMl ho' ht' hg' hL hM hMt hown2 hg2 hi0 hz0 hz1 hz2 HO HR HL HON HNO HE hB2
  generalize w2.setCells gb ((n - 1) * 3) L = wz at *
  have hn1 : ((n - 1 : Nat) : Int) = (n : Int) - 1 := by omega
  go_wp2
  go_ret
  exact ⟨rfl, by rw [← HT'.out]; exact HO'.out, HB'.out⟩
end Go.Proofs.Ytmipfmeafbeegaa
