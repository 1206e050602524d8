/- The walk of QueueForks. -/
import Derived.Test.YtmanjeolhifhiaaQLDrainsWalk2
import Derived.Test.YtmanjeolhifhiaaQLFork
namespace Go.Proofs.Ytmanjeolhifhiaa
open Go.RowKit
set_option linter.unusedVariables false

theorem p_any (pops : Int) : ∃ P : Nat, P < 20 ∧ wrap64 ((IntKind.u64.wrap pops).tmod 20) = (P : Int) := by
  rw [IntKind.wrap_u64]
  have h0 : 0 ≤ pops % 18446744073709551616 := Int.emod_nonneg _ (by decide)
  generalize pops % 18446744073709551616 = z at *
  rw [Int.tmod_eq_emod_of_nonneg h0]
  refine ⟨(z % 20).toNat, by omega, ?_⟩
  unfold wrap64
  omega
/-- Pop, whatever there is. -/
theorem pop_any (base q : Nat) (v : Value) (S : List (Itm × Nat)) (tn : Nat) (w : World) (h : QIsItm base lessI 22 q v S tn w) (hS : S.length ≤ 4000000000) :
    Calls Try.prog 21 #[.pointer (some ⟨q, 0, none⟩)] w fun e w' => ∃ x y v', e = .returned (.tuple #[x, y]) ∧ QIsItm base lessI 22 q v' (S.drop 1) tn w' ∧ Chg (QBlk q v) w w' ∧ (∀ j, v'.ownBlock = some j → v.ownBlock = some j ∨ w.heap.size ≤ j) := by
  cases S with
  | nil =>
    refine (qItm_pop0 _ w (fun w1 hb => qItm_qlen2 base lessI _ w1 q v [] tn (h.kept hb))).mono ?_
    rintro e w' ⟨rfl, hb⟩
    exact ⟨_, _, v, rfl, h.kept hb, (Chg.of_below hb).mono (fun i hi hs => by omega), fun j hj => .inl hj⟩
  | cons s S =>
    refine (qItm_pop2 base lessI swoI _ ranksI w q v s S tn h (by simpa using hS)).mono ?_
    rintro e w' ⟨rfl, v', hq, hc, hf⟩
    exact ⟨_, _, v', rfl, hq, hc, hf⟩
set_option maxRecDepth 100000 in
set_option maxHeartbeats 4000000 in
theorem forks_all (A : Option Addr) (n c : Nat) (xs : List Itm) (pops : Int) (A2 : Option Addr) (m c2 : Nat) (ys : List Itm) (w : World) (hn : xs.length = n) (h : Rd w A ((xs.map rowItm).flatten)) (hcap : n ≤ 1048576) (hm : ys.length = m) (h' : Rd w A2 ((ys.map rowItm).flatten)) (hcap2 : m ≤ 1048576) :
    Calls Try.prog 8 #[.slice A n c, .int .i64 pops, .slice A2 m c2] w fun e w' => e = .returned (.bool true) ∧ Below w.heap.size w w' := by
  have C1 := Lib.hid (fun w1 => qItm_new2 lessI 22 w1)
  have C2 := Lib.hid (fun w1 => awake08 w1)
  have C3 := Lib.hid (fun (w1 : World) (v : Value) (S : List (Itm × Nat)) (tn : Nat) (x : Itm) (h1 : QIsItm w.heap.size lessI 22 w.heap.size v S tn w1) (h2 : S.length + 1 ≤ 4000000000) (h3 : tn ≤ 4000000000) (h4 : w.heap.size ≤ w1.heap.size) => qItm_push2 w.heap.size lessI swoI _ ranksI w1 w.heap.size v S tn x h1 h2 h3 h4)
  have C5 := Lib.hid (fun (w1 : World) (v : Value) (S : List (Itm × Nat)) (h1 : QIsItm w.heap.size lessI 22 w.heap.size v S xs.length w1) (h2 : S.length ≤ 4000000000) => qItm_fork w.heap.size lessI 22 w1 w.heap.size v S xs.length h1 h2)
  have C7 := Lib.hid (fun (w1 : World) (h : Rd w1 A ((xs.map rowItm).flatten)) => qItm_sorted lessI swoI _ ranksI A n c xs w1 hn h (by omega))
  have HR := Lib.hid h
  have HN := Lib.hid hn
  have HR2 := Lib.hid h'
  have HM := Lib.hid hm
  obtain ⟨P, hP20, hPe⟩ := p_any pops
  have HPE := Lib.hid hPe
  clear h hn h' hm hPe
  go_enter Try.func8, Try.ntmps8
  go_wp2_with fail
  refine (C1.out _).mono ?_
  rintro e w1 ⟨rfl, hq1, hb1⟩
  have hz1 := hb1.size
  have HQ1 := Lib.hid hq1
  have HB1 := Lib.hid hb1
  clear hq1 hb1
  go_wp2_with fail
  refine (C2.out _).mono ?_
  rintro e w2 ⟨rfl, hb2⟩
  have HQ2 := Lib.hid (HQ1.out.kept hb2)
  have HB2 := Lib.hid (HB1.out.trans (hb2.mono hz1))
  clear hb2
  go_wp2_with fail
  go_loopw [8] (fun i wr => ∃ (j : Nat) (v : Value) (S : List (Itm × Nat)), j ≤ n ∧ i = .int .i64 j ∧ Hid (Pushed w.heap.size w.heap.size (xs.take j) v S wr) ∧ Below w.heap.size w wr) (fun i _ => n - (intOf i).toNat)
  case atStart => exact ⟨0, _, [], by omega, rfl, Lib.hid ⟨HQ2.out, rfl⟩, HB2.out⟩
  case round =>
    obtain ⟨j, v, S, hj, rfl, hP, hB⟩ := hrel
    have hTL : (xs.take j).length = j := by have := HN.out; simp; omega
    have hSL : S.length = j := hP.out.len.trans hTL
    by_cases hlt : j < n
    · have hjx : j < xs.length := by have := HN.out; omega
      obtain ⟨b, o, rfl, hrow⟩ := (HR.out.kept hB).at_row (k := 2) (fun r hr => (isItm_all xs r hr).len) (by decide) (i := j) (r := rowItm xs[j]) (by simp [List.getElem?_eq_getElem hjx])
      obtain ⟨hq, hs⟩ := hP.out
      rw [hTL] at hq
      have HE : Hid (xs.take (j + 1) = xs.take j ++ [xs[j]]) := Lib.hid (by rw [List.take_add_one, List.getElem?_eq_getElem hjx]; rfl)
      have HT : Hid ((insT lessI (xs[j], j) S).map (·.1) = sortV lessI (xs.take (j + 1))) := Lib.hid (by
        have := pushed_next (x := xs[j]) hs (by rw [hTL]; exact hq.turn)
        rw [HE.out, ← this, hTL])
      have HQ := Lib.hid hq
      have HB := Lib.hid hB
      have HSL := Lib.hid hSL
      have HTL := Lib.hid (show (xs.take (j + 1)).length = j + 1 by simp; omega)
      have hsB := hB.size
      clear hq hs hP hB hTL hSL HE
      generalize xs[j] = x at *
      have c0 := hrow 0 _ rfl
      have c1 := hrow 1 _ rfl
      simp only [Nat.add_zero] at c0
      have b1 : (0 : Int) ≤ (j : Int) ∧ (j : Int) < (n : Int) := by omega
      clear hrow
      go_wp2_with fail
      refine (C3.out _ _ _ _ _ HQ.out (by rw [HSL.out]; omega) (by omega) hsB).mono ?_
      rintro e w3 ⟨rfl, v3, hq3, hc3, hf3⟩
      have HP3 : Hid (Pushed w.heap.size w.heap.size (xs.take (j + 1)) v3 (insT lessI (x, j) S) w3) := Lib.hid ⟨by rw [HTL.out]; exact hq3, HT.out⟩
      have HB3 := Lib.hid (HB.out.trans (hc3.below (fun k hk hS => by have := (HQ.out.lt k hS).1; omega) hsB))
      clear hq3 hc3 hf3 c0 c1
      go_wp2
      go_roundw
      case rel => exact ⟨j + 1, v3, _, by omega, by go_num, HP3, HB3.out⟩
      case measure => simp [intOf]; omega
    · obtain rfl : j = n := by omega
      rw [List.take_of_length_le (by have := HN.out; omega)] at hP
      have HB := Lib.hid hB
      have HQ := Lib.hid hP.out.1
      have HS := Lib.hid hP.out.2
      have HSL := Lib.hid hSL
      clear hB hTL hSL hP
      obtain ⟨w3, hw3⟩ : ∃ w3 : World, w3 = wr := ⟨_, rfl⟩
      subst hw3
      go_wp2_with fail
      refine (C5.out _ _ _ HQ.out (by rw [HSL.out]; omega)).mono ?_
      rintro e w4 ⟨qf, vf, rfl, hqf, hb4⟩
      have HF4 := Lib.hid hqf
      have HB4 := Lib.hid hb4
      clear hqf hb4
      go_wp2_with fail
      go_loopw [10] (fun i wr => ∃ (k : Nat) (v' : Value), k ≤ P ∧ i = .int .i64 k ∧ Hid (QIsItm w3.heap.size lessI 22 qf v' (S.drop k) xs.length wr) ∧ Hid (Below w3.heap.size w3 wr)) (fun i _ => P - (intOf i).toNat)
      case atStart => exact ⟨0, vf, by omega, rfl, HF4, HB4⟩
      case round =>
        obtain ⟨w5, hw5⟩ : ∃ w5 : World, w5 = wr := ⟨_, rfl⟩
        subst hw5
        obtain ⟨k, v5, hk, rfl, HF5, HB5⟩ := hrel
        by_cases hlt2 : k < P
        · have b1 : (k : Int) < wrap64 ((IntKind.u64.wrap pops).tmod 20) := by rw [HPE.out]; omega
          have CP := Lib.hid (pop_any w3.heap.size qf v5 (S.drop k) xs.length w5 HF5.out (by rw [List.length_drop, HSL.out]; omega))
          go_wp2_with fail
          refine CP.out.mono ?_
          rintro e w6 ⟨x6, y6, v6, rfl, hq6, hc6, _⟩
          rw [List.drop_drop] at hq6
          have HF6 := Lib.hid hq6
          have HB6 := Lib.hid (HB5.out.trans (hc6.below (fun k hk hS => by have := (HF5.out.lt k hS).1; omega) HB5.out.size))
          clear hq6 hc6
          go_wp2
          go_roundw
          case rel => exact ⟨k + 1, v6, by omega, by go_num, HF6, HB6⟩
          case measure => simp [intOf]; omega
        · obtain rfl : k = P := by omega
          have b1 : ¬ (k : Int) < wrap64 ((IntKind.u64.wrap pops).tmod 20) := by rw [HPE.out]; omega
          go_wp2_with fail
          go_loopw [11] (fun i wr => ∃ (a : Nat) (v' : Value) (T : List (Itm × Nat)), a ≤ m ∧ i = .int .i64 a ∧ Hid (QIsItm w3.heap.size lessI 22 qf v' T (xs.length + a) wr ∧ T.length = (j - k) + a) ∧ Hid (Below w3.heap.size w3 wr)) (fun i _ => m - (intOf i).toNat)
          case atStart => exact ⟨0, v5, _, by omega, rfl, Lib.hid ⟨HF5.out, by rw [List.length_drop, HSL.out]; omega⟩, HB5⟩
          case round =>
            obtain ⟨w7, hw7⟩ : ∃ w7 : World, w7 = wr := ⟨_, rfl⟩
            subst hw7
            obtain ⟨a, v7, T, ha, rfl, HF7, HB7⟩ := hrel
            by_cases hlt3 : a < m
            · have hax : a < ys.length := by have := HM.out; omega
              have hz37 := HB7.out.size
              obtain ⟨b, o, rfl, hrow⟩ := ((HR2.out.kept HB.out).kept (HB7.out.mono (Nat.le_refl _))).at_row (k := 2) (fun r hr => (isItm_all ys r hr).len) (by decide) (i := a) (r := rowItm ys[a]) (by simp [List.getElem?_eq_getElem hax])
              generalize ys[a] = x at *
              have c0 := hrow 0 _ rfl
              have c1 := hrow 1 _ rfl
              simp only [Nat.add_zero] at c0
              have b2 : (0 : Int) ≤ (a : Int) ∧ (a : Int) < (m : Int) := by omega
              clear hrow
              have CU := Lib.hid (qItm_push2 w3.heap.size lessI swoI _ ranksI w7 qf v7 T (xs.length + a) x HF7.out.1 (by rw [HF7.out.2]; omega) (by rw [HN.out]; omega) hz37)
              go_wp2_with fail
              refine CU.out.mono ?_
              rintro e w8 ⟨rfl, v8, hq8, hc8, hf8⟩
              have HF8 := Lib.hid (And.intro hq8 (show (insT lessI (x, xs.length + a) T).length = (j - k) + (a + 1) by rw [(insT_perm _ _).length_eq]; simp only [List.length_cons]; rw [HF7.out.2]; omega))
              have HB8 := Lib.hid (HB7.out.trans (hc8.below (fun k hk hS => by have := (HF7.out.1.lt k hS).1; omega) HB7.out.size))
              clear hq8 hc8 hf8 c0 c1
              go_wp2
              go_roundw
              case rel => exact ⟨a + 1, v8, _, by omega, by go_num, HF8, HB8⟩
              case measure => simp [intOf]; omega
            · obtain rfl : a = m := by omega
              have hz37 := HB7.out.size
              have HQ7 := Lib.hid (HQ.out.kept HB7.out)
              have D0 := Lib.hid (drained_any w.heap.size w.heap.size v S xs.length (j + 1) w7 HQ7.out (by rw [HSL.out]; omega) (by omega) (by omega))
              have hmin : min (j + 1) S.length = j := by rw [HSL.out]; omega
              rw [hmin] at D0
              clear hmin
              go_wp2_with fail
              refine D0.out.mono ?_
              rintro e w8 ⟨va, vq, rfl, hoa, hq8, hvq8, hc8⟩
              obtain ⟨Aa, ca, rfl, _, _, hra, _⟩ := own_rd hoa
              rw [List.take_of_length_le (by rw [HSL.out]; omega), HS.out] at hra
              have HRA := Lib.hid hra
              have HF8 := Lib.hid (HF7.out.1.chg hc8 (fun i hi hq => by
                have h1 := (HF7.out.1.lt i hi).1
                have h2 := (HQ.out.lt i hq).2
                omega))
              have HB8 := Lib.hid ((HB.out.trans (HB7.out.mono HB.out.size)).trans (hc8.below (fun k hk hS => by have := (HQ7.out.lt k hS).1; omega) (by have := HB.out.size; omega)))
              have HRX := Lib.hid (((HR.out.kept HB.out).kept HB7.out).chg hc8 (fun a ha hne hS => by
                have h1 := HR.out.lt a ha hne
                have h2 := (HQ7.out.lt a.block hS).1
                omega))
              clear hoa hq8 hvq8 hc8 hra
              go_wp2_with fail
              refine (C7.out _ HRX.out).mono ?_
              rintro e w9 ⟨v9, rfl, hown9, hb9⟩
              obtain ⟨A9, c9, rfl, _, _, hrd9, _⟩ := own_rd hown9
              have HR9 := Lib.hid hrd9
              have HRA9 := Lib.hid (HRA.out.kept hb9)
              have HF9 := Lib.hid (HF8.out.kept hb9)
              have HB9 := Lib.hid (HB8.out.trans (hb9.mono HB8.out.size))
              clear hown9 hb9 hrd9
              have CPl := Lib.hid (Itm_plainL Aa j ca (sortV lessI xs) A9 c9 w9 (by rw [sortV_len, HN.out]) HRA9.out HR9.out (by omega))
              go_wp2_with fail
              refine CPl.out.mono ?_
              rintro e w10 ⟨rfl, hb10⟩
              have HF10 := Lib.hid (HF9.out.kept hb10)
              have HB10 := Lib.hid (HB9.out.trans (hb10.mono HB9.out.size))
              clear hb10 CPl
              have CL := Lib.hid (qItm_qlen2 w3.heap.size lessI _ w10 qf v7 T (xs.length + a) HF10.out)
              have HTL := Lib.hid HF7.out.2
              clear b1 hlt hlt2 hlt3
              go_wp2_with fail
              refine CL.out.mono ?_
              rintro e w11 ⟨rfl, rfl⟩
              have hPe := HPE.out
              rcases Nat.lt_or_ge k j with hkj | hkj
              · have hT : (T.length : Int) = (j : Int) - (k : Int) + (a : Int) := by rw [HTL.out]; omega
                have f1 : (0 : Int) < (j : Int) - (k : Int) := by omega
                go_wp2
                go_ret
                exact ⟨rfl, HB10.out⟩
              · have hT : (T.length : Int) = (a : Int) := by rw [HTL.out]; omega
                have f1 : ¬ (0 : Int) < (j : Int) - (k : Int) := by omega
                go_wp2
                go_ret
                exact ⟨rfl, HB10.out⟩
theorem forks_row (A : Option Addr) (n c : Nat) (z : List (List Value)) (pops : Int) (A2 : Option Addr) (m c2 : Nat) (z2 : List (List Value)) (w : World) (hn : z.length = n) (hA : A = none → n = 0 ∧ c = 0) (hnc : n ≤ c) (h : Rd w A z.flatten) (hI : ∀ r ∈ z, IsItemD r) (hc : c ≤ 1048576) (hpops : (Lit.int .i64 pops).wf = true)
    (hn2 : z2.length = m) (hA2 : A2 = none → m = 0 ∧ c2 = 0) (hnc2 : m ≤ c2) (h2 : Rd w A2 z2.flatten) (hI2 : ∀ r ∈ z2, IsItemD r) (hc2 : c2 ≤ 1048576) :
    Calls Try.prog 8 #[.slice A n c, .int .i64 pops, .slice A2 m c2] w fun e w' => e = .returned (.bool true) ∧ Below w.heap.size w w' := by
  obtain ⟨xs, rfl⟩ := items_of z hI
  obtain ⟨ys, rfl⟩ := items_of z2 hI2
  exact forks_all A n c xs pops A2 m c2 ys w (by simpa using hn) h (by omega) (by simpa using hn2) h2 (by omega)
end Go.Proofs.Ytmanjeolhifhiaa
