/- The walk of QueueAll. -/
import Derived.Test.YtmanjeolhifhiaaQLTwo
import Derived.Test.YtmanjeolhifhiaaInts
import Derived.BigRegion
import Derived.Deep.DeepCutAuto
namespace Go.Proofs.Ytmanjeolhifhiaa
open Go.RowKit
set_option linter.unusedVariables false

theorem modn_any (a : Int) (k : Nat) (hk : 0 < k) (hk2 : k ≤ 10000000) : ∃ q : Nat, q < k ∧ IntKind.i64.wrap ((IntKind.u64.wrap a).tmod (k : Int)) = (q : Int) := by
  rw [IntKind.wrap_u64]
  have h0 : 0 ≤ a % 18446744073709551616 := Int.emod_nonneg _ (by decide)
  generalize a % 18446744073709551616 = z at *
  rw [Int.tmod_eq_emod_of_nonneg h0]
  have h1 := Int.emod_nonneg z (show (k : Int) ≠ 0 by omega)
  have h2 := Int.emod_lt_of_pos z (show (0 : Int) < (k : Int) by omega)
  generalize z % (k : Int) = y at *
  refine ⟨y.toNat, by omega, ?_⟩
  rw [IntWalk.i64_in _ (by omega)]
  omega
theorem rowItm_set (l : List Itm) (i : Nat) (y : Itm) (hi : i < l.length) : ((((l.map rowItm).flatten).set (i * 2) (.int .i64 y.1)).set (i * 2 + 1) (.string y.2)) = ((l.set i y).map rowItm).flatten := by
  obtain ⟨P, z, Q, hl, hP⟩ : ∃ P z Q, l = P ++ z :: Q ∧ P.length = i := ⟨l.take i, l[i], l.drop (i + 1), by simp, by simp; omega⟩
  subst hl
  subst hP
  have hlen : (P.map rowItm).flatten.length = P.length * 2 := rowsItm_len P
  have e : (P ++ z :: Q).set P.length y = P ++ y :: Q := by simp
  rw [e]
  simp only [List.map_append, List.map_cons, List.flatten_append, List.flatten_cons]
  generalize (P.map rowItm).flatten = F at *
  generalize (Q.map rowItm).flatten = G at *
  rw [← hlen]
  simp [rowItm]
theorem itmRows_one (xs : List Itm) : ∀ u ∈ (xs.map rowItm).flatten, u.oneCell' = true := by
  intro u hu
  obtain ⟨r, hr, hu⟩ := List.mem_flatten.1 hu
  obtain ⟨y, _, rfl⟩ := List.mem_map.1 hr
  exact rowItm_one y u hu
def markI (m : List Bool) : List Value := m.map (fun b => Value.int .i64 (if b then 1 else 0))
theorem markI_set (m : List Bool) (k : Nat) : (markI m).set k (.int .i64 1) = markI (m.set k true) := by
  unfold markI; rw [List.map_set]; rfl
theorem infoInt : (Try.prog.info? 3).map (fun i => (i.zero, i.size, i.bytes)) = some (some (.int .i64 0), 1, 8) := by kernel_rfl
/-- What the inner loop has found so far. -/
def FoundI (xs : List Itm) (a : Itm) (m : List Bool) (k : Nat) (f : Bool) (m' : List Bool) : Prop :=
  (f = false ∧ m' = m ∧ ∀ j, j < k → ¬ (m[j]? = some false ∧ xs[j]? = some a)) ∨ (f = true ∧ ∃ j, m[j]? = some false ∧ xs[j]? = some a ∧ m' = m.set j true)
theorem bytes_inj {a b : ByteArray} (h : a.toList = b.toList) : a = b := by
  rw [ByteArray.toList_eq, ByteArray.toList_eq] at h
  cases a with | mk a => cases b with | mk b => simp at h; rw [h]
theorem itm_parts (x a : Itm) : ((x.1 == a.1) = true ∧ (x.2.toList == a.2.toList) = true ∧ x = a) ∨ ((x.1 == a.1) = false ∧ x ≠ a) ∨ ((x.1 == a.1) = true ∧ (x.2.toList == a.2.toList) = false ∧ x ≠ a) := by
  obtain ⟨x1, x2⟩ := x
  obtain ⟨a1, a2⟩ := a
  by_cases h1 : x1 = a1
  · by_cases h2 : x2.toList = a2.toList
    · exact .inl ⟨by simpa using h1, by simpa using h2, by rw [h1, bytes_inj h2]⟩
    · exact .inr (.inr ⟨by simpa using h1, by simpa using h2, fun e => by injection e with _ e; exact h2 (by rw [e])⟩)
  · exact .inr (.inl ⟨by simpa using h1, fun e => by injection e with e _; exact h1 e⟩)
theorem Two.keptBo {base q p : Nat} {bo : Option Nat} {vq vp : Value} {S T : List (Itm × Nat)} {a b : Nat} {W W' : World} (h : Two base q p bo vq vp S T a b W) (hc : Chg (fun j => bo = some j) W W') : Two base q p bo vq vp S T a b W' :=
  ⟨h.hq.chg hc (fun j hj e => h.qo j hj e), h.hp.chg hc (fun j hj e => h.po j hj e), h.ap, h.qo, h.po⟩
theorem own_two {w : World} {base n g cap : Nat} {ys : List Itm} (h : w.ownsRow base 33 2 (.slice (some ⟨g, 0, none⟩) n cap) n ((ys.map rowItm).flatten)) (x : Nat) (hx : x < ys.length) (a : Itm) :
    ((w.setCell ⟨g, x * 2, none⟩ (.int .i64 a.1)).setCell ⟨g, x * 2 + 1, none⟩ (.string a.2)).ownsRow base 33 2 (.slice (some ⟨g, 0, none⟩) n cap) n (((ys.set x a).map rowItm).flatten) := by
  rw [← rowItm_set ys x a hx]
  exact ((h.stored (x * 2) (.int .i64 a.1)).1.stored (x * 2 + 1) (.string a.2)).1
set_option maxRecDepth 100000 in
set_option maxHeartbeats 8000000 in
theorem all_all (A : Option Addr) (n c : Nat) (xs : List Itm) (B : Option Addr) (m d : Nat) (ts : List Int) (w : World) (hn : xs.length = n) (hA : A = none → n = 0 ∧ c = 0) (h : Rd w A ((xs.map rowItm).flatten)) (hcap : n ≤ 1048576) (hm : ts.length = m) (hB : Rd w B (ints ts)) (hcap2 : m ≤ 9223372036854775807) :
    Calls Try.prog 4 #[.slice A n c, .slice B m d] w fun e w' => e = .returned (.bool true) ∧ Below w.heap.size w w' := by
  have C1 := Lib.hid (fun w1 => qItm_new2 lessI 22 w1)
  have C2 := Lib.hid (fun w1 => awake08 w1)
  have C3 := Lib.hid (fun (q : Nat) (w1 : World) (v : Value) (S : List (Itm × Nat)) (tn : Nat) (x : Itm) (h1 : QIsItm w.heap.size lessI 22 q v S tn w1) (h2 : S.length + 1 ≤ 4000000000) (h3 : tn ≤ 4000000000) (h4 : w.heap.size ≤ w1.heap.size) => qItm_push2 w.heap.size lessI swoI _ ranksI w1 q v S tn x h1 h2 h3 h4)
  have C4 := Lib.hid (fun (q : Nat) (w1 : World) (v : Value) (s : Itm × Nat) (S : List (Itm × Nat)) (tn : Nat) (h1 : QIsItm w.heap.size lessI 22 q v (s :: S) tn w1) (h2 : S.length + 1 ≤ 4000000000) => qItm_pop3 w.heap.size lessI swoI _ ranksI w1 q v s S tn h1 h2)
  have C5 := Lib.hid (fun (q : Nat) (w1 : World) (v : Value) (tn : Nat) (h1 : QIsItm w.heap.size lessI 22 q v [] tn w1) => qItm_qlen2 w.heap.size lessI _ w1 q v [] tn h1)
  have HR := Lib.hid h
  have HN := Lib.hid hn
  have HRT := Lib.hid hB
  have HM := Lib.hid hm
  have HA := Lib.hid hA
  have HL0 := Lib.hid (show ((xs.map rowItm).flatten).length = n * 2 by rw [rowsItm_len, hn])
  have H10 := Lib.hid (itmRows_one xs)
  clear h hn hB hm hA
  go_enter Try.func4, Try.ntmps4
  go_wp2_with fail
  refine (C1.out _).mono ?_
  rintro e w1 ⟨rfl, hq1, hb1⟩
  have HQ1 := Lib.hid hq1
  have HB1 := Lib.hid hb1
  clear hq1 hb1
  go_wp2_with fail
  refine (C1.out _).mono ?_
  rintro e w2 ⟨rfl, hp2, hb2⟩
  have HT2 : Hid (Two w.heap.size w.heap.size w1.heap.size none (.slice none 0 0) (.slice none 0 0) [] [] 0 0 w2) := Lib.hid ⟨HQ1.out.kept hb2, hp2.lower HB1.out.size, by
    rintro j (rfl | e) (e2 | e2)
    · have := (HQ1.out.lt _ (.inl rfl)).2; omega
    · simp [Value.ownBlock] at e2
    · simp [Value.ownBlock] at e
    · simp [Value.ownBlock] at e, by intro j _; simp, by intro j _; simp⟩
  have HB2 := Lib.hid (HB1.out.trans (hb2.mono HB1.out.size))
  clear hp2 hb2
  go_wp2_with fail
  refine (C2.out _).mono ?_
  rintro e w3 ⟨rfl, hb3⟩
  have HT3 := Lib.hid (HT2.out.kept hb3)
  have HB3 := Lib.hid (HB2.out.trans (hb3.mono HB2.out.size))
  clear hb3
  obtain ⟨p, hp⟩ : ∃ p, p = w1.heap.size := ⟨_, rfl⟩
  rw [← hp] at HT3 ⊢
  have hpl : p < w3.heap.size := (HT3.out.hp.lt p (.inl rfl)).2
  have hql : w.heap.size < w3.heap.size := (HT3.out.hq.lt w.heap.size (.inl rfl)).2
  clear hp HT2
  go_wp2_with (at_builtin; go_must (refine wpList_append_rd rfl _ _ 22 rfl w3.heap.size 33 (.agg #[.int .i64 0, .string ⟨#[]⟩]) 2 24 Try.underlying22 infoTItm rfl (by decide) _ 0 [] rfl (World.ownsRow_nil _ _ _ _) A n c ((xs.map rowItm).flatten) rfl HA.out HL0.out (HR.out.kept HB3.out) H10.out (by unfold maxLen; omega) (by omega) (Nat.le_refl _) ?_))
  intro v4 w4 hown4 hg4
  have hb4 : Below w3.heap.size w3 w4 := (Below.refl _ _).grown hg4 (Nat.le_refl _) (fun j e => by simp [Value.ownBlock] at e)
  obtain ⟨A4, c4, rfl, _⟩ := own_sh hown4
  have HO4 := Lib.hid hown4
  have HT4 : Hid (Two w.heap.size w.heap.size p (Value.slice A4 n c4).ownBlock (.slice none 0 0) (.slice none 0 0) [] [] 0 0 w4) := Lib.hid (by
    have h3 := HT3.out.kept hb4
    refine ⟨h3.hq, h3.hp, h3.ap, ?_, ?_⟩
    · intro j hj e
      have := (hown4.lt j e).1
      have := (HT3.out.hq.lt j hj).2
      omega
    · intro j hj e
      have := (hown4.lt j e).1
      have := (HT3.out.hp.lt j hj).2
      omega)
  have HB4 := Lib.hid hb4
  clear hown4 hg4 hb4
  go_wp2_with fail
  go_loopw [8] (fun i wr => ∃ (k : Nat) (ys : List Itm), k ≤ m ∧ i = .int .i64 k ∧ Hid (ys.Perm xs) ∧ Hid (wr.ownsRow w3.heap.size 33 2 (.slice A4 n c4) n ((ys.map rowItm).flatten)) ∧ Hid (Two w.heap.size w.heap.size p (Value.slice A4 n c4).ownBlock (.slice none 0 0) (.slice none 0 0) [] [] 0 0 wr) ∧ Hid (Below w3.heap.size w3 wr)) (fun i _ => m - (intOf i).toNat)
  case atStart => exact ⟨0, xs, by omega, rfl, Lib.hid (List.Perm.refl _), HO4, HT4, HB4⟩
  case round =>
    obtain ⟨wo, hwo⟩ : ∃ wo : World, wo = wr := ⟨_, rfl⟩
    subst hwo
    obtain ⟨k, ys, hk, rfl, HP, HO, HT, HB⟩ := hrel
    go_upto_region 6 with fail
    go_cut [43] (fun s43 wx => ∃ r : Bool, wo = wx ∧ s43 = .bool r ∧ Hid (r = decide (k < m ∧ 0 < n)))
    case first =>
      by_cases h1 : k < m
      · go_wp2_with fail
        go_meet
        exact ⟨_, rfl, rfl, Lib.hid (by rw [Bool.eq_iff_iff]; simp; omega)⟩
      · go_wp2_with fail
        go_meet
        exact ⟨_, rfl, rfl, Lib.hid (by rw [Bool.eq_iff_iff]; simp; omega)⟩
    case rest =>
    obtain ⟨r, hW, rfl, HQ⟩ := hcut
    subst hW
    cases r with
    | true =>
      obtain ⟨h1, h2⟩ : k < m ∧ 0 < n := by simpa using HQ.out.symm
      have hkx : k < ts.length := by have := HM.out; omega
      obtain ⟨b, o, rfl, hcell⟩ := ((HRT.out.kept HB3.out).kept HB.out) k (.int .i64 ts[k]) (by simp [ints, List.getElem?_eq_getElem hkx])
      have b1 : (0 : Int) ≤ (k : Int) ∧ (k : Int) < (m : Int) := by omega
      generalize ts[k] = t at *
      obtain ⟨x, hx, hxe⟩ := modn_any t n h2 (by omega)
      have hun : IntKind.u64.wrap (n : Int) = (n : Int) := u64w (by omega)
      have hnz : ((n : Int) == 0) = false := by rw [beq_eq_false_iff_ne]; omega
      obtain ⟨y, hy, hye⟩ : ∃ y : Nat, y < n ∧ (k : Int).tmod (n : Int) = (y : Int) := ⟨k % n, Nat.mod_lt _ h2, by rw [Int.tmod_eq_emod_of_nonneg (by omega)]; omega⟩
      go_upto_region 8 with fail
      go_cut [9, 10] (fun s9 s10 wx => ∃ W : World, W = wx ∧ s9 = .int .i64 (x : Int) ∧ s10 = .int .i64 (y : Int) ∧ Hid (Below wo.heap.size wo wx))
      case first =>
        go_quiet (fail)
        go_wp2_with fail
        go_meet
        exact ⟨_, rfl, rfl, rfl, Lib.hid (below_drewN _ _)⟩
      case rest =>
      obtain ⟨W, hW, rfl, rfl, HBW⟩ := hcut
      subst hW
      have HO2 := Lib.hid (own_kept HO.out HBW.out)
      have HT2 := Lib.hid (HT.out.kept HBW.out)
      have HB2 := Lib.hid (HB.out.trans (HBW.out.mono HB.out.size))
      obtain ⟨g, rfl, hgb⟩ : ∃ g, A4 = some ⟨g, 0, none⟩ ∧ w3.heap.size ≤ g := by
        rcases HO.out.2 with ⟨e1, _⟩ | ⟨g, cap, cur, e1, e2, _⟩
        · simp at e1; omega
        · simp at e1; exact ⟨g, e1.1, e2⟩
      have hyl0 : ys.length = n := by rw [HP.out.length_eq]; exact HN.out
      have hxl : x < ys.length := by omega
      have hyl : y < ys.length := by omega
      obtain ⟨_, _, e0, _, _, hrdY, _⟩ := own_rd HO2.out
      injection e0 with e1 e2 e3
      subst e1
      obtain ⟨b', o', hbo, hrx⟩ := hrdY.at_row (k := 2) (fun r hr => (isItm_all ys r hr).len) (by decide) (i := x) (r := rowItm (ys.getD x zeroItm.1)) (by simp [List.getElem?_eq_getElem hxl, List.getD_eq_getElem?_getD])
      simp only [Option.some.injEq, Addr.mk.injEq, and_true] at hbo
      obtain ⟨rfl, rfl⟩ := hbo
      obtain ⟨b', o', hbo, hry⟩ := hrdY.at_row (k := 2) (fun r hr => (isItm_all ys r hr).len) (by decide) (i := y) (r := rowItm (ys.getD y zeroItm.1)) (by simp [List.getElem?_eq_getElem hyl, List.getD_eq_getElem?_getD])
      simp only [Option.some.injEq, Addr.mk.injEq, and_true] at hbo
      obtain ⟨rfl, rfl⟩ := hbo
      have hfr := fun j => HO2.out.frozenAt j
      obtain ⟨a, ha⟩ : ∃ a, a = ys.getD x zeroItm.1 := ⟨_, rfl⟩
      obtain ⟨b2, hb⟩ : ∃ b, b = ys.getD y zeroItm.1 := ⟨_, rfl⟩
      rw [← ha] at hrx
      rw [← hb] at hry
      have x0 := hrx 0 _ rfl
      have x1 := hrx 1 _ rfl
      have y0 := hry 0 _ rfl
      have y1 := hry 1 _ rfl
      simp only [Nat.zero_add, Nat.add_zero] at x0 x1 y0 y1
      have HPN : Hid (((ys.set x b2).set y a).Perm xs) := Lib.hid (by
        rw [ha, hb]
        have := swap_perm ys x y hxl hyl
        simp only [List.getD_eq_getElem?_getD, List.getElem?_eq_getElem hxl, List.getElem?_eq_getElem hyl, Option.getD_some]
        exact this.trans HP.out)
      have bx : (0 : Int) ≤ (x : Int) ∧ (x : Int) < (n : Int) := by omega
      have by_ : (0 : Int) ≤ (y : Int) ∧ (y : Int) < (n : Int) := by omega
      have HAB : Hid (x = y → b2 = a) := Lib.hid (fun e => by rw [ha, hb, e])
      clear hrx hry hrdY e2 e3 hyl0 hcell ha hb hxe hye hun hnz
      clear C1 C2 C3 C4 C5 HRT HM HL0 H10 HQ1 HB1 HT3 HO4 HT4 HB4 HT HO HQ hpl hql b1
      by_cases hxy : x = y
      · have hba := HAB.out hxy
        subst hxy
        subst hba
        clear y0 y1 by_
        have HOW := Lib.hid HO2.out
        go_wp2_with fail
        go_region
        go_wp2
        go_roundw
        case rel =>
          refine ⟨k + 1, (ys.set x b2).set x b2, by omega, by go_num, Lib.hid HPN.out, Lib.hid ?_, Lib.hid ?_, Lib.hid ?_⟩
          · exact own_two (own_two HOW.out x hxl b2) x (by simpa using hyl) b2
          · exact HT2.out.keptBo (((((Chg.refl (fun j => (Value.slice (some ⟨g, 0, none⟩) n c4).ownBlock = some j) W).setCell (p := ⟨g, x * 2, none⟩) (fun _ => rfl) _).setCell (p := ⟨g, x * 2 + 1, none⟩) (fun _ => rfl) _).setCell (p := ⟨g, x * 2, none⟩) (fun _ => rfl) _).setCell (p := ⟨g, x * 2 + 1, none⟩) (fun _ => rfl) _).drew
          · exact ((((HB2.out.setCell (p := ⟨g, x * 2, none⟩) hgb _).setCell (p := ⟨g, x * 2 + 1, none⟩) hgb _).setCell (p := ⟨g, x * 2, none⟩) hgb _).setCell (p := ⟨g, x * 2 + 1, none⟩) hgb _).drew
        case measure => simp [intOf]; omega
      · skip
        have HOW := Lib.hid HO2.out
        go_wp2_with fail
        go_region
        go_wp2
        go_roundw
        case rel =>
          refine ⟨k + 1, (ys.set x b2).set y a, by omega, by go_num, Lib.hid HPN.out, Lib.hid ?_, Lib.hid ?_, Lib.hid ?_⟩
          · exact own_two (own_two HOW.out x hxl b2) y (by simpa using hyl) a
          · exact HT2.out.keptBo (((((Chg.refl (fun j => (Value.slice (some ⟨g, 0, none⟩) n c4).ownBlock = some j) W).setCell (p := ⟨g, x * 2, none⟩) (fun _ => rfl) _).setCell (p := ⟨g, x * 2 + 1, none⟩) (fun _ => rfl) _).setCell (p := ⟨g, y * 2, none⟩) (fun _ => rfl) _).setCell (p := ⟨g, y * 2 + 1, none⟩) (fun _ => rfl) _).drew
          · exact ((((HB2.out.setCell (p := ⟨g, x * 2, none⟩) hgb _).setCell (p := ⟨g, x * 2 + 1, none⟩) hgb _).setCell (p := ⟨g, y * 2, none⟩) hgb _).setCell (p := ⟨g, y * 2 + 1, none⟩) hgb _).drew
        case measure => simp [intOf]; omega
    | false =>
      have HYN : Hid (ys.length = n) := Lib.hid (by rw [HP.out.length_eq]; exact HN.out)
      have HB5 := Lib.hid (HB3.out.trans (HB.out.mono HB3.out.size))
      have HBO := Lib.hid (fun j (e : (Value.slice A4 n c4).ownBlock = some j) => (HO.out.lt j e).2)
      have hz5 : w3.heap.size ≤ wo.heap.size := HB.out.size
      clear HQ HB HT4 HO4 HB4 HT3
      go_wp2_with fail
      go_loopw [11] (fun i wr => ∃ (j : Nat) (vq vp : Value) (S T : List (Itm × Nat)), j ≤ n ∧ i = .int .i64 j ∧ Hid (Two w.heap.size w.heap.size p (Value.slice A4 n c4).ownBlock vq vp S T j j wr) ∧ Hid (S.map (·.1) = sortV lessI (xs.take j)) ∧ Hid (T.map (·.1) = sortV lessI (ys.take j)) ∧ Hid (wr.ownsRow w3.heap.size 33 2 (.slice A4 n c4) n ((ys.map rowItm).flatten)) ∧ Hid (Below w.heap.size w wr) ∧ Hid (wo.heap.size ≤ wr.heap.size)) (fun i _ => n - (intOf i).toNat)
      case atStart => exact ⟨0, _, _, [], [], by omega, rfl, HT, Lib.hid rfl, Lib.hid rfl, HO, HB5, Lib.hid (Nat.le_refl _)⟩
      case round =>
        obtain ⟨w6, hw6⟩ : ∃ w6 : World, w6 = wr := ⟨_, rfl⟩
        subst hw6
        obtain ⟨j, vq, vp, S, T, hj, rfl, HT6, HS6, HU6, HO6, HB6, HZ6⟩ := hrel
        by_cases hlt : j < n
        · have hjx : j < xs.length := by have := HN.out; omega
          have hjy : j < ys.length := by have := HYN.out; omega
          obtain ⟨b, o, rfl, hrow⟩ := (HR.out.kept HB6.out).at_row (k := 2) (fun r hr => (isItm_all xs r hr).len) (by decide) (i := j) (r := rowItm xs[j]) (by simp [List.getElem?_eq_getElem hjx])
          have hxt : (xs.take j).length = j := by simp; omega
          have hyt : (ys.take j).length = j := by simp; omega
          have hSl : S.length = j := by have := congrArg List.length HS6.out; simpa [sortV_len, hxt] using this
          have hTl : T.length = j := by have := congrArg List.length HU6.out; simpa [sortV_len, hyt] using this
          have HS7 : Hid ((insT lessI (xs[j], j) S).map (·.1) = sortV lessI (xs.take (j + 1))) := Lib.hid (by
            have e : xs.take (j + 1) = xs.take j ++ [xs[j]] := by rw [List.take_add_one, List.getElem?_eq_getElem hjx]; rfl
            rw [e]
            have := pushed_next (x := xs[j]) HS6.out (by rw [hxt]; exact HT6.out.hq.turn)
            rw [hxt] at this; exact this)
          have HU7 : Hid ((insT lessI (ys[j], j) T).map (·.1) = sortV lessI (ys.take (j + 1))) := Lib.hid (by
            have e : ys.take (j + 1) = ys.take j ++ [ys[j]] := by rw [List.take_add_one, List.getElem?_eq_getElem hjy]; rfl
            rw [e]
            have := pushed_next (x := ys[j]) HU6.out (by rw [hyt]; exact HT6.out.hp.turn)
            rw [hyt] at this; exact this)
          have HRY := Lib.hid (fun (W : World) (ho : W.ownsRow w3.heap.size 33 2 (.slice A4 n c4) n ((ys.map rowItm).flatten)) => show ∃ b o, A4 = some ⟨b, o, none⟩ ∧ W.rangeAt b (o + j * 2) (rowItm ys[j]) from by
            obtain ⟨A', c', e0, _, _, hr, _⟩ := own_rd ho
            injection e0 with e1 e2 e3
            subst e1
            exact hr.at_row (k := 2) (fun r hr => (isItm_all ys r hr).len) (by decide) (i := j) (r := rowItm ys[j]) (by simp [List.getElem?_eq_getElem hjy]))
          have hzw := HB6.out.size
          have HZB := Lib.hid (fun j (e : (Value.slice A4 n c4).ownBlock = some j) => Nat.lt_of_lt_of_le (HBO.out j e) HZ6.out)
          have CQ := Lib.hid (C3.out w.heap.size w6 vq S j xs[j] HT6.out.hq (by omega) (by omega) hzw)
          have c0 := hrow 0 _ rfl
          have c1 := hrow 1 _ rfl
          simp only [Nat.add_zero] at c0
          have b1 : (0 : Int) ≤ (j : Int) ∧ (j : Int) < (n : Int) := by omega
          clear hrow
          obtain ⟨bo', oo', hA4, _⟩ := HRY.out w6 HO6.out
          subst hA4
          generalize xs[j] = x at *
          generalize ys[j] = y at *
          go_wp2_with fail
          refine CQ.out.mono ?_
          rintro e w7 ⟨rfl, vq7, hq7, hc7, hf7⟩
          have HT7 := Lib.hid (HT6.out.first HZB.out hq7 hc7 hf7)
          have HO7 := Lib.hid (own_chg HO6.out hc7 (fun i hi hq => HT6.out.qo i hq hi))
          have HB7 := Lib.hid (HB6.out.trans (hc7.below (fun k hk hS => by have := (HT6.out.hq.lt k hS).1; omega) hzw))
          have hz67 := hc7.size
          obtain ⟨b7, o7, hb7, hr7⟩ := HRY.out w7 HO7.out
          simp only [Option.some.injEq, Addr.mk.injEq, and_true] at hb7
          obtain ⟨rfl, rfl⟩ := hb7
          have y0 := hr7 0 _ rfl
          have y1 := hr7 1 _ rfl
          simp only [Nat.add_zero] at y0
          have HZB7 := Lib.hid (fun j (e : (Value.slice (some ⟨bo', oo', none⟩) n c4).ownBlock = some j) => Nat.lt_of_lt_of_le (HZB.out j e) hz67)
          have CP := Lib.hid (C3.out p w7 vp T j y HT7.out.hp (by omega) (by omega) (Nat.le_trans hzw hz67))
          clear hq7 hc7 hf7 hr7 c0 c1
          go_wp2_with fail
          refine CP.out.mono ?_
          rintro e w8 ⟨rfl, vp8, hp8, hc8, hf8⟩
          have HT8 := Lib.hid (HT7.out.second HZB7.out hp8 hc8 hf8)
          have HO8 := Lib.hid (own_chg HO7.out hc8 (fun i hi hq => HT7.out.po i hq hi))
          have HB8 := Lib.hid (HB7.out.trans (hc8.below (fun k hk hS => by have := (HT7.out.hp.lt k hS).1; omega) HB7.out.size))
          have HZ8 := Lib.hid (Nat.le_trans HZ6.out (Nat.le_trans hz67 hc8.size))
          clear hp8 hc8 hf8 y0 y1
          go_wp2
          go_roundw
          case rel => exact ⟨j + 1, vq7, vp8, _, _, by omega, by go_num, HT8, HS7, HU7, HO8, HB8, HZ8⟩
          case measure => simp [intOf]; omega
        · obtain rfl : j = n := by omega
          have hxt : xs.take j = xs := List.take_of_length_le (by have := HN.out; omega)
          have hyt : ys.take j = ys := List.take_of_length_le (by have := HYN.out; omega)
          rw [hxt] at HS6
          rw [hyt] at HU6
          have HRK := Lib.hid (ranks_same HP.out)
          have HSR := Lib.hid (sortV_ran swoI xs)
          have HSPM := Lib.hid (sortV_perm (less := lessI) xs)
          have HSAL := Lib.hid (show (sortV lessI xs).length = j by rw [sortV_len]; exact HN.out)
          have HTAL := Lib.hid (show (sortV lessI ys).length = j by rw [sortV_len]; exact HYN.out)
          have HLQ := Lib.hid (fun i hi => HT6.out.hq.lt i hi)
          have HLP := Lib.hid (fun i hi => HT6.out.hp.lt i hi)
          have HQ6 := Lib.hid HT6.out.hq
          have HP6 := Lib.hid HT6.out.hp
          have HAP := Lib.hid HT6.out.ap
          have HLE : Hid (left xs (List.replicate j false) = xs) := Lib.hid (by rw [← HN.out]; exact left_none xs)
          obtain ⟨i0, hi, hz0, hz1, hz2⟩ := info_parts infoInt
          clear hxt hyt hlt HT6 HO6 HZ6 HO HT HBO HYN HP hz5 HB5 HRT HM HL0 H10 HA HQ1 HB1 C1 C2 C3
          generalize sortV lessI xs = SA at *
          generalize sortV lessI ys = TA at *
          go_wp2_with (at_make; go_must (refine wpList_make_full _ rfl _ _ 47 rfl w6.heap.size 3 i0 (.int .i64 0) 1 Try.underlying47 hi hz0 hz1 .i64 .i64 (j : Int) (j : Int) j rfl rfl rfl rfl (by rw [hz2]; omega) (by unfold maxLen; omega) (Nat.le_refl _) ?_))
          intro w7 hown7 hg7
          rw [toList_madeCells_one, show List.replicate j (Value.int .i64 0) = markI (List.replicate j false) by simp [markI]] at hown7
          have hb67 : Below w6.heap.size w6 w7 := (Below.refl _ _).grown hg7 (Nat.le_refl _) (fun k e => by cases e)
          obtain ⟨w8, hw8⟩ : ∃ w8 : World, w8 = w7.alloc (.cells #[.int .i64 0, .string ⟨#[]⟩] 33) := ⟨_, rfl⟩
          have hz7 : w6.heap.size < w7.heap.size := (hown7.lt w6.heap.size rfl).2
          have HO8 : Hid (w8.ownsRow w6.heap.size 3 1 (.slice (some ⟨w6.heap.size, 0, none⟩) j j) j (markI (List.replicate j false))) := by rw [hw8]; exact Lib.hid (hown7.alloc _)
          have HL8 : Hid (w8.heap[w7.heap.size]? = some (.cells #[.int .i64 0, .string ⟨#[]⟩] 33 (0, 0))) := by rw [hw8]; exact Lib.hid (heap_alloc_new _ _)
          have HB68 : Hid (Below w6.heap.size w6 w8) := by rw [hw8]; exact Lib.hid (hb67.alloc hb67.size _)
          have HQ8 := Lib.hid (HQ6.out.kept HB68.out)
          have HP8 := Lib.hid (HP6.out.kept HB68.out)
          have HB8 := Lib.hid (HB6.out.trans (HB68.out.mono HB6.out.size))
          clear hown7 hg7 hb67
          go_upto_region 17 with fail
          rw [← hw8]
          clear hw8 hi hz0 hz1 hz2 HQ6 HP6 HB68
          go_wp2_with fail
          go_loopw [14] (fun i wr => ∃ (k : Nat) (v1 v2 : Value) (S T : List (Itm × Nat)) (m : List Bool) (la : Itm), k ≤ j ∧ i = .int .i64 k ∧ m.length = j ∧ Hid (QIsItm w.heap.size lessI 22 w.heap.size v1 S j wr) ∧ Hid (QIsItm w.heap.size lessI 22 p v2 T j wr) ∧ Hid (v1.ownBlock = vq.ownBlock) ∧ Hid (v2.ownBlock = vp.ownBlock) ∧ Hid (S.map (·.1) = SA.drop k) ∧ Hid (T.map (·.1) = TA.drop k) ∧ Hid ((left xs m).Perm (SA.drop k)) ∧ Hid (wr.ownsRow w6.heap.size 3 1 (.slice (some ⟨w6.heap.size, 0, none⟩) j j) j (markI m)) ∧ Hid (wr.heap[w7.heap.size]? = some (.cells #[.int .i64 la.1, .string la.2] 33 (0, 0))) ∧ Hid (∀ t, k = t + 1 → SA[t]? = some la) ∧ Hid (Below w.heap.size w wr)) (fun i _ => j - (intOf i).toNat)
          case atStart => exact ⟨0, vq, vp, S, T, _, (0, ⟨#[]⟩), by omega, rfl, by simp, HQ8, HP8, Lib.hid rfl, Lib.hid rfl, HS6, HU6, Lib.hid (by rw [HLE.out]; exact HSPM.out.symm), HO8, HL8, Lib.hid (fun t e => by omega), HB8⟩
          case round =>
            obtain ⟨w9, hw9⟩ : ∃ w9 : World, w9 = wr := ⟨_, rfl⟩
            subst hw9
            obtain ⟨k, v1, v2, S1, T1, mk, la, hk, rfl, hml, HQ9, HP9, HV1, HV2, HS9, HU9, HLM, HO9, HL9, HLA, HB9⟩ := hrel
            by_cases hlt : k < j
            · have hsx : k < SA.length := by have := HSAL.out; omega
              have htx : k < TA.length := by have := HTAL.out; omega
              obtain ⟨s1, S2, hS1, hs1⟩ : ∃ s1 S2, S1 = s1 :: S2 ∧ s1.1 = SA[k] ∧ S2.map (·.1) = SA.drop (k + 1) := by
                have h9 := HS9.out
                rw [List.drop_eq_getElem_cons hsx] at h9
                cases S1 with
                | nil => rw [List.map_nil] at h9; cases h9
                | cons a b => injection h9 with g1 g2; exact ⟨a, b, rfl, g1, g2⟩
              obtain ⟨t1, T2, hT1, ht1⟩ : ∃ t1 T2, T1 = t1 :: T2 ∧ t1.1 = TA[k] ∧ T2.map (·.1) = TA.drop (k + 1) := by
                have h9 := HU9.out
                rw [List.drop_eq_getElem_cons htx] at h9
                cases T1 with
                | nil => rw [List.map_nil] at h9; cases h9
                | cons a b => injection h9 with g1 g2; exact ⟨a, b, rfl, g1, g2⟩
              subst hS1 hT1
              have hrk : t1.1.1 = s1.1.1 := by
                have h9 := congrArg (fun l => l[k]?) HRK.out
                simp only [List.getElem?_map, List.getElem?_eq_getElem hsx, List.getElem?_eq_getElem htx, Option.map_some, Option.some.injEq] at h9
                rw [ht1.1, hs1.1]; exact h9
              have HS2 := Lib.hid hs1.2
              have HU2 := Lib.hid ht1.2
              have HSD : Hid (SA.drop k = s1.1 :: SA.drop (k + 1)) := Lib.hid (by rw [List.drop_eq_getElem_cons hsx, hs1.1])
              have HSK : Hid (SA[k]? = some s1.1) := Lib.hid (by rw [List.getElem?_eq_getElem hsx, hs1.1])
              have HORD : Hid (∀ t, k = t + 1 → ¬ s1.1.1 < la.1) := Lib.hid (fun t e => by
                have h1 := HLA.out t e
                have htl : t < SA.length := by omega
                rw [List.getElem?_eq_getElem htl] at h1
                have h2 := List.pairwise_iff_getElem.1 HSR.out t k htl hsx (by omega)
                simp [lessI] at h2
                injection h1 with h1
                rw [hs1.1, ← h1]; omega)
              have hSl : S2.length + 1 ≤ 4000000000 := by
                have := congrArg List.length HS2.out
                rw [List.length_map, List.length_drop, HSAL.out] at this; omega
              have hTl : T2.length + 1 ≤ 4000000000 := by
                have := congrArg List.length HU2.out
                rw [List.length_map, List.length_drop, HTAL.out] at this; omega
              have CQ := Lib.hid (C4.out w.heap.size w9 v1 s1 S2 j HQ9.out hSl)
              obtain ⟨⟨a1, a2⟩, sa⟩ := s1
              obtain ⟨⟨tb1, b2⟩, tb⟩ := t1
              simp only at hrk HSD HSK HORD
              subst hrk
              clear hs1 ht1 hsx htx HS9 HU9
              have hz6w := HB6.out.size
              go_wp2_with fail
              refine CQ.out.mono ?_
              rintro e w10 ⟨rfl, v3, hq10, hc10, hv10⟩
              have hQlt := fun i (hi : QBlk w.heap.size v1 i) => HLQ.out i (by rcases hi with e | e; exact .inl e; exact .inr (by rw [← HV1.out]; exact e))
              have hPlt := fun i (hi : QBlk p v2 i) => HLP.out i (by rcases hi with e | e; exact .inl e; exact .inr (by rw [← HV2.out]; exact e))
              have HQ10 := Lib.hid hq10
              have HP10 := Lib.hid (HP9.out.chg hc10 (fun i hi hq => HAP.out i (by rcases hq with e | e; exact .inl e; exact .inr (by rw [← HV1.out]; exact e)) (by rcases hi with e | e; exact .inl e; exact .inr (by rw [← HV2.out]; exact e))))
              have HV10 := Lib.hid (hv10.trans HV1.out)
              have HO10 := Lib.hid (own_chg HO9.out hc10 (fun i hi hq => by have := (HO9.out.lt i hi).1; have := (hQlt i hq).2; omega))
              have HL10 := Lib.hid ((hc10.block w7.heap.size (Array.getElem?_eq_some_iff.1 HL9.out).1 (fun hq => by have := (hQlt _ hq).2; omega)).trans HL9.out)
              have HB10 := Lib.hid (HB9.out.trans (hc10.below (fun k hk hS => by have := (hQlt k hS).1; omega) HB9.out.size))
              have HLT10 := Lib.hid hQlt
              have HPLT := Lib.hid hPlt
              have hzz := (Array.getElem?_eq_some_iff.1 HL10.out).1
              clear hq10 hc10 hv10 hQlt hPlt HO9 HL9 CQ HQ9 HB9
              obtain ⟨w11, hw11⟩ : ∃ w11 : World, w11 = w10.alloc (.cells #[.int .i64 tb1, .string a2] 33) := ⟨_, rfl⟩
              have HBA : Hid (w11.heap[w10.heap.size]? = some (.cells #[.int .i64 tb1, .string a2] 33 (0, 0))) := by rw [hw11]; exact Lib.hid (heap_alloc_new _ _)
              have HQ11 : Hid (QIsItm w.heap.size lessI 22 w.heap.size v3 S2 j w11) := by rw [hw11]; exact Lib.hid (HQ10.out.kept (below1 _ _))
              have HP11 : Hid (QIsItm w.heap.size lessI 22 p v2 (((tb1, b2), tb) :: T2) j w11) := by rw [hw11]; exact Lib.hid (HP10.out.kept (below1 _ _))
              have HO11 : Hid (w11.ownsRow w6.heap.size 3 1 (.slice (some ⟨w6.heap.size, 0, none⟩) j j) j (markI mk)) := by rw [hw11]; exact Lib.hid (HO10.out.alloc _)
              have HL11 : Hid (w11.heap[w7.heap.size]? = some (.cells #[.int .i64 la.1, .string la.2] 33 (0, 0))) := by rw [hw11]; exact Lib.hid ((Below.heap_alloc w10 _ _ hzz).trans HL10.out)
              have HB11 : Hid (Below w.heap.size w w11) := by rw [hw11]; exact Lib.hid (HB10.out.alloc HB10.out.size _)
              have HZ11 : Hid (w11.heap.size = w10.heap.size + 1) := by rw [hw11]; exact Lib.hid (by simp)
              have CP := Lib.hid (C4.out p w11 v2 ((tb1, b2), tb) T2 j HP11.out hTl)
              clear HQ10 HP10 HO10 HL10 HB10
              go_wp2_with fail
              rw [← hw11]
              clear hw11
              refine CP.out.mono ?_
              rintro e w12 ⟨rfl, v4, hp12, hc12, hv12⟩
              have HP12 := Lib.hid hp12
              have HQ12 := Lib.hid (HQ11.out.chg hc12 (fun i hi hp => HAP.out i (by rcases hi with e | e; exact .inl e; exact .inr (by rw [← HV10.out]; exact e)) (by rcases hp with e | e; exact .inl e; exact .inr (by rw [← HV2.out]; exact e))))
              have HV12 := Lib.hid (hv12.trans HV2.out)
              have HO12 := Lib.hid (own_chg HO11.out hc12 (fun i hi hp => by have := (HO11.out.lt i hi).1; have := (HPLT.out i hp).2; omega))
              have HL12 := Lib.hid ((hc12.block w7.heap.size (Array.getElem?_eq_some_iff.1 HL11.out).1 (fun hq => by have := (HPLT.out _ hq).2; omega)).trans HL11.out)
              have HBA12 := Lib.hid ((hc12.block w10.heap.size (Array.getElem?_eq_some_iff.1 HBA.out).1 (fun hq => by have := (HPLT.out _ hq).2; omega)).trans HBA.out)
              have HB12 := Lib.hid (HB11.out.trans (hc12.below (fun k hk hS => by have := (HPLT.out k hS).1; omega) HB11.out.size))
              have HZ12 := Lib.hid (show w10.heap.size < w12.heap.size from (Array.getElem?_eq_some_iff.1 HBA12.out).1)
              clear hp12 hc12 hv12 CP HQ11 HP11 HO11 HL11 HB11
              have hca := fun i => cell_of_row w12 w10.heap.size i _ _ _ HBA12.out
              have hcl := fun i => cell_of_row w12 w7.heap.size i _ _ _ HL12.out
              have hfl := fun i => frozen_of_row w12 w7.heap.size i _ _ HL12.out
              have hz1012 := HZ12.out
              have hz712 := (Array.getElem?_eq_some_iff.1 HL12.out).1
              go_upto_region 22 with fail
              go_cut [138] (fun s wx => ∃ W : World, W = wx ∧ s = .bool false ∧ W = w12.alloc (.cells #[.int .i64 tb1, .string b2] 33))
              case first =>
                rcases Nat.eq_zero_or_pos k with h0 | h0
                · subst h0
                  go_wp2_with fail
                  go_meet
                  exact ⟨_, rfl, rfl, rfl⟩
                · have d1 := HORD.out (k - 1) (by omega)
                  have d0 : (0 : Int) < (k : Int) := by omega
                  clear h0
                  go_wp2_with fail
                  go_meet
                  exact ⟨_, rfl, by rw [decide_eq_false (show ¬ tb1 < la.1 by omega)], rfl⟩
              case rest =>
              obtain ⟨W, hW, rfl, hW2⟩ := hcut
              subst hW
              clear hca hcl hfl
              have HQ13 : Hid (QIsItm w.heap.size lessI 22 w.heap.size v3 S2 j W) := by rw [hW2]; exact Lib.hid (HQ12.out.kept (below1 _ _))
              have HP13 : Hid (QIsItm w.heap.size lessI 22 p v4 T2 j W) := by rw [hW2]; exact Lib.hid (HP12.out.kept (below1 _ _))
              have HO13 : Hid (W.ownsRow w6.heap.size 3 1 (.slice (some ⟨w6.heap.size, 0, none⟩) j j) j (markI mk)) := by rw [hW2]; exact Lib.hid (HO12.out.alloc _)
              have HL13 : Hid (W.heap[w7.heap.size]? = some (.cells #[.int .i64 la.1, .string la.2] 33 (0, 0))) := by rw [hW2]; exact Lib.hid ((Below.heap_alloc w12 _ _ hz712).trans HL12.out)
              have HA13 : Hid (W.heap[w10.heap.size]? = some (.cells #[.int .i64 tb1, .string a2] 33 (0, 0))) := by rw [hW2]; exact Lib.hid ((Below.heap_alloc w12 _ _ hz1012).trans HBA12.out)
              have HB13 : Hid (Below w.heap.size w W) := by rw [hW2]; exact Lib.hid (HB12.out.alloc HB12.out.size _)
              clear hW2 HQ12 HP12 HO12 HL12 HBA12 HB12 HZ12 hz1012 hz712 HZ11 HBA HORD HRK HLA
              have hca := fun i => cell_of_row W w10.heap.size i _ _ _ HA13.out
              have hcl := fun i => cell_of_row W w7.heap.size i _ _ _ HL13.out
              have hfl := fun i => frozen_of_row W w7.heap.size i _ _ HL13.out
              have hne : w10.heap.size ≠ w7.heap.size := by have := hzz; omega
              have HW14 := Lib.hid (show Chg (fun j => j = w7.heap.size) W ((W.setCell ⟨w7.heap.size, 0, none⟩ (.int .i64 tb1)).setCell ⟨w7.heap.size, 1, none⟩ (.string a2)) from ((Chg.refl (fun j => j = w7.heap.size) W).setCell (p := ⟨w7.heap.size, 0, none⟩) (fun _ => rfl) _).setCell (p := ⟨w7.heap.size, 1, none⟩) (fun _ => rfl) _)
              have HL14 := Lib.hid (show ((W.setCell ⟨w7.heap.size, 0, none⟩ (.int .i64 tb1)).setCell ⟨w7.heap.size, 1, none⟩ (.string a2)).heap[w7.heap.size]? = some (.cells #[.int .i64 tb1, .string a2] 33 (0, 0)) from by
                have h0 : _ = some (Obj.cells #[.int .i64 tb1, .string la.2] 33 (0, 0)) := heap_setCell_same W w7.heap.size 0 _ _ (.int .i64 tb1) HL13.out
                have h1 : _ = some (Obj.cells #[.int .i64 tb1, .string a2] 33 (0, 0)) := heap_setCell_same _ w7.heap.size 1 _ _ (.string a2) h0
                exact h1)
              obtain ⟨X, hX⟩ : ∃ X : World, X = (W.setCell ⟨w7.heap.size, 0, none⟩ (.int .i64 tb1)).setCell ⟨w7.heap.size, 1, none⟩ (.string a2) := ⟨_, rfl⟩
              rw [← hX] at HW14 HL14
              go_upto_region 26 with fail
              rw [← hX]
              clear hX hca hcl hfl
              have HQX := Lib.hid (HQ13.out.chg HW14.out (fun i hi e => by subst e; have := (HLQ.out _ (by rcases hi with e | e; exact .inl e; exact .inr (by rw [← HV10.out]; exact e))).2; omega))
              have HPX := Lib.hid (HP13.out.chg HW14.out (fun i hi e => by subst e; have := (HLP.out _ (by rcases hi with e | e; exact .inl e; exact .inr (by rw [← HV12.out]; exact e))).2; omega))
              have HOX := Lib.hid (own_chg HO13.out HW14.out (fun i hi e => by subst e; simp [Value.ownBlock] at hi; omega))
              have HAX := Lib.hid ((HW14.out.block w10.heap.size (Array.getElem?_eq_some_iff.1 HA13.out).1 hne).trans HA13.out)
              have HBX := Lib.hid (HB13.out.trans (HW14.out.below (fun k hk e => by subst e; omega) HB13.out.size))
              have hgA : w6.heap.size ≠ w10.heap.size := by omega
              clear HQ13 HP13 HO13 HL13 HA13 HB13 HW14
              go_wp2_with fail
              go_loopw [20, 19] (fun i f wr => ∃ (e : Nat) (fd : Bool) (mk' : List Bool), e ≤ j ∧ i = .int .i64 e ∧ f = .bool fd ∧ mk'.length = j ∧ Hid (FoundI xs (tb1, a2) mk e fd mk') ∧ Hid (wr.ownsRow w6.heap.size 3 1 (.slice (some ⟨w6.heap.size, 0, none⟩) j j) j (markI mk')) ∧ Hid (Chg (fun i => i = w6.heap.size) X wr)) (fun i _ _ => j - (intOf i).toNat)
              case atStart => exact ⟨0, false, mk, by omega, rfl, rfl, hml, Lib.hid (.inl ⟨rfl, rfl, by omega⟩), HOX, Lib.hid (Chg.refl _ _)⟩
              case round =>
                obtain ⟨wi, hwi⟩ : ∃ wi : World, wi = wr := ⟨_, rfl⟩
                subst hwi
                obtain ⟨e, fd, mk', he, rfl, rfl, hml', HF, HOi, HCi⟩ := hrel
                have HBi := Lib.hid (HBX.out.trans (HCi.out.below (fun k hk e => by subst e; omega) HBX.out.size))
                cases fd with
                | true =>
                  have HF2 : Hid (∃ j' : Nat, mk[j']? = some false ∧ xs[j']? = some (tb1, a2) ∧ mk' = mk.set j' true) := Lib.hid (by
                    rcases HF.out with ⟨h1, _⟩ | ⟨_, h2⟩
                    · cases h1
                    · exact h2)
                  have HP2 : Hid ((left xs mk').Perm (SA.drop (k + 1))) := Lib.hid (by
                    obtain ⟨j', e1, e2, e3⟩ := HF2.out
                    have p1 := left_set xs mk j' e1 e2
                    rw [← e3] at p1
                    have p2 := HLM.out
                    rw [HSD.out] at p2
                    exact (p1.symm.trans p2).cons_inv)
                  have HQi := Lib.hid (HQX.out.chg HCi.out (fun i hi e => by subst e; have := (HLQ.out _ (by rcases hi with e | e; exact .inl e; exact .inr (by rw [← HV10.out]; exact e))).2; omega))
                  have HPi := Lib.hid (HPX.out.chg HCi.out (fun i hi e => by subst e; have := (HLP.out _ (by rcases hi with e | e; exact .inl e; exact .inr (by rw [← HV12.out]; exact e))).2; omega))
                  have HLi := Lib.hid ((HCi.out.block w7.heap.size (Array.getElem?_eq_some_iff.1 HL14.out).1 (by omega)).trans HL14.out)
                  have HSKi : Hid (∀ t, k + 1 = t + 1 → SA[t]? = some (tb1, a2)) := Lib.hid (fun t e => by obtain rfl : k = t := (by omega); exact HSK.out)
                  by_cases hek : e < j
                  · have b13 : (e : Int) < (j : Int) := by omega
                    go_wp2
                    go_roundw
                    case rel => exact ⟨k + 1, v3, v4, S2, T2, mk', (tb1, a2), by omega, by go_num, hml', HQi, HPi, HV10, HV12, HS2, HU2, HP2, HOi, HLi, HSKi, HBi⟩
                    case measure => simp [intOf]; omega
                  · have b13 : ¬ (e : Int) < (j : Int) := by omega
                    go_wp2
                    go_roundw
                    case rel => exact ⟨k + 1, v3, v4, S2, T2, mk', (tb1, a2), by omega, by go_num, hml', HQi, HPi, HV10, HV12, HS2, HU2, HP2, HOi, HLi, HSKi, HBi⟩
                    case measure => simp [intOf]; omega
                | false =>
                  obtain ⟨e1, HF2⟩ : mk' = mk ∧ Hid (∀ j', j' < e → ¬ (mk[j']? = some false ∧ xs[j']? = some (tb1, a2))) := by
                    rcases HF.out with ⟨_, h2, h3⟩ | ⟨h1, _⟩
                    · exact ⟨h2, Lib.hid h3⟩
                    · cases h1
                  subst e1
                  by_cases hek : e < j
                  · have hkx : e < xs.length := by have := HN.out; omega
                    have hkm : e < mk'.length := by omega
                    obtain ⟨b2', o2, rfl, hrow3⟩ := (HR.out.kept HBi.out).at_row (k := 2) (fun r hr => (isItm_all xs r hr).len) (by decide) (i := e) (r := rowItm xs[e]) (by simp [List.getElem?_eq_getElem hkx])
                    have hus := HOi.out.cellAt e (by omega)
                    have huk : (markI mk')[e]? = some (.int .i64 (if mk'[e] then 1 else 0)) := by simp [markI, List.getElem?_eq_getElem hkm]
                    rw [huk] at hus
                    have hfz := HOi.out.frozenAt e
                    have hai := fun i => cell_of_row wi w10.heap.size i _ _ _ ((HCi.out.block w10.heap.size (Array.getElem?_eq_some_iff.1 HAX.out).1 (fun h => hgA h.symm)).trans HAX.out)
                    have x0 := hrow3 0 _ rfl
                    have x1 := hrow3 1 _ rfl
                    simp only [Nat.add_zero] at x0
                    have HMK : Hid (mk'[e]? = some mk'[e]) := Lib.hid (List.getElem?_eq_getElem hkm)
                    have HXK : Hid (xs[e]? = some xs[e]) := Lib.hid (List.getElem?_eq_getElem hkx)
                    have bk : (0 : Int) ≤ (e : Int) ∧ (e : Int) < (j : Int) := by omega
                    clear hrow3 huk
                    generalize xs[e] = x at *
                    generalize mk'[e] = bm at *
                    go_upto_region 29 with fail
                    go_cut [162] (fun s wx => ∃ (r : Bool) (W : World), W = wx ∧ s = .bool r ∧ Hid (r = (!bm && decide (x = (tb1, a2)))) ∧ Hid (Below wi.heap.size wi wx))
                    case first =>
                      clear C4 C5 HSR HSPM
                      cases bm with
                      | true =>
                        simp only [if_true] at hus
                        go_quiet (fail)
                        go_wp2_with fail
                        go_meet
                        exact ⟨_, _, rfl, rfl, Lib.hid (by simp), Lib.hid (by first | exact below_drewN _ _ | exact (Below.refl _ _).drew)⟩
                      | false =>
                        simp only [Bool.false_eq_true, if_false] at hus
                        rcases itm_parts x (tb1, a2) with ⟨q0, q1, hq⟩ | ⟨q0, hq⟩ | ⟨q0, q1, hq⟩
                        all_goals have HQ := Lib.hid hq
                        all_goals clear hq
                        all_goals go_region
                        all_goals go_wp2_with fail
                        all_goals go_meet
                        all_goals exact ⟨_, _, rfl, rfl, Lib.hid (by simp [HQ.out]), Lib.hid (by first | exact below_drewN _ _ | exact (Below.refl _ _).drew)⟩
                    case rest =>
                    obtain ⟨r, W9, hW9, rfl, HRr, HBw⟩ := hcut
                    subst hW9
                    have HO9 := Lib.hid (own_kept HOi.out HBw.out)
                    have HC9 := Lib.hid (HCi.out.trans ((Chg.of_below HBw.out).mono (fun i hi hs => by omega)))
                    clear hus hfz x0 x1 hai
                    cases r with
                    | true =>
                      obtain ⟨hb0, hxa⟩ : bm = false ∧ x = (tb1, a2) := by simpa using HRr.out.symm
                      have hus := HO9.out.cellAt e (by omega)
                      have hfz := HO9.out.frozenAt e
                      have HFD : Hid (FoundI xs (tb1, a2) mk' (e + 1) true (mk'.set e true)) := Lib.hid (.inr ⟨rfl, e, by rw [HMK.out, hb0], by rw [HXK.out, hxa], rfl⟩)
                      have huk : (markI mk')[e]? = some (.int .i64 0) := by simp [markI, HMK.out, hb0]
                      rw [huk] at hus
                      clear hb0 hxa huk HMK HXK
                      go_wp2
                      go_roundw
                      case rel => exact ⟨e + 1, true, mk'.set e true, by omega, by go_num, rfl, by simpa using hml, HFD, Lib.hid (by rw [← markI_set]; exact (HO9.out.stored e (.int .i64 1)).1), Lib.hid (HC9.out.setCell (p := ⟨w6.heap.size, e, none⟩) (fun _ => rfl) _)⟩
                      case measure => simp [intOf]; omega
                    | false =>
                      have HFD : Hid (FoundI xs (tb1, a2) mk' (e + 1) false mk') := Lib.hid (.inl ⟨rfl, rfl, fun j' hj' => by
                        by_cases e' : j' = e
                        · subst e'
                          rw [HMK.out, HXK.out]
                          intro hh
                          simp only [Option.some.injEq] at hh
                          have := HRr.out
                          simp [hh.1, hh.2] at this
                        · exact HF2.out j' (by omega)⟩)
                      clear HMK HXK
                      go_wp2
                      go_roundw
                      case rel => exact ⟨e + 1, false, mk', by omega, by go_num, rfl, hml, HFD, HO9, HC9⟩
                      case measure => simp [intOf]; omega
                  · obtain rfl : e = j := by omega
                    exfalso
                    have hm : (tb1, a2) ∈ left xs mk' := HLM.out.mem_iff.2 (by rw [HSD.out]; simp)
                    obtain ⟨k', g1, g2⟩ := left_mem xs mk' hm
                    have := (List.getElem?_eq_some_iff.1 g1).1
                    exact HF2.out k' (by omega) ⟨g1, g2⟩
            · obtain rfl : k = j := by omega
              have hSn : S1 = [] := by have h9 := HS9.out; rw [List.drop_of_length_le (by rw [HSAL.out]; omega)] at h9; simpa using h9
              have hTn : T1 = [] := by have h9 := HU9.out; rw [List.drop_of_length_le (by rw [HTAL.out]; omega)] at h9; simpa using h9
              subst hSn hTn
              go_wp2_with fail
              refine (C5.out _ _ _ _ HQ9.out).mono ?_
              rintro e w10 ⟨rfl, rfl⟩
              go_wp2_with fail
              refine (C5.out _ _ _ _ HP9.out).mono ?_
              rintro e w11 ⟨rfl, rfl⟩
              go_wp2
              go_ret
              exact ⟨rfl, HB9.out⟩
theorem all_row (A : Option Addr) (n c : Nat) (z : List (List Value)) (B : Option Addr) (m d : Nat) (zs : List Int) (w : World) (hn : z.length = n) (hA : A = none → n = 0 ∧ c = 0) (hnc : n ≤ c) (h : Rd w A z.flatten) (hI : ∀ r ∈ z, IsItemD r) (hc : c ≤ 1048576) (hr : IsRow .i64 w B m d zs) :
    Calls Try.prog 4 #[.slice A n c, .slice B m d] w fun e w' => e = .returned (.bool true) ∧ Below w.heap.size w w' := by
  obtain ⟨xs, rfl⟩ := items_of z hI
  obtain ⟨l, h1, h2, h3, _⟩ := row_ints hr
  exact all_all A n c xs B m d l w (by simpa using hn) hA h (by omega) h1 h2 (by unfold maxLen at h3; omega)
end Go.Proofs.Ytmanjeolhifhiaa
