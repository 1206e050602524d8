/- Contracts: dunnageref21.Write; whatever is handed in. -/
import Derived.Test.YtdgciajdnmgcnaaRecWrite
namespace Go.Proofs.Ytdgciajdnmgcnaa
open Go.RowKit
set_option linter.unusedVariables false

/-- A list of slices, each with room of its own. -/
def Owns (base : Nat) (w : World) (vs : List Value) (Ls : List (List Int)) : Prop :=
  vs.length = Ls.length ∧ ∀ (j : Nat) (L : List Int), Ls[j]? = some L → ∃ v, vs[j]? = some v ∧ w.ownsRow base 5 1 v L.length (bys L)
theorem Owns.nil (base : Nat) (w : World) : Owns base w [] [] := ⟨rfl, fun j g h => by simp at h⟩
theorem Owns.kept {base : Nat} {w w' : World} {vs : List Value} {Ls : List (List Int)} (h : Owns base w vs Ls) (hb : Below w.heap.size w w') : Owns base w' vs Ls :=
  ⟨h.1, fun j L hj => by obtain ⟨v, h1, h2⟩ := h.2 j L hj; exact ⟨v, h1, own_kept h2 hb⟩⟩
theorem own_grown {base B : Nat} {w w' : World} {v : Value} {n : Nat} {xs : List Value} {u : Value} {m : Nat} {ys : List Value} (h : w.ownsRow base 5 1 v n xs) (hown : w.ownsRow B 23 1 u m ys) (hg : w.grownBy w' u.ownBlock) : w'.ownsRow base 5 1 v n xs := by
  refine ⟨h.1, ?_⟩
  rcases h.2 with h1 | ⟨g, cap, cur, h1, h2, h3, r⟩
  · exact .inl h1
  · refine .inr ⟨g, cap, cur, h1, h2, (hg.block g (lt_of_block h3) ?_).trans h3, r⟩
    intro he
    rcases hown.2 with ⟨rfl, _⟩ | ⟨g', cap', cur', rfl, _, h4, _⟩
    · simp [Value.ownBlock] at he
    · simp [Value.ownBlock] at he
      subst he
      rw [h3] at h4
      simp at h4
theorem Owns.grown {base B : Nat} {w w' : World} {vs : List Value} {Ls : List (List Int)} (h : Owns base w vs Ls) {u : Value} {m : Nat} {ys : List Value} (hown : w.ownsRow B 23 1 u m ys) (hg : w.grownBy w' u.ownBlock) : Owns base w' vs Ls :=
  ⟨h.1, fun j L hj => by obtain ⟨v, h1, h2⟩ := h.2 j L hj; exact ⟨v, h1, own_grown h2 hown hg⟩⟩
theorem Owns.snoc {base : Nat} {w : World} {vs : List Value} {Ls : List (List Int)} (h : Owns base w vs Ls) {v : Value} {L : List Int} (hv : w.ownsRow base 5 1 v L.length (bys L)) : Owns base w (vs ++ [v]) (Ls ++ [L]) := by
  refine ⟨by simp [h.1], fun j M hj => ?_⟩
  by_cases hlt : j < Ls.length
  · rw [List.getElem?_append_left hlt] at hj
    obtain ⟨u, h1, r⟩ := h.2 j M hj
    exact ⟨u, by rw [List.getElem?_append_left (by rw [h.1]; exact hlt)]; exact h1, r⟩
  · rw [List.getElem?_append_right (by omega)] at hj
    have hz : j - Ls.length = 0 := by
      have := (List.getElem?_eq_some_iff.1 hj).1; simp at this; omega
    rw [hz] at hj; simp at hj; subst hj
    exact ⟨v, by rw [List.getElem?_append_right (by rw [h.1]; omega), h.1, hz]; rfl, hv⟩
theorem Owns.rdl {base : Nat} {w : World} {vs : List Value} {Ls : List (List Int)} (h : Owns base w vs Ls) (hL : ∀ x ∈ Ls, IsB x) : RdL w vs Ls := by
  refine ⟨h.1, fun j L hj => ?_⟩
  obtain ⟨v, h1, h2⟩ := h.2 j L hj
  obtain ⟨A, c, rfl, hc, _, hr, _⟩ := own_rd h2
  refine ⟨A, c, h1, ?_, hc, hr, hL L (List.mem_of_getElem? hj)⟩
  rintro rfl
  rcases h2.2 with ⟨h, _⟩ | ⟨g, cap, cur, h, _⟩
  · simpa using h
  · simp at h

/-- Where a part of a slice lies that has room behind it. -/
def cutB (A : Option Addr) (lo c : Nat) : Option Addr := if c = lo then A else A.map (·.add lo)
/-- 'b[lo:hi]' of cells of one place each. -/
theorem run_cutB {P : Program} {t e : TypeId} (ht : P.underlying t = some (.slice e)) (hsz : (P.info? e).map (·.size) = some 1) (A : Option Addr) (n c lo hi : Nat) (h1 : lo ≤ hi) (h2 : hi ≤ c) :
    ∀ W : World, (Instr.slice t (.slice A n c) (some (.int .i64 lo)) (some (.int .i64 hi)) none).run P W = .ok (.slice (cutB A lo c) (hi - lo) (c - lo)) W := by
  intro W
  have hel : P.elem t = e := by simp [Program.elem, ht]
  have hu : P.underlying t = some (.slice (P.elem t)) := by rw [hel]; exact ht
  cases hi' : P.info? e with
  | none => rw [hi'] at hsz; simp at hsz
  | some i =>
    rw [hi'] at hsz
    simp at hsz
    rw [run_slice_lh W t A n c hu .i64 .i64 (lo : Int) (hi : Int) (by omega) (by omega) (by omega), hel]
    simp [sizeOf, typeInfo, hi', hsz, sliced, Result.andThen, cutB]
theorem rd_cutB {w : World} {A : Option Addr} {l : List Int} (h : Rd w A (bys l)) (lo hi c : Nat) (h1 : lo ≤ hi) (h2 : hi ≤ l.length) (h3 : l.length ≤ c) : Rd w (cutB A lo c) (bys ((l.drop lo).take (hi - lo))) := by
  by_cases he : hi = lo
  · subst he; simp; exact Rd.nil _ _
  · unfold cutB
    rw [if_neg (by omega)]
    obtain ⟨b, o, rfl⟩ := h.some_of (by intro e; have := congrArg List.length e; rw [bys_length] at this; simp at this; simp [this] at h2; omega)
    rw [bys_take, bys_drop, Option.map_some, add_at]
    exact h.part lo (hi - lo)

set_option maxHeartbeats 2000000 in
theorem refwrite_arg (A : Option Addr) (n c : Nat) (w : World) :
    Calls Try.prog 11 #[.int .u64 0, .slice A n c] w fun e w' => e = .returned (.tuple #[.slice none 0 0, .int .i64 1]) ∧ w = w' := by
  go_enter Try.func11, Try.ntmps11
  go_wp2
  go_ret2
  exact ⟨rfl, rfl⟩
set_option maxHeartbeats 2000000 in
theorem refwrite_large (s : Int) (A : Option Addr) (n c : Nat) (w : World) (hs : s ≠ 0) (hn : 4096 < n) :
    Calls Try.prog 11 #[.int .u64 s, .slice A n c] w fun e w' => e = .returned (.tuple #[.slice none 0 0, .int .i64 4]) ∧ w = w' := by
  have h0 : (s == 0) = false := by simpa using hs
  have h1 : (4096 : Int) < (n : Int) := by omega
  clear hs hn
  go_enter Try.func11, Try.ntmps11
  go_wp2
  go_ret2
  exact ⟨rfl, rfl⟩
set_option maxRecDepth 100000 in
set_option maxHeartbeats 4000000 in
theorem refwrite_ok (s : Int) (A : Option Addr) (n c : Nat) (l : List Int) (w : World) (hs : 0 < s ∧ s < 18446744073709551616) (hln : l.length = n) (hn : n ≤ 4096) (hc : n ≤ c) (hA : A = none → n = 0 ∧ c = 0) (hl : Rd w A (bys l)) (hB : IsB l) :
    Calls Try.prog 11 #[.int .u64 s, .slice A n c] w fun e w' => ∃ v vs, e = .returned (.tuple #[v, .int .i64 0]) ∧ w'.ownsRow w.heap.size 23 1 v (cnt n) vs ∧ Owns w.heap.size w' vs (recL s l) ∧ Below w.heap.size w w' := by
  have h0 : (s == 0) = false := by simp; omega
  have h1 : ¬ (4096 : Int) < (n : Int) := by omega
  have C1 := Lib.hid (fun w => refcount_any (n : Int) w)
  rw [cntI_nat] at C1
  have C3 := Lib.hid (fun (A' : Option Addr) (c' n' : Nat) (p : List Int) (w : World) (hn' : p.length = n') (hA' : A' = none → n' = 0 ∧ c' = 0) (h' : Rd w A' (bys p)) (hp : n' ≤ 496) (hI : IsB p) => refseal_okn 113 s A' c' n' p w hn' hA' h' known113 hp hI (by omega))
  have hcp := cnt_pos hn
  have hce := cnt_eq hn
  have HLN := Lib.hid hln
  have HCE := Lib.hid hce
  have HRM := Lib.hid (recL_mem (s := s) hB (by rw [hln]; exact hn))
  obtain ⟨of, hof⟩ : ∃ of, of = cnt n := ⟨_, rfl⟩
  rw [← hof] at C1 hcp ⊢
  have HOF := Lib.hid hof
  clear hof hce hln hs
  go_enter Try.func11, Try.ntmps11
  go_wp2_with fail
  refine (C1.out _).mono ?_
  rintro e w1 ⟨rfl, rfl⟩
  go_wp2_with fail
  go_loopw [7, 8] (fun v i wr => ∃ (j : Nat) (A' : Option Addr) (c' : Nat) (vs : List Value), j ≤ of ∧ i = .int .i64 j ∧ v = .slice A' j c' ∧ wr.ownsRow w.heap.size 23 1 (.slice A' j c') j vs ∧ Owns w.heap.size wr vs ((recL s l).take j) ∧ Below w.heap.size w wr) (fun v i _ => of - (intOf i).toNat)
  case atStart => exact ⟨0, none, 0, [], by omega, rfl, rfl, World.ownsRow_nil _ _ _ _, Owns.nil _ _, Below.refl _ _⟩
  case round =>
    obtain ⟨j, A', c', vs, hj, rfl, rfl, hown, hS, hb⟩ := hrel
    by_cases hlt : j < of
    · have HO := Lib.hid hown
      have HS := Lib.hid hS
      have HB0 := Lib.hid hb
      obtain ⟨hi, hhi⟩ : ∃ hi, hi = 480 * (j + 1) := ⟨_, rfl⟩
      obtain ⟨lo, hlo⟩ : ∃ lo, lo = 480 * j := ⟨_, rfl⟩
      obtain ⟨E, hE⟩ : ∃ E, E = min hi n := ⟨_, rfl⟩
      have hoe : of = max ((n + 479) / 480) 1 := by rw [HOF.out]; exact HCE.out
      have e1 : IntKind.i64.wrap ((j : Int) + 1) = (j : Int) + 1 := IntWalk.i64_in _ (by omega)
      have e2 : IntKind.i64.wrap (((j : Int) + 1) * 480) = (hi : Int) := by rw [IntWalk.i64_in _ (by omega)]; omega
      have e3 : IntKind.i64.wrap ((j : Int) * 480) = (lo : Int) := by rw [IntWalk.i64_in _ (by omega)]; omega
      have e4 : IntKind.u8.wrap (j : Int) = (j : Int) := by rw [IntKind.wrap_u8]; omega
      have e5 : IntKind.u8.wrap (of : Int) = (of : Int) := by rw [IntKind.wrap_u8]; omega
      have hloE : lo ≤ E := by omega
      have hEn : E ≤ n := by omega
      have hcut := run_cutB (P := Try.prog) Try.underlying23 sizeU8 A n c lo E hloE (by omega)
      have hpart : [(j : Int), (of : Int)] ++ (l.drop lo).take (E - lo) = partL l (cnt l.length) j := by
        rw [HLN.out, ← HOF.out]; unfold partL; congr 1
        rw [← hlo]
        rw [List.take_eq_take_iff]; simp [HLN.out]; omega
      have HP := Lib.hid hpart
      have HPB := Lib.hid (partL_isB (i := j) (of := of) hB (by omega) (by omega))
      have hpl : ((l.drop lo).take (E - lo)).length = E - lo := by simp [HLN.out]; omega
      have HPL := Lib.hid hpl
      have hE480 : E - lo ≤ 480 := by omega
      have hcA : cutB A lo c = none → E - lo = 0 ∧ c - lo = 0 := by
        intro e; unfold cutB at e; split at e
        · omega
        · cases A with
          | none => have := hA rfl; omega
          | some a => simp at e
      have HCA := Lib.hid hcA
      have HRP := Lib.hid (rd_cutB (hl.kept hb) lo E c hloE (by rw [HLN.out]; exact hEn) (by rw [HLN.out]; exact hc))
      have HTK := Lib.hid (recL_take (s := s) (l := l) (i := j) (by rw [HLN.out, ← HOF.out]; exact hlt))
      have hmin0 : (hi < n ∧ E = hi) ∨ (n ≤ hi ∧ E = n) := by omega
      have HMIN := Lib.hid hmin0
      clear hmin0 hpart hpl hcA hown hS hb hhi hlo hE hoe
      generalize cutB A lo c = A2 at hcut HCA HRP
      obtain ⟨m2, hm2⟩ : ∃ m2, m2 = E - lo := ⟨_, rfl⟩
      obtain ⟨d2, hd2⟩ : ∃ d2, d2 = c - lo := ⟨_, rfl⟩
      rw [← hm2] at hcut HCA hE480 HPL HP HRP
      rw [← hd2] at hcut HCA
      generalize (l.drop lo).take m2 = pl at HPL HP HRP
      clear hm2 hd2
      rcases HMIN.out with ⟨hm, rfl⟩ | ⟨hm, rfl⟩
      · have hmI : (E : Int) < (n : Int) := by omega
        have hb0 : Below wr.heap.size wr (wr.alloc (.cells #[.int .u8 (j : Int), .int .u8 (of : Int)] 5)) := (Below.refl _ wr).alloc (Nat.le_refl _) _
        have hwr0 := HB0.out.size
        have ho1 : (wr.alloc (.cells #[.int .u8 (j : Int), .int .u8 (of : Int)] 5)).ownsRow wr.heap.size 5 1 (.slice (some ⟨wr.heap.size, 0, none⟩) 2 2) 2 (bys [(j : Int), (of : Int)]) :=
          ⟨rfl, .inr ⟨wr.heap.size, 2, _, rfl, Nat.le_refl _, heap_alloc_new wr _, Nat.le_refl _, by decide, rfl, rfl⟩⟩
        have HO1 := Lib.hid ho1
        have HHB0 := Lib.hid hb0
        have hpn : (partL l (cnt l.length) j).length = 2 + m2 := by rw [← HP.out]; simp [HPL.out]; omega
        have HPN := Lib.hid hpn
        clear hb0 ho1 hpn
        go_wp2_with (at_builtin; go_must (refine wpList_append_rd rfl _ _ 23 rfl wr.heap.size 5 (.int .u8 0) 1 1 Try.underlying23 infoU8 rfl (by decide) _ 2 (bys [(j : Int), (of : Int)]) rfl HO1.out A2 m2 _ (bys pl) rfl HCA.out (by rw [bys_length, HPL.out]; omega) (HRP.out.kept HHB0.out) (bys_one _) (by unfold maxLen; omega) (by omega) HHB0.out.size ?_))
        intro v2 w2 hown2 hg2
        have hb2 := below_app HHB0.out HHB0.out.size HO1.out hg2
        rw [← bys_append, HP.out] at hown2
        obtain ⟨A3, c3, rfl, hnc3, hcm3, hrd3, hlen3⟩ := own_rd hown2
        have hA3 : A3 = none → 2 + m2 = 0 ∧ c3 = 0 := by
          rintro rfl
          rcases hown2.2 with ⟨h, _⟩ | ⟨g, cap, cur, h, _⟩
          · simp at h
          · simp at h
        have HB2 := Lib.hid hb2
        have HR3 := Lib.hid hrd3
        have HA3 := Lib.hid hA3
        clear hown2 hb2 hrd3 hlen3 hcm3 hg2 hA3
        go_wp2_with fail
        refine (C3.out A3 c3 (2 + m2) (partL l (cnt l.length) j) _ HPN.out HA3.out HR3.out (by omega) (by rw [HLN.out, ← HOF.out]; exact HPB.out)).mono ?_
        rintro e w3 ⟨v3, rfl, hown3, hb3⟩
        obtain ⟨A4, c4, rfl, hcc4⟩ := own_sh hown3
        have HB3 := Lib.hid (HB2.out.trans (hb3.mono HB2.out.size))
        have HO3 := Lib.hid (own_kept HO.out HB3.out)
        have hwr := HB0.out.size
        have hw2 := HB2.out.size
        have HS3 : Hid (Owns w.heap.size w3 (vs ++ [Value.slice A4 512 c4]) ((recL s l).take (j + 1))) := by
          have hl512 : (sealed 113 s (partL l (cnt l.length) j)).length = 512 := sealed_length _ _ (by rw [HPN.out]; omega)
          rw [HTK.out]; exact (HS.out.kept HB3.out).snoc (by rw [hl512]; exact own_mono hown3 (by omega))
        have HBw3 := Lib.hid (HB0.out.trans (HB3.out.mono HB0.out.size))
        clear hb3 hown3 hnc3 hcc4
        go_wp2_with (at_builtin; go_must (refine wpList_append_rd rfl _ _ 25 rfl w.heap.size 23 (.slice none 0 0) 1 24 Try.underlying25 infoSl rfl (by decide) _ j vs rfl (HO3.out.alloc _) _ 1 1 [Value.slice A4 512 c4] rfl (by simp) (by simp) (rd_new1 _ _ _) (by simp [Value.oneCell']) (by unfold maxLen; omega) (by omega) (HBw3.out.alloc HBw3.out.size _).size ?_))
        intro v8 w8 hown8 hg8
        have hb8 := below_app (HBw3.out.alloc HBw3.out.size _) (HBw3.out.alloc HBw3.out.size _).size (HO3.out.alloc _) hg8
        have HB8 := Lib.hid hb8
        have HS8 := Lib.hid ((HS3.out.kept ((Below.refl _ w3).alloc (Nat.le_refl _) _)).grown (HO3.out.alloc _) hg8)
        obtain ⟨A8, c8, rfl, hc8⟩ := own_sh hown8
        have HO8 := Lib.hid hown8
        clear hown8 hg8 hb8 hc8
        go_wp2
        go_roundw
        case rel => exact ⟨j + 1, A8, c8, _, by omega, by go_num, rfl, HO8.out, HS8.out, HB8.out⟩
        case measure => simp [intOf]; omega
      · have hmI : ¬ (hi : Int) < (E : Int) := by omega
        have hb0 : Below wr.heap.size wr (wr.alloc (.cells #[.int .u8 (j : Int), .int .u8 (of : Int)] 5)) := (Below.refl _ wr).alloc (Nat.le_refl _) _
        have hwr0 := HB0.out.size
        have ho1 : (wr.alloc (.cells #[.int .u8 (j : Int), .int .u8 (of : Int)] 5)).ownsRow wr.heap.size 5 1 (.slice (some ⟨wr.heap.size, 0, none⟩) 2 2) 2 (bys [(j : Int), (of : Int)]) :=
          ⟨rfl, .inr ⟨wr.heap.size, 2, _, rfl, Nat.le_refl _, heap_alloc_new wr _, Nat.le_refl _, by decide, rfl, rfl⟩⟩
        have HO1 := Lib.hid ho1
        have HHB0 := Lib.hid hb0
        have hpn : (partL l (cnt l.length) j).length = 2 + m2 := by rw [← HP.out]; simp [HPL.out]; omega
        have HPN := Lib.hid hpn
        clear hb0 ho1 hpn
        go_wp2_with (at_builtin; go_must (refine wpList_append_rd rfl _ _ 23 rfl wr.heap.size 5 (.int .u8 0) 1 1 Try.underlying23 infoU8 rfl (by decide) _ 2 (bys [(j : Int), (of : Int)]) rfl HO1.out A2 m2 _ (bys pl) rfl HCA.out (by rw [bys_length, HPL.out]; omega) (HRP.out.kept HHB0.out) (bys_one _) (by unfold maxLen; omega) (by omega) HHB0.out.size ?_))
        intro v2 w2 hown2 hg2
        have hb2 := below_app HHB0.out HHB0.out.size HO1.out hg2
        rw [← bys_append, HP.out] at hown2
        obtain ⟨A3, c3, rfl, hnc3, hcm3, hrd3, hlen3⟩ := own_rd hown2
        have hA3 : A3 = none → 2 + m2 = 0 ∧ c3 = 0 := by
          rintro rfl
          rcases hown2.2 with ⟨h, _⟩ | ⟨g, cap, cur, h, _⟩
          · simp at h
          · simp at h
        have HB2 := Lib.hid hb2
        have HR3 := Lib.hid hrd3
        have HA3 := Lib.hid hA3
        clear hown2 hb2 hrd3 hlen3 hcm3 hg2 hA3
        go_wp2_with fail
        refine (C3.out A3 c3 (2 + m2) (partL l (cnt l.length) j) _ HPN.out HA3.out HR3.out (by omega) (by rw [HLN.out, ← HOF.out]; exact HPB.out)).mono ?_
        rintro e w3 ⟨v3, rfl, hown3, hb3⟩
        obtain ⟨A4, c4, rfl, hcc4⟩ := own_sh hown3
        have HB3 := Lib.hid (HB2.out.trans (hb3.mono HB2.out.size))
        have HO3 := Lib.hid (own_kept HO.out HB3.out)
        have hwr := HB0.out.size
        have hw2 := HB2.out.size
        have HS3 : Hid (Owns w.heap.size w3 (vs ++ [Value.slice A4 512 c4]) ((recL s l).take (j + 1))) := by
          have hl512 : (sealed 113 s (partL l (cnt l.length) j)).length = 512 := sealed_length _ _ (by rw [HPN.out]; omega)
          rw [HTK.out]; exact (HS.out.kept HB3.out).snoc (by rw [hl512]; exact own_mono hown3 (by omega))
        have HBw3 := Lib.hid (HB0.out.trans (HB3.out.mono HB0.out.size))
        clear hb3 hown3 hnc3 hcc4
        go_wp2_with (at_builtin; go_must (refine wpList_append_rd rfl _ _ 25 rfl w.heap.size 23 (.slice none 0 0) 1 24 Try.underlying25 infoSl rfl (by decide) _ j vs rfl (HO3.out.alloc _) _ 1 1 [Value.slice A4 512 c4] rfl (by simp) (by simp) (rd_new1 _ _ _) (by simp [Value.oneCell']) (by unfold maxLen; omega) (by omega) (HBw3.out.alloc HBw3.out.size _).size ?_))
        intro v8 w8 hown8 hg8
        have hb8 := below_app (HBw3.out.alloc HBw3.out.size _) (HBw3.out.alloc HBw3.out.size _).size (HO3.out.alloc _) hg8
        have HB8 := Lib.hid hb8
        have HS8 := Lib.hid ((HS3.out.kept ((Below.refl _ w3).alloc (Nat.le_refl _) _)).grown (HO3.out.alloc _) hg8)
        obtain ⟨A8, c8, rfl, hc8⟩ := own_sh hown8
        have HO8 := Lib.hid hown8
        clear hown8 hg8 hb8 hc8
        go_wp2
        go_roundw
        case rel => exact ⟨j + 1, A8, c8, _, by omega, by go_num, rfl, HO8.out, HS8.out, HB8.out⟩
        case measure => simp [intOf]; omega
    · obtain rfl : j = of := by omega
      have hfull : (recL s l).take j = recL s l := List.take_of_length_le (by have := HOF.out; rw [recL_length, HLN.out]; omega)
      rw [hfull] at hS
      have HO := Lib.hid hown
      have HS := Lib.hid hS
      clear hown hS hfull
      go_wp2
      go_ret2
      exact ⟨_, vs, rfl, HO.out, HS.out, hb⟩
end Go.Proofs.Ytdgciajdnmgcnaa
