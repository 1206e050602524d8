/- The law RecordReads holds: whatever serial number, length and sectors are handed in, it answers true, and each argument reads as it did. No condition. -/
import Derived.Test.YtdgciajdnmgcnaaRows
import Derived.WalkKit
import Derived.ProofKit
import Derived.OpenShut
import Derived.ShutString
import Derived.ChangeOld
import Derived.Below
import Derived.SizedLaws
import Derived.Test.YtdgciajdnmgcnaaRecReadsWalk
import Derived.Deep.Matrix
namespace Go.Proofs.Ytdgciajdnmgcnaa.recordReads
open Go.ChangeShapes Go.WideShapes Go.ChangeAt Go.RowKit
open Go.ChangeMaps (open_string shut_string)
set_option linter.unusedVariables false

theorem own : ownKnob Try.prog.godebug = none := by kernel_rfl
theorem laidOut : laidOutB Try.prog = true := by kernel_rfl


theorem weights_all {H : Type} {P : Program} {e : TypeId} : ∀ {ds : List (DataW H)} {d : DataW H}, d ∈ ds → ∀ n ∈ d.weights P e, n ∈ DataW.weightsAll P e ds
  | d0 :: ds, d, hd, n, hn => by
    simp only [DataW.weightsAll, List.mem_append]
    rcases List.mem_cons.1 hd with rfl | h
    · exact Or.inl hn
    · exact Or.inr (weights_all h n hn)
theorem row_rd' {w : World} {a : Option Addr} {len cap : Nat} {zs : List Int} (h : IsRow .u8 w a len cap zs) : Rd w a (bys (zs.take len)) ∧ IsB (zs.take len) := by
  rcases h with ⟨rfl, rfl, rfl, rfl⟩ | ⟨x, rfl, h1, h2, h3, h4, h5⟩
  · exact ⟨Rd.nil _ _, fun x hx => by simp at hx⟩
  · refine ⟨?_, ?_⟩
    · intro j u hj
      have hjl : j < zs.length := by
        rw [bys_getElem?] at hj
        cases hz : (zs.take len)[j]? with
        | none => rw [hz] at hj; simp at hj
        | some y => have := (List.getElem?_eq_some_iff.1 hz).1; simp at this; omega
      have h0 := h4 0 (by omega)
      have hx0 : x.add 0 = x := by simp [Addr.add]
      rw [hx0] at h0
      have hs : x.spot = none := by
        cases hs : x.spot with
        | none => rfl
        | some s => simp [World.cell?, hs] at h0; split at h0 <;> simp at h0
      obtain ⟨b, o, s⟩ := x
      simp at hs
      subst hs
      refine ⟨b, o, rfl, ?_⟩
      have := h4 j hjl
      rw [add_at] at this
      rw [this, ← hj, bys_getElem?, List.getElem?_take]
      split
      · simp [List.getD_eq_getElem?_getD, List.getElem?_eq_getElem hjl]
      · rename_i hh; rw [bys_getElem?, List.getElem?_take, if_neg hh] at hj; cases hj
    · intro y hy
      have := h5 y (List.mem_of_mem_take hy)
      simp only [Lit.wf, Bool.and_eq_true, decide_eq_true_eq] at this
      have hmin : IntKind.u8.min = 0 := rfl
      have hmax : IntKind.u8.max = 255 := rfl
      omega
/-- Out of the rows of a slice of slices: what is read. -/
theorem rows_rd {w : World} {base : Nat} {a : Addr} {len cap : Nat} {A : Nat → Option Addr} {L C : Nat → Nat} {Z : Nat → List Int} (hlc : len ≤ cap)
    (h : ∀ r, r < cap → w.cell? (a.add r) = some (.slice (A r) (L r) (C r)) ∧ L r ≤ C r ∧ C r ≤ maxLen ∧ (Z r).length = C r ∧ (∀ n ∈ Z r, (Lit.int .u8 n).wf = true) ∧ (A r = none → C r = 0) ∧ ∀ a', A r = some a' → base ≤ a'.block ∧ ∀ c, c < C r → w.cell? (a'.add c) = some (.int .u8 ((Z r).getD c 0))) :
    Rd w (some a) ((List.range len).map fun r => Value.slice (A r) (L r) (C r)) ∧ RdL w ((List.range len).map fun r => Value.slice (A r) (L r) (C r)) ((List.range len).map fun r => (Z r).take (L r)) := by
  have hspot : len ≠ 0 → a.spot = none := by
    intro h0
    have h1 := (h 0 (by omega)).1
    have hx0 : a.add 0 = a := by simp [Addr.add]
    rw [hx0] at h1
    cases hs : a.spot with
    | none => rfl
    | some s => simp [World.cell?, hs] at h1; split at h1 <;> simp at h1
  refine ⟨?_, by simp, ?_⟩
  · intro j u hj
    have hjl : j < len := by have := (List.getElem?_eq_some_iff.1 hj).1; simpa using this
    have hs := hspot (by omega)
    obtain ⟨b, o, sp⟩ := a
    simp at hs; subst hs
    refine ⟨b, o, rfl, ?_⟩
    have h1 := (h j (by omega)).1
    rw [add_at] at h1
    rw [h1, ← hj]; simp [hjl]
  · intro j M hj
    have hjl : j < len := by have := (List.getElem?_eq_some_iff.1 hj).1; simpa using this
    simp [hjl] at hj
    subst hj
    obtain ⟨_, h2, h3, h4, h5, h6, h7⟩ := h j (by omega)
    have hrow : IsRow .u8 w (A j) (L j) (C j) (Z j) := by
      cases hA : A j with
      | none => have h8 := h6 hA; exact .inl ⟨rfl, by omega, h8, List.eq_nil_of_length_eq_zero (by omega)⟩
      | some x => exact .inr ⟨x, rfl, h2, h3, h4, fun i hi => (h7 x hA).2 i (by omega), h5⟩
    have hlen : ((Z j).take (L j)).length = L j := by simp; omega
    rw [hlen]
    refine ⟨A j, C j, by simp [hjl], fun e => ?_, h2, ?_, ?_⟩
    · have h8 := h6 e; omega
    · exact (row_rd' hrow).1
    · exact (row_rd' hrow).2
theorem walk (a0 a1 : Int) (A : Option Addr) (n c : Nat) (vs : List Value) (Ls : List (List Int)) (w : World) (w0 : (Lit.int .u64 a0).wf = true) (hn : vs.length = n) (hA : Rd w A vs) (hL : RdL w vs Ls) (hnb : n ≤ 5864062014805) (hin : ∀ L ∈ Ls, L.length ≤ 140737488355328) :
    Calls Try.prog 5 #[.int .u64 a0, .int .i64 a1, .slice A n c] w fun e w' => e = .returned (.bool true) ∧ Below w.heap.size w w' :=
  reads_all a0 a1 A n c vs Ls w (wf_u64b w0) hn hA hL hnb hin

/-! ### THE ROW's STEP: WRITTEN OUT: LEAVE IT -/
set_option maxRecDepth 100000 in
theorem lifted (os : Os) (started : os.Started) (H : Type) (enc : TypeId × Value → H) :
    ReturnsInHanded {} Try.checked os 5 .any (Rows.recordReadsSpec.pre6 enc Try.prog Try.f5 Rows.recordReadsRow.domain false) (Rows.recordReadsSpec.post enc Try.prog Try.f5 false true false false) := by
  refine returnsInHanded_of_change_sized (C := Try.checked) own started (by kernel_rfl) Try.func5
    (ChangeSpec.witness6 (enc := enc) (C := Try.checked) false ⟨#[], #[.int .u64 0, .int .i64 0, .slice none 0 0], []⟩ 8 (by kernel_rfl) (by kernel_rfl) (by kernel_rfl) (by kernel_rfl)) ?_
  intro W base args ds gs before hval0 hW hcnd hsz0 _
  have hval : ∀ (j : Nat) t v, Try.f5.params[j]? = some t → args[j]? = some v → Value.okWide Try.prog W .any base t v := hval0
  have hsz : (DataW.weightsEach Try.prog (Try.f5.params.toList ++ Rows.recordReadsSpec.plain.varTypes Try.prog) (ds ++ gs)).all (· ≤ reachBytes) = true := hsz0
  clear hsz0
  have hW' := hW
  obtain ⟨p, q, hA0, hV, rfl, hfz, hnd⟩ := hW
  have hA : DataW.TrodAll enc Try.prog W 0 (fun _ => true) true Try.f5.params.toList args.toList ds p := hA0
  rw [Try.params5] at hA hval hsz
  obtain ⟨v0, vs0, d0, ds0, p0, q0, hargs, rfl, rfl, h0, r0⟩ := trodAll_cons hA
  obtain ⟨v1, vs1, d1, ds1, p1, q1, rfl, rfl, rfl, h1, r1⟩ := trodAll_cons r0
  obtain ⟨v2, vs2, d2, ds2, p2, q2, rfl, rfl, rfl, h2, r2⟩ := trodAll_cons r1
  obtain ⟨rfl, rfl, rfl⟩ := trodAll_nil r2
  obtain rfl : args = #[v0, v1, v2] := by cases args; simp_all
  obtain ⟨rfl, rfl⟩ := trodVars_none hV
  obtain ⟨a0, rfl, rfl, rfl, w0⟩ := open_int Try.underlying22 (hval 0 22 v0 rfl rfl) h0
  obtain ⟨a1, rfl, rfl, rfl, w1⟩ := open_int Try.underlying3 (hval 1 3 v1 rfl rfl) h1
  obtain ⟨A2, len2, cap2, rfl⟩ := okWide_slice Try.underlying25 (hval 2 25 v2 rfl rfl)
  have k2 := h2
  have lt2 : ∀ x ∈ p2, x.block < W.heap.size := by obtain ⟨m, hm⟩ := k2; exact DataW.trod_lt m _ _ _ hm
  obtain ⟨vs, Ls, g1, g2, g3, g4, g5⟩ : ∃ vs Ls, vs.length = len2 ∧ Rd W A2 vs ∧ RdL W vs Ls ∧ len2 ≤ 5864062014805 ∧ ∀ L ∈ Ls, L.length ≤ 140737488355328 := by
    obtain ⟨fuel, hf⟩ := h2
    rcases Go.Deep.open_int_rows Try.underlying25 Try.underlying23 Try.underlying5 (by kernel_rfl) (by kernel_rfl) hf with ⟨hcs, _⟩ | ⟨a, l, c, A, L, C, Z, hcs, _, hl, hm, hx, hr⟩
    · simp [Value.cells] at hcs
      obtain ⟨rfl, rfl, rfl⟩ := hcs
      exact ⟨[], [], rfl, Rd.nil _ _, RdL.nil _, by decide, fun L hL => by simp at hL⟩
    · simp [Value.cells] at hcs
      obtain ⟨rfl, rfl, rfl⟩ := hcs
      obtain ⟨e1, e2⟩ := rows_rd hl hr
      have hd := congrArg Prod.fst hx
      have hrr := sized_slice hsz (j := 2) (t := 25) (e := 23) rfl (congrArg some hd) Try.underlying25
      rw [show Try.prog.bytesOf 23 = 24 from by kernel_rfl] at hrr
      simp only [List.length_map, List.length_range, reachBytes] at hrr
      refine ⟨_, _, by simp, e1, e2, by omega, fun M hM => ?_⟩
      simp only [List.mem_map, List.mem_range] at hM
      obtain ⟨r, hr1, rfl⟩ := hM
      obtain ⟨_, h2', h3', h4', _, h6', _⟩ := hr r (by omega)
      have hlen : ((Z r).take (L r)).length ≤ C r := by simp; omega
      cases hAr : A r with
      | none => have := h6' hAr; omega
      | some x =>
        have hmem : (C r) * Try.prog.bytesOf 5 ∈ (Go.Deep.intRow (H := H) .u8 (A r) (L r) (Z r)).weights Try.prog 23 := by
          rw [hAr]
          simp only [Go.Deep.intRow, DataW.weights, Try.underlying23, List.mem_cons]
          left
          have e9 : (lits (H := H) .u8 ((Z r).take (L r))).length + (lits (H := H) .u8 ((Z r).drop (L r))).length = C r := by simp [lits]; omega
          rw [e9]
        have hall := List.all_eq_true.1 hsz _ (DataW.weights_mem_each (j := 2) (t := 25) rfl (congrArg some hd) ((C r) * Try.prog.bytesOf 5) (by
          simp only [DataW.weights, Try.underlying25, List.mem_cons, List.mem_append]
          exact Or.inr (Or.inl (weights_all (List.mem_map.2 ⟨r, List.mem_range.2 hr1, rfl⟩) _ hmem))))
        rw [show Try.prog.bytesOf 5 = 1 from by kernel_rfl] at hall
        simp [reachBytes] at hall
        omega
  clear hA0 hval0
  refine (walk a0 a1 A2 len2 cap2 vs Ls W w0 g1 g2 g3 g4 g5).mono fun e W' ⟨he, bel⟩ => ?_
  subst he
  exact ⟨_, rfl, _, _, _, [], _, [], hW', trodAll_mk1 (shut_bool Try.underlying4 _), (trodAll_cons_mk (shut_int Try.underlying22 w0) (trodAll_cons_mk (shut_int Try.underlying3 w1) (trodAll_cons_mk (Below.trod laidOut (by kernel_rfl) (of_decide_eq_true (by kernel_rfl)) k2 bel lt2) trodAll_mk0))), rfl, bel.frame _, fun h => by cases h⟩

theorem over : Rows.recordReadsRow.holds Try.pinned (OpenSpec.ofChange Rows.recordReadsSpec) :=
  OpenClaim.holds_of_wide 5 Try.f5 rfl rfl rfl rfl rfl rfl rfl ⟨rfl, rfl, rfl, rfl, rfl⟩ rfl rfl rfl rfl rfl (by kernel_rfl) Try.func5 (by kernel_rfl)
    (of_decide_eq_true (by kernel_rfl)) (by unfold Func.isWrapper; first | (rw [if_pos (by decide +kernel)]; kernel_rfl) | (rw [if_neg (by decide +kernel)]; exact ⟨rfl, rfl⟩))
    (fun os started H enc _ => lifted os started H enc)

/-- ████ THE STATEMENT ████ -/
theorem proved : Rows.RecordReadsSaid := over
#print axioms proved
end Go.Proofs.Ytdgciajdnmgcnaa.recordReads
