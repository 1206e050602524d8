/- Structs that are handed in, as cells: what a reading says of them. Plain lemmas; no condition. -/
import Derived.Test.YtmipfmeafbeegaaStr
import Derived.Test.YtmipfmeafbeegaaProg
import Derived.Deep.Slices
import Derived.Deep.Fields
import Derived.ChangeSame
namespace Go.Proofs.Ytmipfmeafbeegaa
open Go.RowKit Go.ChangeShapes Go.WideShapes Go.Deep
set_option linter.unusedVariables false
section
variable {H : Type} {enc : TypeId × Value → H} {W : World} {base : Nat} {spare : Nat → Bool} {held : Bool}
theorem addr_of_cell {w : World} {a : Addr} {v : Value} (h : w.cell? a = some v) : ∃ b o, a = ⟨b, o, none⟩ := by
  obtain ⟨b, o, s⟩ := a
  cases s with
  | none => exact ⟨b, o, rfl⟩
  | some s => simp [World.cell?] at h; split at h <;> simp at h
theorem rows_of {P : Program} {t e : TypeId} {fuel k : Nat} {a : Option Addr} {len cap : Nat} {x : DataW H × List MemPlace} (ht : P.underlying t = some (.slice e)) (h : DataW.trod enc P W base (fun _ => true) held fuel t [.slice a len cap] = some x) (hk : P.cellsOf e = k) (hpos : 0 < k) (Q : List Value → Prop)
    (hQ : ∀ (n : Nat) (cs : List Value) (y : DataW H × List MemPlace), DataW.trod enc P W base (fun _ => true) held n e cs = some y → Q cs) :
    ∃ rows : List (List Value), rows.length = len ∧ (a = none → len = 0 ∧ cap = 0) ∧ len ≤ cap ∧ Rd W a rows.flatten ∧ (∀ r ∈ rows, Q r) ∧ ((cap = 0 ∧ x.1 = .nil) ∨ ∃ E S, x.1 = .slice E S ∧ E.length + S.length = cap) := by
  rcases open_slice ht h with ⟨hcs, hx⟩ | ⟨ad, l, c, m, n, D, Pl, hcs, _, hl, hm, hmm, hx, hi⟩
  · simp at hcs
    obtain ⟨rfl, rfl, rfl⟩ := hcs
    exact ⟨[], rfl, fun _ => ⟨rfl, rfl⟩, Nat.le_refl _, Rd.nil _ _, fun r hr => by simp at hr, .inl ⟨rfl, by rw [hx]⟩⟩
  · simp at hcs
    obtain ⟨rfl, rfl, rfl⟩ := hcs
    simp at hmm
    subst hmm
    have hrow : ∀ i : Nat, ∃ r : List Value, i < len → (r.length = k ∧ Q r ∧ ∀ j v, r[j]? = some v → W.cell? (ad.add (i * k + j)) = some v) := by
      intro i
      by_cases hil : i < len
      · obtain ⟨cs', h1, h2⟩ := hi i (by omega)
        rw [hk] at h1
        obtain ⟨_, h3, h4⟩ := World.cells?_some h1
        refine ⟨cs', fun _ => ⟨h3, hQ _ _ _ h2, fun j v hj => ?_⟩⟩
        have hjl := (List.getElem?_eq_some_iff.1 hj).1
        rw [← Go.Deep.add_add, h4 j (by omega), hj]
      · exact ⟨[], fun h => absurd h hil⟩
    obtain ⟨f, hf⟩ := Classical.axiomOfChoice hrow
    refine ⟨(List.range len).map f, by simp, (fun e => by cases e), hl, ?_, ?_, .inr ⟨_, _, by rw [hx], by simp; omega⟩⟩
    · by_cases h0 : len = 0
      · subst h0; simp; exact Rd.nil _ _
      · have h1 := (hf 0 (by omega)).2.2 0 ((f 0)[0]'(by have := (hf 0 (by omega)).1; omega)) (List.getElem?_eq_getElem _)
        have hx0 : ad.add (0 * k + 0) = ad := by simp [Addr.add]
        rw [hx0] at h1
        obtain ⟨b, o, rfl⟩ := addr_of_cell h1
        have hlen : ∀ r ∈ (List.range len).map f, r.length = k := by
          intro r hr
          simp only [List.mem_map, List.mem_range] at hr
          obtain ⟨i, hi, rfl⟩ := hr
          exact (hf i hi).1
        intro j u hj
        refine ⟨b, o, rfl, ?_⟩
        have hjl := (List.getElem?_eq_some_iff.1 hj).1
        rw [flat_len k _ hlen] at hjl
        simp at hjl
        have hdm : j = (j / k) * k + j % k := by rw [Nat.mul_comm]; exact (Nat.div_add_mod j k).symm
        have hq : j / k < len := (Nat.div_lt_iff_lt_mul hpos).2 hjl
        have hr := hf (j / k) hq
        have hml : j % k < (f (j / k)).length := by rw [hr.1]; exact Nat.mod_lt _ hpos
        have h5 := flat_at k ((List.range len).map f) hlen (j / k) (f (j / k)) (by simp [hq]) (j % k) _ (List.getElem?_eq_getElem hml)
        rw [← hdm] at h5
        have h6 := hr.2.2 (j % k) _ (List.getElem?_eq_getElem hml)
        rw [← hdm, add_at] at h6
        rw [h6, ← h5, hj]
    · intro r hr
      simp only [List.mem_map, List.mem_range] at hr
      obtain ⟨i, hi, rfl⟩ := hr
      exact (hf i hi).2.1
/-- The cells of one api.Extent, each of its kind. -/
def IsExtentD (r : List Value) : Prop := ∃ (x0 : Int) (x1 : Int) (x2 : Int), r = [.int .u64 x0, .int .i64 x1, .int .i64 x2] ∧ (Lit.int .u64 x0).wf = true ∧ (Lit.int .i64 x1).wf = true ∧ (Lit.int .i64 x2).wf = true
set_option maxRecDepth 100000 in
theorem elem_ExtentD {n : Nat} {cs : List Value} {y : DataW H × List MemPlace} (h : DataW.trod enc Try.prog W base spare held n 26 cs = some y) : IsExtentD cs := by
  obtain ⟨xs, m, _, _, hlen, hxl0, hg⟩ := DataW.trod_struct Try.underlying26 h
  have hxl : xs.length = 3 := hxl0
  rw [show Try.prog.cellsOf 26 = 3 from by kernel_rfl] at hlen
  match cs, hlen with
  | [c0, c1, c2], _ =>
    have g0 : DataW.trod enc Try.prog W base spare held m 24 ((([c0, c1, c2] : List Value).drop 0).take (Try.prog.cellsOf 24)) = xs[0]? := hg 0 _ rfl
    rw [show Try.prog.cellsOf 24 = 1 from by kernel_rfl] at g0
    simp only [List.drop_zero, List.take_succ_cons, List.take_zero] at g0
    have g1 : DataW.trod enc Try.prog W base spare held m 3 ((([c0, c1, c2] : List Value).drop 1).take (Try.prog.cellsOf 3)) = xs[1]? := hg 1 _ rfl
    rw [show Try.prog.cellsOf 3 = 1 from by kernel_rfl] at g1
    simp only [List.drop_succ_cons, List.drop_zero, List.take_succ_cons, List.take_zero] at g1
    have g2 : DataW.trod enc Try.prog W base spare held m 3 ((([c0, c1, c2] : List Value).drop 2).take (Try.prog.cellsOf 3)) = xs[2]? := hg 2 _ rfl
    rw [show Try.prog.cellsOf 3 = 1 from by kernel_rfl] at g2
    simp only [List.drop_succ_cons, List.drop_zero, List.take_succ_cons, List.take_zero] at g2
    obtain ⟨y0, hy0⟩ : ∃ y, xs[0]? = some y := ⟨_, List.getElem?_eq_getElem (by omega)⟩
    rw [hy0] at g0
    obtain ⟨x0, e0, _, f0⟩ := DataW.trod_int Try.underlying24 g0
    simp only [List.cons.injEq, and_true] at e0
    obtain rfl := e0
    obtain ⟨y1, hy1⟩ : ∃ y, xs[1]? = some y := ⟨_, List.getElem?_eq_getElem (by omega)⟩
    rw [hy1] at g1
    obtain ⟨x1, e1, _, f1⟩ := DataW.trod_int Try.underlying3 g1
    simp only [List.cons.injEq, and_true] at e1
    obtain rfl := e1
    obtain ⟨y2, hy2⟩ : ∃ y, xs[2]? = some y := ⟨_, List.getElem?_eq_getElem (by omega)⟩
    rw [hy2] at g2
    obtain ⟨x2, e2, _, f2⟩ := DataW.trod_int Try.underlying3 g2
    simp only [List.cons.injEq, and_true] at e2
    obtain rfl := e2
    exact ⟨x0, x1, x2, rfl, f0, f1, f2⟩
/-- The cells of one api.Move, each of its kind. -/
def IsMoveD (r : List Value) : Prop := ∃ (x0 : Int) (x1 : Int) (x2 : Int) (x3 : Int), r = [.int .u64 x0, .int .i64 x1, .int .i64 x2, .int .i64 x3] ∧ (Lit.int .u64 x0).wf = true ∧ (Lit.int .i64 x1).wf = true ∧ (Lit.int .i64 x2).wf = true ∧ (Lit.int .i64 x3).wf = true
set_option maxRecDepth 100000 in
theorem elem_MoveD {n : Nat} {cs : List Value} {y : DataW H × List MemPlace} (h : DataW.trod enc Try.prog W base spare held n 33 cs = some y) : IsMoveD cs := by
  obtain ⟨xs, m, _, _, hlen, hxl0, hg⟩ := DataW.trod_struct Try.underlying33 h
  have hxl : xs.length = 4 := hxl0
  rw [show Try.prog.cellsOf 33 = 4 from by kernel_rfl] at hlen
  match cs, hlen with
  | [c0, c1, c2, c3], _ =>
    have g0 : DataW.trod enc Try.prog W base spare held m 24 ((([c0, c1, c2, c3] : List Value).drop 0).take (Try.prog.cellsOf 24)) = xs[0]? := hg 0 _ rfl
    rw [show Try.prog.cellsOf 24 = 1 from by kernel_rfl] at g0
    simp only [List.drop_zero, List.take_succ_cons, List.take_zero] at g0
    have g1 : DataW.trod enc Try.prog W base spare held m 3 ((([c0, c1, c2, c3] : List Value).drop 1).take (Try.prog.cellsOf 3)) = xs[1]? := hg 1 _ rfl
    rw [show Try.prog.cellsOf 3 = 1 from by kernel_rfl] at g1
    simp only [List.drop_succ_cons, List.drop_zero, List.take_succ_cons, List.take_zero] at g1
    have g2 : DataW.trod enc Try.prog W base spare held m 3 ((([c0, c1, c2, c3] : List Value).drop 2).take (Try.prog.cellsOf 3)) = xs[2]? := hg 2 _ rfl
    rw [show Try.prog.cellsOf 3 = 1 from by kernel_rfl] at g2
    simp only [List.drop_succ_cons, List.drop_zero, List.take_succ_cons, List.take_zero] at g2
    have g3 : DataW.trod enc Try.prog W base spare held m 3 ((([c0, c1, c2, c3] : List Value).drop 3).take (Try.prog.cellsOf 3)) = xs[3]? := hg 3 _ rfl
    rw [show Try.prog.cellsOf 3 = 1 from by kernel_rfl] at g3
    simp only [List.drop_succ_cons, List.drop_zero, List.take_succ_cons, List.take_zero] at g3
    obtain ⟨y0, hy0⟩ : ∃ y, xs[0]? = some y := ⟨_, List.getElem?_eq_getElem (by omega)⟩
    rw [hy0] at g0
    obtain ⟨x0, e0, _, f0⟩ := DataW.trod_int Try.underlying24 g0
    simp only [List.cons.injEq, and_true] at e0
    obtain rfl := e0
    obtain ⟨y1, hy1⟩ : ∃ y, xs[1]? = some y := ⟨_, List.getElem?_eq_getElem (by omega)⟩
    rw [hy1] at g1
    obtain ⟨x1, e1, _, f1⟩ := DataW.trod_int Try.underlying3 g1
    simp only [List.cons.injEq, and_true] at e1
    obtain rfl := e1
    obtain ⟨y2, hy2⟩ : ∃ y, xs[2]? = some y := ⟨_, List.getElem?_eq_getElem (by omega)⟩
    rw [hy2] at g2
    obtain ⟨x2, e2, _, f2⟩ := DataW.trod_int Try.underlying3 g2
    simp only [List.cons.injEq, and_true] at e2
    obtain rfl := e2
    obtain ⟨y3, hy3⟩ : ∃ y, xs[3]? = some y := ⟨_, List.getElem?_eq_getElem (by omega)⟩
    rw [hy3] at g3
    obtain ⟨x3, e3, _, f3⟩ := DataW.trod_int Try.underlying3 g3
    simp only [List.cons.injEq, and_true] at e3
    obtain rfl := e3
    exact ⟨x0, x1, x2, x3, rfl, f0, f1, f2, f3⟩
end
end Go.Proofs.Ytmipfmeafbeegaa
