/- A range over an iterator that writes memory of its own between two rounds (a queue that is drained): what the iterator promises, what the loop's body owes, and the law of the statement. Plain lemmas over any program; no condition. -/
import Derived.Test.YtmipfmeafbeegaaVoc
import Derived.RangeFuncNested
import Derived.RangeFuncLeaves
import Derived.RangeFuncCalls
namespace Go.Proofs.Ytmipfmeafbeegaa
open Go.RowKit
set_option linter.unusedVariables false

/-- The iterator's promise: it turns the blocks of S alone (and lays new ones); R says what it holds when these have come; each round hands R back. -/
def SeqW {α : Type} (F : Fence) (n : Nat) (P : Program) (g : Nat) (lb : Array Value) (encs : α → Array Value) (S : Nat → Prop) (R : List α → World → Prop) (Full : List α → Prop) : Prop :=
  ∀ (l : Nat) (J Jx : List α → World → Prop) (W : World), (∀ s A B, J s A → Chg S A B → J s B) → (∀ s A B, Jx s A → Chg S A B → Jx s B) →
    (∀ pre x W1, J pre W1 → R (pre ++ [x]) W1 → YieldAt F (n - 1) P l (encs x) W1 fun e W' =>
      (e = .returned (.bool true) ∧ J (pre ++ [x]) W' ∧ R (pre ++ [x]) W') ∨ (e = .returned (.bool false) ∧ Jx (pre ++ [x]) W' ∧ R (pre ++ [x]) W')) →
    J [] W → R [] W →
    CallsIn F n P g (#[.func (.yield l) #[] #[]] ++ lb) W fun e W' => (∃ v, e = .returned v) ∧ ((∃ xs, Full xs ∧ J xs W' ∧ R xs W') ∨ (∃ pre, Jx pre W' ∧ R pre W'))

/-- How the body of a round may be left. -/
def postW {α : Type} (B : Nat) (R I : List α → World → Prop) (Ix : Code → List α → World → Prop) (xs : List α) (W : World) : Exit → Act → World → Prop
  | .normal, _, W' => KeepsFrom B W W' ∧ I xs W' ∧ R xs W'
  | .ret, _, W' => KeepsFrom B W W' ∧ Ix .ret xs W' ∧ R xs W'
  | .exit id, _, W' => KeepsFrom B W W' ∧ Ix (.exit id) xs W' ∧ R xs W'
  | .goto t, _, W' => KeepsFrom B W W' ∧ Ix (.goto t) xs W' ∧ R xs W'
  | .panic _, _, _ => False
  | .outgrown, _, _ => False

/-- The caller's word: it does not mind what the iterator turns, nor the loop's own book-keeping. -/
def MindsNot {β : Type} (B : Nat) (S : Nat → Prop) (I : β → World → Prop) : Prop :=
  ∀ s A C, I s A → Chg (fun k => S k ∨ (B ≤ k ∧ ∃ o : Obj, A.heap[k]? = some o ∧ o.isCells = false)) A C → I s C
theorem chg_putObj {B : Nat} {S : Nat → Prop} {W : World} {l : Nat} {o : Obj} (o' : Obj) (hB : B ≤ l) (hl : W.heap[l]? = some o) (ho : o.isCells = false) :
    Chg (fun k => S k ∨ (B ≤ k ∧ ∃ o : Obj, W.heap[k]? = some o ∧ o.isCells = false)) W (W.putObj l o') :=
  ⟨rfl, rfl, rfl, by simp, fun k hk hn => World.putObj_heap_other (fun e => hn (.inr ⟨by rw [e]; exact hB, o, by rw [e]; exact hl, ho⟩))⟩
theorem keepsFrom_below {B : Nat} {W W' : World} (h : Below W.heap.size W W') : KeepsFrom B W W' := ⟨h.size, fun k o _ hk _ => (h.block k (Array.getElem?_eq_some_iff.1 hk).1).trans hk⟩

theorem range_w {F : Fence} {n : Nat} {P : Program} {w : World} {α : Type} {g : Operand} {ps : Array Tmp} {assign body : Code} {Q : Exit → Act → World → Prop} {a : Act}
    (hro : F.round = none) (h1 : 1 ≤ n) {gf : Nat} {lb : Array Value} (hg : a.eval g = .func (.func gf) #[] lb) (hFg : F.fn gf) (eg : ∀ args w, (callFunc gf args).run P w = .ok (.enter gf args) w)
    {encs : α → Array Value} {S : Nat → Prop} {R : List α → World → Prop} {Full : List α → Prop} (hseq : SeqW F (n - 1) P gf lb encs S R Full) (hS : ∀ k, S k → k < w.heap.size)
    (hRS : ∀ pre (A C : World), R pre A → (∀ k, S k → C.heap[k]? = A.heap[k]?) → A.heap.size ≤ C.heap.size → R pre C) (hps : ∀ x, (encs x).size = ps.size)
    (I : List α → World → Prop) (Ix : Code → List α → World → Prop) (hI : MindsNot w.heap.size S I) (hIx : ∀ c, MindsNot w.heap.size S (Ix c)) (h0 : I [] w) (hR0 : R [] w) (Ax : α → Act → World → Prop) (hAx : ∀ x a', MindsNot w.heap.size S (fun (_ : Unit) W => Ax x a' W))
    (hassign : ∀ (l : Nat) (pre : List α) (x : α) (W : World) (K : Act → World → Prop), w.heap.size ≤ W.heap.size → I pre W → (∀ a' W', Below W.heap.size W W' → I pre W' → Ax x a' W' → K a' W') →
      assign.wpIn (F.inRound l) (n - 1 - 1) P (Exit.then K (fun _ _ _ => False)) { tmps := (ps.zip (encs x)).foldl (fun t (p, v) => t.setIfInBounds p v) a.tmps, defers := [] } W)
    (hbody : ∀ (l : Nat) (pre : List α) (x : α) (a' : Act) (W : World), w.heap.size ≤ l → (∃ r, W.heap[l]? = some (.loop r)) → I pre W → R (pre ++ [x]) W → Ax x a' W → body.wpIn (F.inRound l) (n - 1 - 1) P (postW w.heap.size R I Ix (pre ++ [x]) W) a' W)
    (hdone : ∀ (D : Nat) (xs : List α) (W : World), w.heap.size ≤ D → Full xs → I xs W → R xs W → W.heap[D]? = some (.deferred (some [])) → Q .normal { a with defers := { target := .collected D, args := #[] } :: a.defers } W)
    (hstop : ∀ (D : Nat) (c : Code) (pre : List α) (W : World), w.heap.size ≤ D → Ix c pre W → R pre W → W.heap[D]? = some (.deferred (some [])) → c.wpIn F n P Q { a with defers := { target := .collected D, args := #[] } :: a.defers } W) :
    (Code.rangeFunc g ps assign body).wpIn F n P Q a w := by
  refine wpIn_rangeFunc ?_
  intro fn hfn
  rw [hro]
  obtain ⟨rec, hrec⟩ : ∃ rec : LoopState → Option Code → Loop, rec = fun st pe => { state := st, pending := pe, fn, tmps := a.tmps, params := ps, assign, body, defers := w.heap.size } := ⟨_, rfl⟩
  obtain ⟨W1, hW1⟩ : ∃ W1, (w.alloc (.deferred (some []))).alloc (.loop (rec .ready none)) = W1 := ⟨_, rfl⟩
  have hL1 : W1.heap[w.heap.size + 1]? = some (.loop (rec .ready none)) := by
    rw [← hW1]; have := World.alloc_heap_new (w.alloc (.deferred (some []))) (.loop (rec .ready none)); rwa [World.size_alloc] at this
  have hK1 : W1.heap[w.heap.size]? = some (.deferred (some [])) := by
    rw [← hW1]; exact (Below.heap_alloc _ _ _ (by simp)).trans (World.alloc_heap_new w _)
  have hb1 : Below w.heap.size w W1 := by
    rw [← hW1]; exact ((Below.refl _ w).alloc (Nat.le_refl _) _).alloc (by simp) _
  have hI1 : I [] W1 := hI [] w W1 h0 ((Chg.of_below hb1).mono (fun i hi hs => absurd hs (by omega)))
  have hR1 : R [] W1 := hRS [] w W1 hR0 (fun k hk => hb1.block k (hS k hk)) hb1.size
  have hnS0 : ¬ S w.heap.size := fun h => by have := hS _ h; omega
  have hnS1 : ¬ S (w.heap.size + 1) := fun h => by have := hS _ h; omega
  have put : ∀ {pre : List α} {W : World} {o : Obj} (k : Nat) (o' : Obj), w.heap.size ≤ k → W.heap[k]? = some o → o.isCells = false → R pre W → R pre (W.putObj k o') := by
    intro pre W o k o' hk hko ho hr
    exact hRS pre W _ hr (fun j hj => World.putObj_heap_other (fun e => by have := hS j hj; omega)) (by simp)
  refine ⟨w.heap.size + 1, [{ target := .collected w.heap.size, args := #[] }], W1, { target := .fn (.func gf) lb, args := #[.func (.yield (w.heap.size + 1)) #[] #[]] }, W1, gf,
    #[.func (.yield (w.heap.size + 1)) #[] #[]] ++ lb, W1, ?_, ?_, ?_, ?_, fun _ => h1, ?_⟩
  · rw [← hW1, hrec]; exact run_enterLoop_outer _ _ _ _ _
  · simp only [resolve, hg]
    simp [go_sem]
  · intro f' hf'; simp [Target.leads] at hf'; subst hf'; exact hFg
  · simp [invoke, go_sem, eg]
  · refine (hseq (w.heap.size + 1)
      (fun pre W => I pre W ∧ W.heap[w.heap.size + 1]? = some (.loop (rec .ready none)) ∧ W.heap[w.heap.size]? = some (.deferred (some [])))
      (fun pre W => ∃ c, Ix c pre W ∧ W.heap[w.heap.size + 1]? = some (.loop (rec .done (some c))) ∧ W.heap[w.heap.size]? = some (.deferred (some [])))
      W1
      (fun s A B hs hc => ⟨hI s A B hs.1 (hc.mono (fun i _ h => .inl h)), (hc.block _ (Array.getElem?_eq_some_iff.1 hs.2.1).1 hnS1).trans hs.2.1, (hc.block _ (Array.getElem?_eq_some_iff.1 hs.2.2).1 hnS0).trans hs.2.2⟩)
      (fun s A B hs hc => by
        obtain ⟨c, hi, hl, hk⟩ := hs
        exact ⟨c, hIx c s A B hi (hc.mono (fun i _ h => .inl h)), (hc.block _ (Array.getElem?_eq_some_iff.1 hl).1 hnS1).trans hl, (hc.block _ (Array.getElem?_eq_some_iff.1 hk).1 hnS0).trans hk⟩)
      ?_ ⟨hI1, hL1, hK1⟩ hR1).mono ?_
    · rintro pre x W ⟨hi, hl, hk⟩ hr
      have hlt : w.heap.size + 1 < W.heap.size := (Array.getElem?_eq_some_iff.1 hl).1
      have hy := run_yield (P := P) (args := encs x) hl (by rw [hrec]; exact hps x)
      rw [hrec] at hy
      refine ⟨fn, _, assign, body, hy, roundIn_of_wpIn hfn (hassign _ pre x W _ (by omega) hi ?_)⟩
      clear hy
      intro a' Wa hba hia hax
      have hla := (hba.block _ hlt).trans hl
      have hka := (hba.block _ (by omega)).trans hk
      have hra : R (pre ++ [x]) Wa := hRS _ W Wa hr (fun k hk' => hba.block k (by have := hS k hk'; omega)) hba.size
      have hlta : w.heap.size + 1 < Wa.heap.size := by have := hba.size; omega
      refine ⟨_, run_beginRound hla (by rw [hrec]), ?_⟩
      have hl2 : (Wa.putObj (w.heap.size + 1) (.loop { rec .ready none with state := .busy })).heap[w.heap.size + 1]? = some (.loop { rec .ready none with state := .busy }) := World.putObj_heap_same hlta
      have hk2 : (Wa.putObj (w.heap.size + 1) (.loop { rec .ready none with state := .busy })).heap[w.heap.size]? = some (.deferred (some [])) := (World.putObj_heap_other (by omega)).trans hka
      have cp := fun (o' : Obj) => chg_putObj (B := w.heap.size) (S := S) o' (show w.heap.size ≤ w.heap.size + 1 by omega) hla rfl
      refine wpIn_mono (hbody _ pre x a' _ (by omega) ⟨_, hl2⟩ (hI _ _ _ hia (cp _)) (put _ _ (by omega) hla rfl hra) (hAx x a' () _ _ hax (cp _))) ?_
      have fin : ∀ (jump : Option Code) (W3 : World), KeepsFrom w.heap.size (Wa.putObj (w.heap.size + 1) (.loop { rec .ready none with state := .busy })) W3 →
          (Instr.endRound (w.heap.size + 1) jump).run P W3 = .ok (.bool jump.isNone) (W3.putObj (w.heap.size + 1) (.loop (rec (if jump.isNone then .ready else .done) jump))) ∧
          W3.heap[w.heap.size + 1]? = some (.loop { rec .ready none with state := .busy }) ∧
          (W3.putObj (w.heap.size + 1) (.loop (rec (if jump.isNone then .ready else .done) jump))).heap[w.heap.size + 1]? = some (.loop (rec (if jump.isNone then .ready else .done) jump)) ∧
          (W3.putObj (w.heap.size + 1) (.loop (rec (if jump.isNone then .ready else .done) jump))).heap[w.heap.size]? = some (.deferred (some [])) := fun jump W3 hk3 => by
        have hl3 := hk3.same _ _ (by omega) hl2 rfl
        have := run_endRound (P := P) jump hl3
        rw [hrec] at this ⊢
        exact ⟨this, by rw [hrec] at hl3; exact hl3, World.putObj_heap_same (Array.getElem?_eq_some_iff.1 hl3).1, (World.putObj_heap_other (by omega)).trans (hk3.same _ _ (Nat.le_refl _) hk2 rfl)⟩
      rintro e a3 W3 hp
      cases e with
      | normal =>
        obtain ⟨hk3, hi3, hr3⟩ := hp
        obtain ⟨hr, hl3, hl4, hk4⟩ := fin none W3 hk3
        exact ⟨_, _, hr, .inl ⟨rfl, ⟨hI _ _ _ hi3 (chg_putObj _ (by omega) hl3 rfl), hl4, hk4⟩, put _ _ (by omega) hl3 rfl hr3⟩⟩
      | ret =>
        obtain ⟨hk3, hi3, hr3⟩ := hp
        obtain ⟨hr, hl3, hl4, hk4⟩ := fin (some .ret) W3 hk3
        exact ⟨_, _, hr, .inr ⟨rfl, ⟨.ret, hIx _ _ _ _ hi3 (chg_putObj _ (by omega) hl3 rfl), hl4, hk4⟩, put _ _ (by omega) hl3 rfl hr3⟩⟩
      | exit id =>
        obtain ⟨hk3, hi3, hr3⟩ := hp
        obtain ⟨hr, hl3, hl4, hk4⟩ := fin (some (.exit id)) W3 hk3
        exact ⟨_, _, hr, .inr ⟨rfl, ⟨.exit id, hIx _ _ _ _ hi3 (chg_putObj _ (by omega) hl3 rfl), hl4, hk4⟩, put _ _ (by omega) hl3 rfl hr3⟩⟩
      | goto t =>
        obtain ⟨hk3, hi3, hr3⟩ := hp
        obtain ⟨hr, hl3, hl4, hk4⟩ := fin (some (.goto t)) W3 hk3
        exact ⟨_, _, hr, .inr ⟨rfl, ⟨.goto t, hIx _ _ _ _ hi3 (chg_putObj _ (by omega) hl3 rfl), hl4, hk4⟩, put _ _ (by omega) hl3 rfl hr3⟩⟩
      | panic ch => exact hp.elim
      | outgrown => exact hp.elim
    · rintro e W2 ⟨⟨v, rfl⟩, (⟨xs, hF, ⟨hi, hl, hk⟩, hr⟩ | ⟨pre, ⟨c, hi, hl, hk⟩, hr⟩)⟩
      · exact ⟨none, _, by have := run_endLoop (P := P) hl (by rw [hrec]; simp); rw [hrec] at this; exact this, hdone _ xs _ (Nat.le_refl _) hF (hI _ _ _ hi (chg_putObj _ (by omega) hl rfl)) (put _ _ (by omega) hl rfl hr) ((World.putObj_heap_other (by omega)).trans hk)⟩
      · exact ⟨some c, _, by have := run_endLoop (P := P) hl (by rw [hrec]; simp); rw [hrec] at this; exact this, hstop _ c pre _ (Nat.le_refl _) (hIx c _ _ _ hi (chg_putObj _ (by omega) hl rfl)) (put _ _ (by omega) hl rfl hr) ((World.putObj_heap_other (by omega)).trans hk)⟩
end Go.Proofs.Ytmipfmeafbeegaa
