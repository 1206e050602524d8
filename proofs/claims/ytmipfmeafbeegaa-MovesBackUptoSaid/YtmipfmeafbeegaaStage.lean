/- A law over any program; no condition. A region that draws its order: reads, one call that turns the world from one stage to another, a last call upon all of these, and what only handles that call's answer: one walk in the order of the text serves every order. -/
import Derived.StillTail
import Derived.Deep.Quiet
import Derived.BigQuiet
import Derived.Test.YtmipfmeafbeegaaVoc
namespace Go.Proofs.Ytmipfmeafbeegaa
open Go.RowKit
set_option linter.unusedVariables false
section
variable {P : Program} {ops : Array Oper} {md : Region.Mode} {C : Bool → World → Prop} {c : Nat}

def sUpon (P : Program) (C' : World → Prop) (v : Value) : Result Next → Prop
  | .ok (.value u) w' => C' w' ∧ u = v
  | .ok .skip w' => C' w' ∧ v = undef
  | .ok (.enter f args) w' => Calls P f args w' (fun e w'' => e = .returned v ∧ C' w'')
  | _ => False
def sAt (P : Program) (C : Bool → World → Prop) (c i : Nat) (o : Oper) (a : Act) (v : Value) : Prop :=
  ∀ b w, (i = c → b = false) → C b w → sUpon P (C (b || decide (i = c))) v ((execOp a.eval o).run P w)
def YieldsS (P : Program) (ops : Array Oper) (C : Bool → World → Prop) (c i : Nat) (o : Oper) (v : Value) (a : Act) : Prop :=
  (Region.wanted o (yielded ops a.tmps) = true ∧ sAt P C c i o a v) ∨ (Region.wanted o (yielded ops a.tmps) = false ∧ v = undef ∧ i ≠ c)
def sOp (P : Program) (ops : Array Oper) (C : Bool → World → Prop) (c i : Nat) (K : Act → Prop) (a : Act) : Prop :=
  ∃ o v, ops[i]? = some o ∧ YieldsS P ops C c i o v a ∧ K (a.put o.dst v)
theorem sOp_mono {i : Nat} {a : Act} {K K' : Act → Prop} (h : ∀ a, K a → K' a) (hh : sOp P ops C c i K a) : sOp P ops C c i K' a :=
  let ⟨o, v, h1, h2, h3⟩ := hh
  ⟨o, v, h1, h2, h _ h3⟩
theorem wpOp_of_sOp {i : Nat} {a : Act} {b : Bool} {K : Act → Prop} {K' : Act → World → Prop} {Q' : Exit → Act → World → Prop} {w : World} (hb : i = c → b = false) (hC : C b w)
    (h : ∀ a w', C (b || decide (i = c)) w' → K a → K' a w') (hh : sOp P ops C c i K a) : wpOp P ops Q' i K' a w := by
  obtain ⟨o, v, ho, hy, hk⟩ := hh
  unfold wpOp
  simp only [ho]
  rcases hy with ⟨hw, hv⟩ | ⟨hw, rfl, hne⟩
  · rw [if_pos hw]
    left
    have h3 := hv b w hb hC
    unfold Oper.wp
    generalize (execOp a.eval o).run P w = r at *
    cases r with
    | ok nx w' =>
      cases nx <;> simp only [sUpon] at h3 <;> simp only [Oper.upon]
      case value u => obtain ⟨e1, rfl⟩ := h3; exact h _ _ e1 hk
      case skip => obtain ⟨e1, rfl⟩ := h3; exact h _ _ e1 hk
      case enter f args => exact h3.mono fun e w'' ⟨he, hw''⟩ => by subst he; exact h _ _ hw'' hk
    | halt x w' => simp only [sUpon] at h3
  · rw [if_neg (by rw [hw]; exact Bool.false_ne_true)]
    have : (b || decide (i = c)) = b := by simp [hne]
    exact h _ _ (by rw [this]; exact hC) hk
theorem YieldsS.of_same {i : Nat} {o : Oper} {v : Value} {a a' : Act} (hy : YieldsS P ops C c i o v a) (he : execOp a'.eval o = execOp a.eval o)
    (hw : Region.wanted o (yielded ops a'.tmps) = Region.wanted o (yielded ops a.tmps)) : YieldsS P ops C c i o v a' := by
  unfold YieldsS sAt at *
  rw [he, hw]
  exact hy
theorem sOp_put {i j : Nat} {oi oj : Oper} {v : Value} (hj : ops[j]? = some oj) (hap : oi.apart ops oj = true)
    (hsi : ∀ cs b, oi.op ≠ .select cs b) (hsj : ∀ cs b, oj.op ≠ .select cs b) {K : Act → Prop} {a : Act}
    (hy : YieldsS P ops C c i oi v a) (h : sOp P ops C c j K (a.put oi.dst v)) :
    sOp P ops C c j (fun a' => YieldsS P ops C c i oi v a' ∧ K (a'.put oi.dst v)) a := by
  obtain ⟨h1, h2, h3⟩ := Oper.apart_spec hap
  obtain ⟨o, u, ho, hu, hk⟩ := h
  obtain rfl : oj = o := Option.some.inj (hj.symm.trans ho)
  refine ⟨oj, u, hj, hu.of_same (execOp_put oj hsj a oi.dst v h1).symm (wanted_put oj a oi.dst v h1).symm, ?_, ?_⟩
  · exact hy.of_same (execOp_put oi hsi a oj.dst u h3) (wanted_put oi a oj.dst u h3)
  · rw [← Act.put_comm a v u h2]; exact hk
def wpAnyT (P : Program) (md : Region.Mode) (ops : Array Oper) (C : Bool → World → Prop) (c n : Nat) (L : Array Bool → Act → Prop) : Nat → Array Bool → Act → Prop
  | 0, listed, a => L listed a
  | f + 1, listed, a =>
    Region.ready md ops listed ≠ [] ∧ ∀ i ∈ Region.ready md ops listed, i < n ∧ sOp P ops C c i (wpAnyT P md ops C c n L f (listed.setIfInBounds i true)) a
theorem getD_lt {listed : Array Bool} {i : Nat} (h : listed.getD i true = false) : i < listed.size := by
  rcases Nat.lt_or_ge i listed.size with h' | h'
  · exact h'
  · simp [Array.getElem?_eq_none h'] at h
theorem getD_set_self {listed : Array Bool} {i : Nat} (h : i < listed.size) : (listed.setIfInBounds i true).getD i false = true := by
  simp [h]
theorem wpAny_of_headT {n g : Nat} {L : Array Bool → Act → Prop} {Q' : Exit → Act → World → Prop} (hL : ∀ listed a w, L listed a → C (listed.getD c false) w → wpAny P md ops Q' g listed a w) :
    ∀ (f : Nat) (listed : Array Bool) (a : Act) (w : World), C (listed.getD c false) w → wpAnyT P md ops C c n L f listed a → wpAny P md ops Q' (f + g) listed a w
  | 0, listed, a, w, hC, h => by rw [Nat.zero_add]; exact hL _ _ _ h hC
  | f + 1, listed, a, w, hC, h => by
    rw [show f + 1 + g = (f + g) + 1 by omega]
    refine ⟨fun h0 => absurd h0 h.1, fun i hi => wpOp_of_sOp (b := listed.getD c false) (fun e => ?_) hC (fun a' w' hw' h' => wpAny_of_headT hL f _ a' w' ?_ h') (h.2 i hi).2⟩
    · subst e; exact getD_both (mem_ready.1 hi).1
    · by_cases e : i = c
      · subst e
        rw [getD_set_self (getD_lt (mem_ready.1 hi).1)]
        simpa using hw'
      · rw [getD_set_ne false e]
        simpa [e] using hw'
def Region.tailB (md : Region.Mode) (ops : Array Oper) (n : Nat) : Bool :=
  (List.range ops.size).all fun t => decide (t ≤ n) || Region.waitsFor md ops t n
theorem tail_waitsT {n : Nat} {listed : Array Bool} (hs : Region.sinkB md ops n = true) (hc : Region.tailB md ops n = true) (hn : n < ops.size) (inv : HeadInv md ops n listed) :
    ∀ (d i : Nat), n - i = d → i < n → listed.getD i true = false → ∀ t, n ≤ t → t ∉ Region.ready md ops listed := by
  intro d
  induction d using Nat.strongRecOn with
  | _ d ih =>
    intro i hd hi hun t ht hr
    obtain ⟨_, ot, hot, hall⟩ := mem_ready.1 hr
    have htlt : t < ops.size := (Array.getElem?_eq_some_iff.1 hot).1
    by_cases htn : t = n
    · subst htn
      have h1 := List.all_eq_true.1 hs i (List.mem_range.2 hi)
      obtain ⟨j, hj, hj2⟩ := List.any_eq_true.1 h1
      simp only [Bool.and_eq_true, decide_eq_true_eq] at hj2
      obtain ⟨oj, hoj, e, he, hb, hon⟩ := Region.waitsFor_spec hj2.2
      have hjle : j ≤ t := by have := List.mem_range.1 hj; omega
      by_cases hjt : j = t
      · subst hjt
        have : oj = ot := Option.some.inj (hoj.symm.trans hot)
        subst this
        have h2 := hall e he hb
        rw [hon, getD_both hun] at h2
        cases h2
      · cases hl : listed.getD j false with
        | true =>
          have h2 := inv.closed j oj hoj hl e he hb
          rw [hon, getD_both hun] at h2
          cases h2
        | false =>
          have hjs : j < listed.size := by rw [inv.size]; omega
          exact ih (t - j) (by omega) j rfl (by omega) (getD_in hjs hl) t (Nat.le_refl _) hr
    · have h1 := List.all_eq_true.1 hc t (List.mem_range.2 htlt)
      simp only [Bool.or_eq_true, decide_eq_true_eq] at h1
      rcases h1 with h1 | h1
      · omega
      · obtain ⟨o', ho', e, he, hb, hon⟩ := Region.waitsFor_spec h1
        have : o' = ot := Option.some.inj (ho'.symm.trans hot)
        subst this
        have h2 := hall e he hb
        rw [hon, getD_both (inv.tail n (Nat.le_refl _) hn)] at h2
        cases h2
theorem wpAnyT_first {n i : Nat} {oi : Oper} {v : Value} {L : Array Bool → Act → Prop} (hi : ops[i]? = some oi) (hsel : ∀ (j : Nat) (o : Oper) cs b, ops[j]? = some o → o.op ≠ .select cs b)
    (hs : Region.sinkB md ops n = true) (hc : Region.tailB md ops n = true) (hn : n < ops.size) (hin : i < n)
    (hdone : ∀ listed a, L listed a → ∀ j ∈ Region.ready md ops listed, n ≤ j) :
    ∀ (f : Nat) (listed : Array Bool) (a : Act), HeadInv md ops n listed →
      (∀ j oj, ops[j]? = some oj → j ≠ i → listed.getD j true = false → (∀ e ∈ oj.after, Region.binds md e = true → e.on ≠ i) → oi.apart ops oj = true) →
      i ∈ Region.ready md ops listed → YieldsS P ops C c i oi v a →
      wpAnyT P md ops C c n L f (listed.setIfInBounds i true) (a.put oi.dst v) → wpAnyT P md ops C c n L (f + 1) listed a := by
  intro f
  induction f with
  | zero =>
    intro listed a inv _ hr hy H
    have hun := (mem_ready.1 hr).1
    refine ⟨fun h => (by rw [h] at hr; cases hr), fun j hj => ?_⟩
    have hjn : j < n := by
      rcases Nat.lt_or_ge j n with h | h
      · exact h
      · exact absurd hj (tail_waitsT hs hc hn inv _ i rfl hin hun j h)
    refine ⟨hjn, ?_⟩
    by_cases hji : j = i
    · subst hji; exact ⟨oi, v, hi, hy, H⟩
    · have := hdone _ _ H j (ready_mono hj hji)
      omega
  | succ f ih =>
    intro listed a inv hfree hr hy H
    have hun := (mem_ready.1 hr).1
    refine ⟨fun h => (by rw [h] at hr; cases hr), fun j hj => ?_⟩
    have hjn : j < n := by
      rcases Nat.lt_or_ge j n with h | h
      · exact h
      · exact absurd hj (tail_waitsT hs hc hn inv _ i rfl hin hun j h)
    refine ⟨hjn, ?_⟩
    by_cases hji : j = i
    · subst hji; exact ⟨oi, v, hi, hy, H⟩
    · have h1 := (H.2 j (ready_mono hj hji)).2
      obtain ⟨hjun, oj, hoj, hall⟩ := mem_ready.1 hj
      have hnot : ∀ e ∈ oj.after, Region.binds md e = true → e.on ≠ i := fun e he hb heq => by
        have h1 := hall e he hb
        rw [heq, getD_both hun] at h1
        cases h1
      have h2 := sOp_put hoj (hfree j oj hoj hji hjun hnot) (fun cs b => hsel i oi cs b hi) (fun cs b => hsel j oj cs b hoj) hy h1
      have hfree' : ∀ k ok, ops[k]? = some ok → k ≠ i → (listed.setIfInBounds j true).getD k true = false →
          (∀ e ∈ ok.after, Region.binds md e = true → e.on ≠ i) → oi.apart ops ok = true := fun k ok hk hki hun hno => by
        refine hfree k ok hk hki ?_ hno
        by_cases hjk : j = k
        · subst hjk; exact hjun
        · rw [getD_set_ne true hjk] at hun; exact hun
      refine sOp_mono (fun a' h3 => ih (listed.setIfInBounds j true) a' (inv.set hj hjn) hfree' (ready_mono hr (Ne.symm hji)) h3.1 ?_) h2
      rw [Array.setIfInBounds_comm _ _ hji]
      exact h3.2
/-- The lexical walk: stage by stage. -/
def wpStage (P : Program) (ops : Array Oper) (C : Bool → World → Prop) (c : Nat) (Q : Act → Prop) : Nat → List Oper → Act → Prop
  | _, [], a => Q a
  | i, o :: rest, a => ∃ v, YieldsS P ops C c i o v a ∧ wpStage P ops C c Q (i + 1) rest (a.put o.dst v)
def Region.headT (md : Region.Mode) (ops : Array Oper) (g : Nat) : Nat → Nat → Array Bool → Bool
  | 0, k, listed => decide (Region.ready md ops listed = [k]) && Region.lexFrom md ops g (k + 1) (listed.setIfInBounds k true)
  | f + 1, k, listed => (Region.ready md ops listed).contains k && Region.free md ops listed k && Region.headT md ops g f (k + 1) (listed.setIfInBounds k true)
theorem wpAnyT_lex {n g : Nat} {Lq : Act → Prop} (hsel : Region.noSelect ops = true) (hs : Region.sinkB md ops n = true) (hc : Region.tailB md ops n = true) (hn : n < ops.size) :
    ∀ (l : List Oper) (k : Nat) (listed : Array Bool) (a : Act), (∀ j, j < l.length → l[j]? = ops[k + j]?) → k + l.length = n → HeadInv md ops n listed → (∀ j, j < k → listed.getD j false = true) →
    Region.headT md ops g l.length k listed = true → wpStage P ops C c Lq k l a →
    wpAnyT P md ops C c n (fun listed' a' => (Region.ready md ops listed' = [n] ∧ Region.lexFrom md ops g (n + 1) (listed'.setIfInBounds n true) = true ∧ ∀ j, j < n → listed'.getD j false = true) ∧ Lq a') l.length listed a
  | [], k, listed, a, _, hk, _, hlk, hB, h => by
    have : k = n := by simpa using hk
    subst this
    simp only [List.length_nil, Region.headT, Bool.and_eq_true, decide_eq_true_eq] at hB
    exact ⟨⟨hB.1, hB.2, hlk⟩, h⟩
  | o :: l, k, listed, a, hl, hk, inv, hlk, hB, h => by
    have h0 : ops[k]? = some o := by simpa using (hl 0 (by simp)).symm
    simp only [List.length_cons, Region.headT, Bool.and_eq_true] at hB
    obtain ⟨⟨hr, hf⟩, hB'⟩ := hB
    have hkn : k < n := by simp only [List.length_cons] at hk; omega
    have hr' : k ∈ Region.ready md ops listed := by simpa using hr
    obtain ⟨v, hy, hK⟩ := h
    refine wpAnyT_first h0 (Region.noSelect_spec hsel) hs hc hn hkn (fun listed' a' hL j hj => by rw [hL.1.1] at hj; simp at hj; omega) l.length listed a inv (Region.free_spec h0 hf) hr' hy
      (wpAnyT_lex hsel hs hc hn l (k + 1) _ _ (fun j hj => by have := hl (j + 1) (by simp; omega); simpa [Nat.add_assoc, Nat.add_comm 1 j] using this) (by simp only [List.length_cons] at hk; omega) (inv.set hr' hkn) (fun j hj => ?_) hB' hK)
    by_cases e : k = j
    · subst e; exact getD_set_self (getD_lt (mem_ready.1 hr').1)
    · rw [getD_set_ne false e]; exact hlk j (by omega)
/-- Operations that enter nothing. -/
def plainOp (o : Oper) : Bool := match o.op with
  | .move _ | .assign _ | .load .. | .fieldAddr .. | .field .. | .indexAddr .. | .index .. | .binOp .. | .unOp .. | .build .. | .extract .. | .slice .. | .convert .. => true
  | _ => false
theorem plain_value (s : Sem Value) (w w' : World) (f : FuncId) (args : Array Value) : ((do pure (.value (← s))) : Sem Next).run P w ≠ .ok (.enter f args) w' := by
  intro h
  rw [Sem.run_bind] at h
  cases hs : s.run P w with
  | ok v w1 => rw [hs] at h; simp [Result.andThen] at h
  | halt x w1 => rw [hs] at h; simp [Result.andThen] at h
theorem plain_enter {o : Oper} (h : plainOp o = true) (ρ : Operand → Value) (w w' : World) (f : FuncId) (args : Array Value) : (execOp ρ o).run P w ≠ .ok (.enter f args) w' := by
  unfold plainOp at h
  unfold execOp
  split at h <;> rename_i ho <;> first
    | (rw [ho]; exact plain_value _ _ _ _ _)
    | (rw [ho]; intro hh; simp at hh)
    | cases h
theorem yieldsS_of_quiet {i : Nat} {o : Oper} {v : Value} {a : Act} (hic : i ≠ c) (hp : plainOp o = true) (h : YieldsIn P ops (fun w' => ∃ b, C b w') o v a) : YieldsS P ops C c i o v a := by
  rcases h with ⟨hw, hv⟩ | ⟨hw, hv⟩
  · refine .inl ⟨hw, fun b w _ hC => ?_⟩
    have h1 := hv w ⟨b, hC⟩
    have hbi : (b || decide (i = c)) = b := by simp [hic]
    rw [hbi]
    unfold Oper.quietAt at h1
    have hne := plain_enter (P := P) hp a.eval w
    generalize (execOp a.eval o).run P w = r at *
    cases r with
    | ok nx w' =>
      cases nx <;> simp only [Oper.quietUpon] at h1 <;> simp only [sUpon]
      case value u => obtain ⟨rfl, e⟩ := h1; exact ⟨hC, e⟩
      case skip => obtain ⟨rfl, e⟩ := h1; exact ⟨hC, e⟩
      case enter f args => exact absurd rfl (hne w' f args)
    | halt x w' => simp only [Oper.quietUpon] at h1
  · exact .inr ⟨hw, hv, hic⟩
theorem wpStage_of_quiet {Q : Act → Prop} : ∀ (l l2 : List Oper) (i : Nat) (a : Act), (∀ j, j < l.length → i + j ≠ c) → (l.all plainOp) = true →
    wpQuiet P ops (fun w' => ∃ b, C b w') (fun a' => wpStage P ops C c Q (i + l.length) l2 a') l a → wpStage P ops C c Q i (l ++ l2) a
  | [], l2, i, a, _, _, h => by simpa [wpQuiet] using h
  | o :: l, l2, i, a, hi, hp, h => by
    simp only [List.all_cons, Bool.and_eq_true] at hp
    unfold wpQuiet at h
    have next : ∀ a', wpQuiet P ops (fun w' => ∃ b, C b w') (fun a' => wpStage P ops C c Q (i + (o :: l).length) l2 a') l a' → wpStage P ops C c Q (i + 1) (l ++ l2) a' := fun a' h' => by
      refine wpStage_of_quiet l l2 (i + 1) a' (fun j hj => by have := hi (j + 1) (by simp; omega); omega) hp.2 ?_
      rw [show i + 1 + l.length = i + (o :: l).length by simp; omega]; exact h'
    show ∃ v, _ ∧ _
    by_cases hw : Region.wanted o (yielded ops a.tmps) = true
    · rw [if_pos hw] at h
      obtain ⟨v, h1, h2⟩ := h
      exact ⟨v, yieldsS_of_quiet (by simpa using hi 0 (by simp)) hp.1 (.inl ⟨hw, h1⟩), next _ h2⟩
    · rw [if_neg hw] at h
      exact ⟨undef, .inr ⟨by simpa using hw, rfl, by simpa using hi 0 (by simp)⟩, next _ h⟩
end
def stageB (l : List Oper) (n c : Nat) : Bool :=
  decide (c < n) && decide (n < l.length) && Region.noSelect l.toArray && Region.sinkB .any l.toArray n && Region.tailB .any l.toArray n && Region.headT .any l.toArray (l.length - (n + 1)) n 0 (Array.replicate l.length false)
    && (l.take c).all plainOp && ((l.drop (c + 1)).take (n - (c + 1))).all plainOp
theorem wp_region_stage {P : Program} {C : Bool → World → Prop} {id : Nat} {Q : Exit → Act → World → Prop} {a : Act} {w : World} {l : List Oper} (n c : Nat) (hm : P.follows .mixedOrders = true) (hB : stageB l n c = true) (hC : C false w.drew)
    (h : wpQuiet P l.toArray (fun w' => ∃ b, C b w') (fun a1 => ∃ o v, l[c]? = some o ∧ Region.wanted o (yielded l.toArray a1.tmps) = true ∧ (∀ w, C false w → sUpon P (C true) v ((execOp a1.eval o).run P w)) ∧
      wpQuiet P l.toArray (fun w' => ∃ b, C b w') (fun a2 => ∃ o2, l[n]? = some o2 ∧ Region.wanted o2 (yielded l.toArray a2.tmps) = true ∧ ∀ w2, C true w2 → ∃ f args, (execOp a2.eval o2).run P w2 = .ok (.enter f args) w2 ∧
        Calls P f args w2 (fun e w3 => ∃ v2, e = .returned v2 ∧ wpQuiet P l.toArray (fun w' => w' = w3) (fun a3 => Q .normal a3 w3) (l.drop (n + 1)) (a2.put o2.dst v2)))
      ((l.drop (c + 1)).take (n - (c + 1))) (a1.put o.dst v)) (l.take c) a) : (Code.region id l.toArray true).wp P Q a w := by
  simp only [stageB, Bool.and_eq_true, decide_eq_true_eq] at hB
  obtain ⟨⟨⟨⟨⟨⟨⟨hcn, hn⟩, hsel⟩, hs⟩, hc⟩, hlex⟩, hp1⟩, hp2⟩ := hB
  have hn' : n < l.toArray.size := by simpa using hn
  have htl : (l.take n).length = n := by simp; omega
  have inv0 : HeadInv .any l.toArray n (Array.replicate l.length false) :=
    ⟨by simp, fun j oj _ hl => (by rw [getD_replicate_false] at hl; cases hl), fun t _ ht => getD_in (by simpa using ht) (getD_replicate_false _ _)⟩
  have hsplit : l.take n = l.take c ++ (l.drop c).take (n - c) := by
    conv => lhs; rw [← List.take_append_drop c (l.take n)]
    rw [List.take_take, Nat.min_eq_left (by omega), List.drop_take]
  have hct : (l.take c).length = c := by simp; omega
  have hst : wpStage P l.toArray C c (fun a2 => ∃ o2, l[n]? = some o2 ∧ Region.wanted o2 (yielded l.toArray a2.tmps) = true ∧ ∀ w2, C true w2 → ∃ f args, (execOp a2.eval o2).run P w2 = .ok (.enter f args) w2 ∧
        Calls P f args w2 (fun e w3 => ∃ v2, e = .returned v2 ∧ wpQuiet P l.toArray (fun w' => w' = w3) (fun a3 => Q .normal a3 w3) (l.drop (n + 1)) (a2.put o2.dst v2))) 0 (l.take n) a := by
    rw [hsplit]
    refine wpStage_of_quiet _ _ 0 a (fun j hj => by omega) hp1 ?_
    rw [Nat.zero_add, hct]
    have key : ∀ (k : List Oper) (a' : Act) (Q1 Q2 : Act → Prop), (∀ a, Q1 a → Q2 a) → wpQuiet P l.toArray (fun w' => ∃ b, C b w') Q1 k a' → wpQuiet P l.toArray (fun w' => ∃ b, C b w') Q2 k a' := by
      intro k
      induction k with
      | nil => intro a' Q1 Q2 hq h1; exact hq _ h1
      | cons o k ih =>
        intro a' Q1 Q2 hq h1
        unfold wpQuiet at h1 ⊢
        split
        · rename_i hw; rw [if_pos hw] at h1; exact Oper.quiet_mono (fun a'' => ih a'' Q1 Q2 hq) h1
        · rename_i hw; rw [if_neg hw] at h1; exact ih _ Q1 Q2 hq h1
    refine key _ _ _ _ (fun a1 h1 => ?_) h
    obtain ⟨o, v, ho, hw, hv, h2⟩ := h1
    have hdc : (l.drop c).take (n - c) = o :: (l.drop (c + 1)).take (n - (c + 1)) := by
      obtain ⟨hlt, hoe⟩ := List.getElem?_eq_some_iff.1 ho
      rw [List.drop_eq_getElem_cons hlt, hoe, show n - c = (n - (c + 1)) + 1 by omega]; rfl
    rw [hdc]
    refine ⟨v, .inl ⟨hw, fun b w hb hC => ?_⟩, ?_⟩
    · rw [hb rfl] at hC
      have : (b || decide (c = c)) = true := by simp
      rw [this]; exact hv w hC
    · have := wpStage_of_quiet (P := P) (ops := l.toArray) (C := C) (c := c) ((l.drop (c + 1)).take (n - (c + 1))) [] (c + 1) (a1.put o.dst v) (fun j hj => by omega) hp2 h2
      simpa using this
  have H := wpAnyT_lex (md := .any) (g := l.length - (n + 1)) hsel hs hc hn' (l.take n) 0 _ a (fun j hj => by
    have hj' : j < n := by rw [htl] at hj; exact hj
    simp [hj']) (by simpa using htl) inv0 (fun j hj => by omega) (by rw [htl]; exact hlex) hst
  refine wp_region_any hm ?_
  have hC' : C ((Array.replicate l.length false).getD c false) w.drew := by rw [getD_replicate_false]; exact hC
  have := wpAny_of_headT (Q' := Q) (g := l.length - n) (fun listed a' w2 hL hCw => by
    obtain ⟨⟨hr, hlf, hall⟩, o2, ho2, hw2, hk⟩ := hL
    rw [hall c hcn] at hCw
    obtain ⟨f, args, hrun, hcall⟩ := hk w2 hCw
    rw [show l.length - n = (l.length - (n + 1)) + 1 by omega]
    refine ⟨fun h0 => (by rw [hr] at h0; cases h0), fun i hi => ?_⟩
    rw [hr] at hi
    obtain rfl : i = n := by simpa using hi
    unfold wpOp
    simp only [List.getElem?_toArray, ho2]
    rw [if_pos hw2]
    left
    unfold Oper.wp
    rw [hrun]
    simp only [Oper.upon]
    refine hcall.mono fun e w3 ⟨v2, he, hq⟩ => ?_
    subst he
    have hd : (l.drop (i + 1)).length = l.length - (i + 1) := by simp
    have h4 := wpAnyQ_lex (md := .any) (C := fun w' => w' = w3) hsel (l.drop (i + 1)) (i + 1) (listed.setIfInBounds i true) _ (fun j => by simp [List.getElem?_drop]) (by rw [hd]; exact hlf) hq
    rw [hd] at h4
    exact wpAny_of_quiet (C := fun w' => w' = w3) (Q := fun a3 => Q .normal a3 w3) (fun a3 w' hw' h5 => by subst hw'; exact h5) _ _ _ _ rfl h4) _ _ _ w.drew hC' H
  rw [htl, show n + (l.length - n) = l.length by omega] at this
  simpa using this
/-- A world at one of the stages. -/
structure Stg (C : Bool → World → Prop) where
  b : Bool
  W : World
  h : C b W
theorem stg_eq (C : Bool → World → Prop) : (fun w' => ∃ b, C b w') = (fun w' => ∃ L : Stg C, w' = L.W) := by
  funext w'
  apply propext
  constructor
  · rintro ⟨b, h⟩; exact ⟨⟨b, w', h⟩, rfl⟩
  · rintro ⟨L, rfl⟩; exact ⟨L.b, L.h⟩
theorem wp_region_stg {P : Program} {C : Bool → World → Prop} {id : Nat} {Q : Exit → Act → World → Prop} {a : Act} {w : World} {l : List Oper} (n c : Nat) (hm : P.follows .mixedOrders = true) (hB : stageB l n c = true) (hC : C false w.drew)
    (h : wpQuiet P l.toArray (fun w' => ∃ L : Stg C, w' = L.W) (fun a1 => ∃ o v, l[c]? = some o ∧ Region.wanted o (yielded l.toArray a1.tmps) = true ∧ (∀ w, C false w → sUpon P (C true) v ((execOp a1.eval o).run P w)) ∧
      wpQuiet P l.toArray (fun w' => ∃ L : Stg C, w' = L.W) (fun a2 => ∃ o2, l[n]? = some o2 ∧ Region.wanted o2 (yielded l.toArray a2.tmps) = true ∧ ∀ w2, C true w2 → ∃ f args, (execOp a2.eval o2).run P w2 = .ok (.enter f args) w2 ∧
        Calls P f args w2 (fun e w3 => ∃ v2, e = .returned v2 ∧ wpQuiet P l.toArray (fun w' => w' = w3) (fun a3 => Q .normal a3 w3) (l.drop (n + 1)) (a2.put o2.dst v2)))
      ((l.drop (c + 1)).take (n - (c + 1))) (a1.put o.dst v)) (l.take c) a) : (Code.region id l.toArray true).wp P Q a w := by
  rw [← stg_eq] at h
  exact wp_region_stage n c hm hB hC h
end Go.Proofs.Ytmipfmeafbeegaa
