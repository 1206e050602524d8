/- Plain laws: extents far from one another, moves, plans. -/
import Derived.Test.YtmipfmeafbeegaaChainPure
import Derived.Test.YtmipfmeafbeegaaSpRefSort
namespace Go.Proofs.Ytmipfmeafbeegaa
open Go.RowKit
set_option linter.unusedVariables false

abbrev Mov := Int × Int × Int × Int
def fromE (m : Mov) : Ext := (m.1, m.2.1, m.2.2.2)
def toE (m : Mov) : Ext := (m.1, m.2.2.1, m.2.2.2)
def mayB (C : Int) (m : Mov) : Bool := decide (m.2.1 ≠ m.2.2.1) && oneB C m.1 m.2.1 m.2.2.2 && oneB C m.1 m.2.2.1 m.2.2.2
theorem mayB_iff (C : Int) (m : Mov) : mayB C m = true ↔ (m.2.1 ≠ m.2.2.1 ∧ 0 ≤ C ∧ C ≤ 65536 ∧ 1 ≤ m.1 ∧ 1 ≤ m.2.2.2 ∧ m.2.2.2 ≤ 9 ∧ 0 ≤ m.2.1 ∧ m.2.1 ≤ C - m.2.2.2 ∧ 0 ≤ m.2.2.1 ∧ m.2.2.1 ≤ C - m.2.2.2) := by
  unfold mayB oneB
  simp only [Bool.and_eq_true, decide_eq_true_eq]
  omega
/-- The one ends where the other begins, or before; their numbers differ. -/
def Apart (a b : Ext) : Prop := a.2.1 + a.2.2 ≤ b.2.1 ∧ a.1 ≠ b.1
theorem one_n {C : Int} {x : Ext} (h : oneB C x.1 x.2.1 x.2.2 = true) : 0 ≤ x.2.1 ∧ 1 ≤ x.2.2 ∧ x.2.2 ≤ 9 ∧ x.2.1 ≤ C - x.2.2 ∧ C ≤ 65536 := by
  have := (oneB_iff _ _ _ _).1 h; omega
theorem rightF_iff {C : Int} : ∀ (xs : List Ext) (en : Int) (ss : List Int), rightF C en ss xs = true ↔ ((∀ x ∈ xs, oneB C x.1 x.2.1 x.2.2 = true) ∧ (∀ x ∈ xs, en ≤ x.2.1) ∧ (∀ x ∈ xs, x.1 ∉ ss) ∧ xs.Pairwise Apart)
  | [], _, _ => by simp [rightF]
  | x :: r, en, ss => by
    simp only [rightF, Bool.and_eq_true, decide_eq_true_eq, Bool.not_eq_true', decide_eq_false_iff_not, List.pairwise_cons, List.mem_cons, forall_eq_or_imp]
    rw [rightF_iff r]
    constructor
    · rintro ⟨⟨⟨h1, h2⟩, h3⟩, h4, h5, h6, h7⟩
      have := one_n h1
      refine ⟨⟨h1, h4⟩, ⟨h2, fun y hy => by have := h5 y hy; omega⟩, ⟨h3, fun y hy hm => h6 y hy (by simp [hm])⟩, fun y hy => ⟨h5 y hy, fun e => h6 y hy (by simp [e])⟩, h7⟩
    · rintro ⟨⟨h1, h4⟩, ⟨h2, h5⟩, ⟨h3, h6⟩, h8, h7⟩
      refine ⟨⟨⟨h1, h2⟩, h3⟩, h4, fun y hy => (h8 y hy).1, fun y hy hm => ?_, h7⟩
      simp only [List.mem_cons] at hm
      rcases hm with e | e
      · exact (h8 y hy).2 e.symm
      · exact h6 y hy e
theorem checkE_iff {C : Int} {xs : List Ext} : checkE C xs = true ↔ ((0 ≤ C ∧ C ≤ 65536) ∧ (∀ x ∈ xs, oneB C x.1 x.2.1 x.2.2 = true) ∧ xs.Pairwise Apart) := by
  simp only [checkE, Bool.and_eq_true, decide_eq_true_eq]
  rw [rightF_iff]
  constructor
  · rintro ⟨h0, h1, _, _, h2⟩; exact ⟨h0, h1, h2⟩
  · rintro ⟨h0, h1, h2⟩; exact ⟨h0, h1, fun x hx => (one_n (h1 x hx)).1, by simp, h2⟩
theorem checkE_sub {C : Int} {xs ys : List Ext} (h : checkE C xs = true) (hs : ys.Sublist xs) : checkE C ys = true := by
  rw [checkE_iff] at h ⊢
  exact ⟨h.1, fun x hx => h.2.1 x (hs.subset hx), h.2.2.sublist hs⟩
theorem checkE_ran {C : Int} {xs : List Ext} (h : checkE C xs = true) : Ran lessE xs := chain_ran xs 0 (by omega) (chainE h)
theorem checkE_sort {C : Int} {xs : List Ext} (h : checkE C xs = true) : sortV lessE xs = xs := sortV_id swoE xs (checkE_ran h)
theorem sort_snocE {C : Int} {xs : List Ext} (h : checkE C xs = true) (e : Ext) : sortV lessE (xs ++ [e]) = insV lessE e xs := by rw [sortV_snoc, checkE_sort h]
theorem clash_iff (e x : Ext) : clash e x = true ↔ (x.1 = e.1 ∨ (x.2.1 < e.2.1 + e.2.2 ∧ e.2.1 < x.2.1 + x.2.2)) := by
  simp [clash, meetB]
theorem insV_apart {e : Ext} (he : 1 ≤ e.2.2) : ∀ xs : List Ext, (∀ x ∈ xs, 1 ≤ x.2.2) → xs.Pairwise Apart → (∀ x ∈ xs, clash e x = false) → (insV lessE e xs).Pairwise Apart
  | [], _, _, _ => by simp [insV]
  | y :: r, h1, h2, h3 => by
    obtain ⟨h4, h5⟩ := List.pairwise_cons.1 h2
    have hy1 := h1 y (by simp)
    have hc : ¬ (y.1 = e.1 ∨ (y.2.1 < e.2.1 + e.2.2 ∧ e.2.1 < y.2.1 + y.2.2)) := by rw [← clash_iff, h3 y (by simp)]; simp
    have hne : y.1 ≠ e.1 := fun q => hc (.inl q)
    have hme : ¬ (y.2.1 < e.2.1 + e.2.2 ∧ e.2.1 < y.2.1 + y.2.2) := fun q => hc (.inr q)
    unfold insV
    by_cases hl : e.2.1 < y.2.1
    · have hle : lessE e y = true := by simp [lessE, hl]
      rw [if_pos hle]
      refine List.pairwise_cons.2 ⟨fun z hz => ?_, h2⟩
      rcases List.mem_cons.1 hz with rfl | hz
      · exact ⟨by omega, hne.symm⟩
      · have := (h4 z hz).1
        have hcz : ¬ (z.1 = e.1 ∨ (z.2.1 < e.2.1 + e.2.2 ∧ e.2.1 < z.2.1 + z.2.2)) := by rw [← clash_iff, h3 z (by simp [hz])]; simp
        exact ⟨by omega, fun q => hcz (.inl q.symm)⟩
    · have hle : ¬ lessE e y = true := by simp [lessE]; omega
      rw [if_neg hle]
      refine List.pairwise_cons.2 ⟨fun z hz => ?_, insV_apart he r (fun x hx => h1 x (by simp [hx])) h5 (fun x hx => h3 x (by simp [hx]))⟩
      rcases List.mem_cons.1 ((insV_perm (less := lessE) e r).mem_iff.1 hz) with rfl | hz
      · exact ⟨by omega, hne⟩
      · exact h4 z hz
theorem checkE_ins {C : Int} {xs : List Ext} {e : Ext} (h : checkE C xs = true) (ho : oneB C e.1 e.2.1 e.2.2 = true) (hc : xs.any (clash e) = false) : checkE C (insV lessE e xs) = true := by
  have h' := checkE_iff.1 h
  rw [checkE_iff]
  refine ⟨h'.1, fun x hx => ?_, insV_apart (one_n ho).2.1 xs (fun x hx => (one_n (h'.2.1 x hx)).2.1) h'.2.2 (fun x hx => by simpa using List.any_eq_false.1 hc x hx)⟩
  rcases List.mem_cons.1 ((insV_perm (less := lessE) e xs).mem_iff.1 hx) with rfl | hx
  · exact ho
  · exact h'.2.1 x hx
def Far (a b : Ext) : Prop := a.1 ≠ b.1 ∧ (a.2.1 + a.2.2 ≤ b.2.1 ∨ b.2.1 + b.2.2 ≤ a.2.1)
theorem checkE_ins_no {C : Int} {xs : List Ext} {e : Ext} (hc : xs.any (clash e) = true) : checkE C (insV lessE e xs) = false := by
  cases hk : checkE C (insV lessE e xs) with
  | false => rfl
  | true =>
    have h' := (checkE_iff.1 hk).2.2
    have hf : (insV lessE e xs).Pairwise Far := h'.imp (fun {a b} q => ⟨q.2, .inl q.1⟩)
    have hp := (List.Perm.pairwise_iff (fun {a b} (q : Far a b) => ⟨q.1.symm, q.2.symm⟩) (insV_perm (less := lessE) e xs)).1 hf
    obtain ⟨x, hx, hcx⟩ := List.any_eq_true.1 hc
    have := (List.pairwise_cons.1 hp).1 x hx
    rw [clash_iff] at hcx
    unfold Far at this
    rcases hcx with q | q
    · exact absurd q.symm this.1
    · omega
theorem checkE_ins_iff {C : Int} {xs : List Ext} {e : Ext} (h : checkE C xs = true) (ho : oneB C e.1 e.2.1 e.2.2 = true) : checkE C (sortV lessE (xs ++ [e])) = !(xs.any (clash e)) := by
  rw [sort_snocE h]
  cases hc : xs.any (clash e) with
  | false => exact checkE_ins h ho hc
  | true => exact checkE_ins_no hc
/-- What a move leaves where it was. -/
def doD (S : List Ext) (m : Mov) : List Ext := S.filter (fun y => !decide (y = fromE m))
def doS (S : List Ext) (m : Mov) : List Ext := insV lessE (toE m) (doD S m)
def doErr (C : Int) (S : List Ext) (m : Mov) : Int := if checkE C S = true then (if mayB C m = true then (if fromE m ∈ S then (if (doD S m).any (clash (toE m)) = true then 7 else 0) else 6) else 1) else 11
theorem doErr_ok {C : Int} {S : List Ext} {m : Mov} (h : doErr C S m = 0) : checkE C S = true ∧ mayB C m = true ∧ fromE m ∈ S ∧ (doD S m).any (clash (toE m)) = false := by
  unfold doErr at h
  split at h
  · split at h
    · split at h
      · split at h
        · omega
        · rename_i a b c d; exact ⟨a, b, c, by simpa using d⟩
      · omega
    · omega
  · omega
theorem doErr_of {C : Int} {S : List Ext} {m : Mov} (h1 : checkE C S = true) (h2 : mayB C m = true) (h3 : fromE m ∈ S) (h4 : (doD S m).any (clash (toE m)) = false) : doErr C S m = 0 := by
  unfold doErr; rw [if_pos h1, if_pos h2, if_pos h3, if_neg (by simp [h4])]
theorem apart_not_mem {L R : List Ext} {x : Ext} (h : (L ++ x :: R).Pairwise Apart) : x ∉ L ∧ x ∉ R := by
  rw [List.pairwise_append, List.pairwise_cons] at h
  obtain ⟨_, ⟨h2, _⟩, h3⟩ := h
  exact ⟨fun q => (h3 x q x (by simp)).2 rfl, fun q => (h2 x q).2 rfl⟩
theorem doD_mid {L R : List Ext} {m : Mov} (h : (L ++ fromE m :: R).Pairwise Apart) : doD (L ++ fromE m :: R) m = L ++ R := by
  obtain ⟨h1, h2⟩ := apart_not_mem h
  unfold doD
  rw [List.filter_append, List.filter_cons]
  have e1 : L.filter (fun y => !decide (y = fromE m)) = L := List.filter_eq_self.2 (fun y hy => by
    have : y ≠ fromE m := fun q => h1 (q ▸ hy)
    simp [this])
  have e2 : R.filter (fun y => !decide (y = fromE m)) = R := List.filter_eq_self.2 (fun y hy => by
    have : y ≠ fromE m := fun q => h2 (q ▸ hy)
    simp [this])
  rw [e1, e2]; simp
theorem doD_none {S : List Ext} {m : Mov} (h : fromE m ∉ S) : doD S m = S := by
  unfold doD
  exact List.filter_eq_self.2 (fun y hy => by
    have : y ≠ fromE m := fun q => h (q ▸ hy)
    simp [this])
theorem doD_check {C : Int} {S : List Ext} {m : Mov} (h : checkE C S = true) : checkE C (doD S m) = true := checkE_sub h List.filter_sublist
theorem doS_check {C : Int} {S : List Ext} {m : Mov} (h : doErr C S m = 0) : checkE C (doS S m) = true := by
  obtain ⟨h1, h2, h3, h4⟩ := doErr_ok h
  have h2' := (mayB_iff _ _).1 h2
  exact checkE_ins (doD_check h1) ((oneB_iff _ _ _ _).2 (by show _ ∧ _ ∧ 1 ≤ m.1 ∧ 1 ≤ m.2.2.2 ∧ m.2.2.2 ≤ 9 ∧ 0 ≤ m.2.2.1 ∧ m.2.2.1 ≤ C - m.2.2.2; omega)) h4
theorem doS_len {S : List Ext} {m : Mov} : (doS S m).length = (doD S m).length + 1 := by
  have := (insV_perm (less := lessE) (toE m) (doD S m)).length_eq
  simpa [doS] using this
/-- The move back. -/
def backM (m : Mov) : Mov := (m.1, m.2.2.1, m.2.1, m.2.2.2)
theorem ins_split (e : Ext) : ∀ xs : List Ext, ∃ L R, insV lessE e xs = L ++ e :: R ∧ L ++ R = xs
  | [] => ⟨[], [], rfl, rfl⟩
  | y :: r => by
    unfold insV
    by_cases hl : lessE e y = true
    · rw [if_pos hl]; exact ⟨[], y :: r, rfl, rfl⟩
    · rw [if_neg hl]
      obtain ⟨L, R, h1, h2⟩ := ins_split e r
      exact ⟨y :: L, R, by rw [h1]; rfl, by rw [← h2]; rfl⟩
theorem back_ok {C : Int} {S : List Ext} {m : Mov} (h : doErr C S m = 0) : doErr C (doS S m) (backM m) = 0 ∧ doS (doS S m) (backM m) = S := by
  obtain ⟨h1, h2, h3, h4⟩ := doErr_ok h
  have hk := doS_check h
  have h2' := (mayB_iff _ _).1 h2
  have hb : mayB C (backM m) = true := (mayB_iff _ _).2 (by unfold backM; simp only; omega)
  obtain ⟨L, R, rfl⟩ := List.append_of_mem h3
  have hp := (checkE_iff.1 h1).2.2
  have hone := (checkE_iff.1 h1).2.1
  have hD := doD_mid hp
  obtain ⟨L', R', e1, e2⟩ := ins_split (toE m) (doD (L ++ fromE m :: R) m)
  have hX : doS (L ++ fromE m :: R) m = L' ++ toE m :: R' := e1
  have hD2 : doD (doS (L ++ fromE m :: R) m) (backM m) = L ++ R := by
    rw [hX, ← hD, ← e2]
    have hpx := (checkE_iff.1 hk).2.2
    rw [hX] at hpx
    exact doD_mid (m := backM m) hpx
  rw [List.pairwise_append, List.pairwise_cons] at hp
  obtain ⟨p1, ⟨p2, p3⟩, p4⟩ := hp
  have hx1 := one_n (hone (fromE m) (by simp))
  have hnc : (L ++ R).any (clash (fromE m)) = false := by
    rw [List.any_eq_false]
    intro y hy hc
    have hy1 := one_n (hone y (by simp at hy ⊢; rcases hy with hy | hy <;> simp [hy]))
    rw [clash_iff] at hc
    rcases List.mem_append.1 hy with hy | hy
    · have := p4 y hy (fromE m) (by simp)
      rcases hc with q | q
      · exact this.2 q
      · have := this.1; omega
    · have := p2 y hy
      rcases hc with q | q
      · exact this.2 q.symm
      · have := this.1; omega
  have hmem : fromE (backM m) ∈ doS (L ++ fromE m :: R) m := by rw [hX]; show toE m ∈ _; simp
  refine ⟨doErr_of hk hb hmem (by rw [hD2]; exact hnc), ?_⟩
  unfold doS at hD2 ⊢
  rw [hD2]
  show insV lessE (fromE m) (L ++ R) = _
  refine insV_mid _ _ _ (fun y hy => ?_) (fun y hy => ?_)
  · have := (p4 y hy (fromE m) (by simp)).1
    have hy1 := one_n (hone y (by simp [hy]))
    simp [lessE]; omega
  · have := (p2 y (List.mem_of_mem_head? hy)).1
    simp [lessE]; omega
/-- The moves that bring them together. -/
def planF : Int → List Ext → List Mov
  | _, [] => []
  | en, x :: r => (if x.2.1 = en then [] else [(x.1, x.2.1, en, x.2.2)]) ++ planF (en + x.2.2) r
theorem planF_append : ∀ (P Q : List Ext) (en : Int), planF en (P ++ Q) = planF en P ++ planF (en + sumN P) Q
  | [], Q, en => by simp [planF, sumN]
  | x :: P, Q, en => by
    simp only [List.cons_append, planF, sumN]
    rw [planF_append P Q, List.append_assoc]
    congr 2
    rw [show en + x.2.2 + sumN P = en + (x.2.2 + sumN P) by omega]
theorem planF_len : ∀ (xs : List Ext) (en : Int), (planF en xs).length ≤ xs.length
  | [], _ => by simp [planF]
  | x :: r, en => by
    have := planF_len r (en + x.2.2)
    simp only [planF, List.length_append, List.length_cons]
    split <;> simp <;> omega
theorem planF_split : ∀ (S : List Ext) (en : Int) (m : Mov) (p : List Mov), planF en S = m :: p → ∃ P x R, S = P ++ x :: R ∧ planF en P = [] ∧ x.2.1 ≠ en + sumN P ∧ m = (x.1, x.2.1, en + sumN P, x.2.2) ∧ p = planF (en + sumN P + x.2.2) R
  | [], _, _, _, h => by simp [planF] at h
  | x :: r, en, m, p, h => by
    simp only [planF] at h
    by_cases hx : x.2.1 = en
    · rw [if_pos hx] at h
      obtain ⟨P, y, R, h1, h2, h3, h4, h5⟩ := planF_split r _ m p (by simpa using h)
      refine ⟨x :: P, y, R, by rw [h1]; rfl, ?_, ?_, ?_, ?_⟩
      · simp only [planF]; rw [if_pos hx, h2]; rfl
      · simp only [sumN]; omega
      · rw [h4]; simp only [sumN]; rw [show en + x.2.2 + sumN P = en + (x.2.2 + sumN P) by omega]
      · rw [h5]; simp only [sumN]; rw [show en + x.2.2 + sumN P + y.2.2 = en + (x.2.2 + sumN P) + y.2.2 by omega]
    · rw [if_neg hx] at h
      simp only [List.cons_append, List.nil_append, List.cons.injEq] at h
      refine ⟨[], x, r, rfl, rfl, by simpa [sumN] using hx, ?_, ?_⟩
      · rw [← h.1]; simp [sumN]
      · rw [← h.2]; simp [sumN]
theorem planF_packed : ∀ (P : List Ext) (en : Int), (∀ y ∈ P, 0 ≤ y.2.2) → planF en P = [] → ∀ y ∈ P, y.2.1 + y.2.2 ≤ en + sumN P
  | [], _, _, _, y, hy => by simp at hy
  | x :: r, en, hn, h, y, hy => by
    simp only [planF, List.append_eq_nil_iff] at h
    have hx : x.2.1 = en := by
      by_cases q : x.2.1 = en
      · exact q
      · rw [if_neg q] at h; simp at h
    have hs : ∀ (l : List Ext), (∀ y ∈ l, 0 ≤ y.2.2) → 0 ≤ sumN l := by
      intro l
      induction l with
      | nil => intro _; simp [sumN]
      | cons a l ih =>
        intro hl
        have h1 := hl a (by simp)
        have h2 := ih (fun y hy => hl y (by simp [hy]))
        simp only [sumN]; omega
    simp only [sumN]
    rcases List.mem_cons.1 hy with rfl | hy
    · have := hs r (fun z hz => hn z (by simp [hz])); omega
    · have := planF_packed r _ (fun z hz => hn z (by simp [hz])) h.2 y hy
      omega
theorem chain_parts : ∀ (P : List Ext) (en : Int) (x : Ext) (R : List Ext), Chain en (P ++ x :: R) → Chain en P ∧ endF en P ≤ x.2.1
  | [], _, _, _, h => ⟨trivial, h.1⟩
  | y :: P, en, x, R, h => by
    obtain ⟨h1, h2, h3, h4, h5⟩ := h
    obtain ⟨h6, h7⟩ := chain_parts P _ x R h5
    exact ⟨⟨h1, h2, h3, h4, h6⟩, h7⟩
def sn (x : Ext) : Int × Int := (x.1, x.2.2)
theorem sumN_sn : ∀ (a b : List Ext), a.map sn = b.map sn → sumN a = sumN b
  | [], [], _ => rfl
  | [], _ :: _, h => by simp at h
  | _ :: _, [], h => by simp at h
  | x :: a, y :: b, h => by
    simp only [List.map_cons, List.cons.injEq] at h
    have := sumN_sn a b h.2
    have h1 := congrArg Prod.snd h.1
    simp only [sn] at h1
    simp only [sumN]; omega
theorem plan_step {C : Int} {S : List Ext} {m : Mov} {p : List Mov} (h : checkE C S = true) (hp : planF 0 S = m :: p) :
    doErr C S m = 0 ∧ planF 0 (doS S m) = p ∧ (doS S m).map sn = S.map sn ∧ m.2.2.1 < m.2.1 ∧ 0 ≤ m.2.2.1 := by
  obtain ⟨P, x, R, rfl, h2, h3, rfl, rfl⟩ := planF_split S 0 m p hp
  have hk := checkE_iff.1 h
  obtain ⟨hc1, hc2⟩ := chain_parts P 0 x R (chainE h)
  have hg := sumN_ge P 0 hc1
  rw [Int.zero_add] at *
  generalize hen : sumN P = en at *
  have hlt : en < x.2.1 := by omega
  have hone := hk.2.1
  have hx1 := one_n (hone x (by simp))
  have hpa := planF_packed P 0 (fun y hy => by have := one_n (hone y (by simp [hy])); omega) h2
  rw [Int.zero_add, hen] at hpa
  have hpw := hk.2.2
  rw [List.pairwise_append, List.pairwise_cons] at hpw
  obtain ⟨p1, ⟨p2, p3⟩, p4⟩ := hpw
  have hD : doD (P ++ x :: R) (x.1, x.2.1, en, x.2.2) = P ++ R := doD_mid (m := (x.1, x.2.1, en, x.2.2)) hk.2.2
  have hS : doS (P ++ x :: R) (x.1, x.2.1, en, x.2.2) = P ++ (x.1, en, x.2.2) :: R := by
    unfold doS
    rw [hD]
    refine insV_mid _ _ _ (fun y hy => ?_) (fun y hy => ?_)
    · have := hpa y hy
      have := one_n (hone y (by simp [hy]))
      show decide (en < y.2.1) = false
      rw [decide_eq_false_iff_not]; omega
    · have := (p2 y (List.mem_of_mem_head? hy)).1
      show decide (en < y.2.1) = true
      rw [decide_eq_true_eq]; omega
  have ho := (oneB_iff _ _ _ _).1 (hone x (by simp))
  refine ⟨doErr_of h ((mayB_iff _ _).2 (by simp only; omega)) (by show x ∈ _; simp) ?_, ?_, ?_, hlt, by show 0 ≤ en; omega⟩
  · rw [hD, List.any_eq_false]
    intro y hy hc
    rw [clash_iff] at hc
    simp only [toE] at hc
    rcases List.mem_append.1 hy with hy | hy
    · have q1 := (p4 y hy x (by simp)).2
      have q2 := hpa y hy
      rcases hc with q | q
      · exact q1 q
      · omega
    · have q1 := p2 y hy
      rcases hc with q | q
      · exact q1.2 q.symm
      · have := q1.1; omega
  · rw [hS, planF_append, h2, Int.zero_add, hen]
    simp [planF]
  · rw [hS]; simp [sn]
theorem plan_none_dense {C : Int} {S : List Ext} (h : checkE C S = true) (hp : planF 0 S = []) : sumN S = endF 0 S := by
  have hch := chainE h
  have h1 := sumN_ge S 0 hch
  rcases S.eq_nil_or_concat with rfl | ⟨P, x, rfl⟩
  · rfl
  · rw [List.concat_eq_append] at *
    have := planF_packed (P ++ [x]) 0 (fun y hy => by have := one_n ((checkE_iff.1 h).2.1 y hy); omega) hp x (by simp)
    rw [endF_snoc] at *
    omega
theorem plan_none_at : ∀ (S : List Ext) (en : Int), planF en S = [] → ∀ i (hi : i < S.length), S[i].2.1 = en + sumN (S.take i)
  | [], _, _, i, hi => by simp at hi
  | x :: r, en, h, i, hi => by
    simp only [planF, List.append_eq_nil_iff] at h
    have hx : x.2.1 = en := by
      by_cases q : x.2.1 = en
      · exact q
      · rw [if_neg q] at h; simp at h
    cases i with
    | zero => simp [sumN, hx]
    | succ i =>
      have := plan_none_at r _ h.2 i (by simpa using hi)
      simp only [List.getElem_cons_succ, List.take_succ_cons, sumN]
      rw [this]; omega
end Go.Proofs.Ytmipfmeafbeegaa
