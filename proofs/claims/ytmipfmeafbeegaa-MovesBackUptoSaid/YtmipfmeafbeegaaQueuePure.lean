/- A queue by rank, as lists: things with the turn in which they were pushed; what is pushed stands where its rank and turn say, what is popped is the first. Plain lemmas; the order of ranks is any strict weak one. -/
import Derived.Test.YtmipfmeafbeegaaHeapPure
namespace Go.Proofs.Ytmipfmeafbeegaa
set_option linter.unusedVariables false

theorem snocInd {τ : Type} {motive : List τ → Prop} (nil : motive []) (snoc : ∀ (l : List τ) (x : τ), motive l → motive (l ++ [x])) (l : List τ) : motive l := by
  have h : ∀ m : List τ, motive m.reverse := by
    intro m
    induction m with
    | nil => exact nil
    | cons x m ih => rw [List.reverse_cons]; exact snoc _ _ ih
  have := h l.reverse
  rwa [List.reverse_reverse] at this
section
variable {τ : Type} (less : τ → τ → Bool)

def ltT (x y : τ × Nat) : Bool := if less x.1 y.1 then true else if less y.1 x.1 then false else decide (x.2 < y.2)
def insT (x : τ × Nat) : List (τ × Nat) → List (τ × Nat)
  | [] => [x]
  | y :: ys => if ltT less x y then x :: y :: ys else y :: insT x ys
def insV (x : τ) : List τ → List τ
  | [] => [x]
  | y :: ys => if less x y then x :: y :: ys else y :: insV x ys
/-- One behind the other, each behind all that it is not below. -/
def sortV (l : List τ) : List τ := l.foldl (fun out x => insV less x out) []
variable {less}
theorem swo_ltT (h : Swo less) : Swo (ltT less) := by
  refine ⟨?_, ?_⟩
  · rintro ⟨a, s⟩ ⟨b, t⟩ hab
    unfold ltT at *
    simp only at *
    cases h1 : less a b with
    | true => rw [h.asym a b h1]; simp
    | false =>
      cases h2 : less b a with
      | true => rw [h1, h2] at hab; simp at hab
      | false =>
        rw [h1, h2] at hab
        simp at hab ⊢
        omega
  · rintro ⟨a, s⟩ ⟨b, t⟩ ⟨c, u⟩ hba hcb
    unfold ltT at *
    simp only at *
    cases h1 : less b a with
    | true => rw [h1] at hba; simp at hba
    | false =>
      cases h2 : less c b with
      | true => rw [h2] at hcb; simp at hcb
      | false =>
        rw [h1] at hba
        rw [h2] at hcb
        have hca := h.trans a b c h1 h2
        rw [hca]
        cases h3 : less a b with
        | true =>
          have : less a c = true := by
            cases e : less a c with
            | true => rfl
            | false => have := h.trans b c a h2 e; rw [h3] at this; cases this
          simp [this]
        | false =>
          cases h4 : less b c with
          | true =>
            have : less a c = true := by
              cases e : less a c with
              | true => rfl
              | false => have := h.trans c a b e h1; rw [h4] at this; cases this
            simp [this]
          | false =>
            rw [h3] at hba
            rw [h4] at hcb
            simp at hba hcb
            cases h5 : less a c with
            | true => simp
            | false => simp; omega
theorem ltT_total {x y : τ × Nat} (h : x.2 ≠ y.2) : ltT less x y = true ∨ ltT less y x = true := by
  unfold ltT
  cases h1 : less x.1 y.1 <;> cases h2 : less y.1 x.1 <;> simp
  omega
theorem ltT_new {x y : τ × Nat} (h : y.2 < x.2) : ltT less x y = less x.1 y.1 := by
  unfold ltT
  cases h1 : less x.1 y.1 <;> cases h2 : less y.1 x.1 <;> simp
  omega

def Sor (less : τ → τ → Bool) (S : List (τ × Nat)) : Prop := S.Pairwise (fun x y => ltT less x y = true)
theorem insT_perm (x : τ × Nat) : ∀ S : List (τ × Nat), (insT less x S).Perm (x :: S)
  | [] => List.Perm.refl _
  | y :: ys => by
    unfold insT
    split
    · exact List.Perm.refl _
    · exact ((insT_perm x ys).cons y).trans (List.Perm.swap x y ys)
theorem insT_len (x : τ × Nat) (S : List (τ × Nat)) : (insT less x S).length = S.length + 1 := by simpa using (insT_perm (less := less) x S).length_eq
theorem ltT_trans (h : Swo less) {x y z : τ × Nat} (h1 : ltT less x y = true) (h2 : ltT less y z = true) : ltT less x z = true := by
  cases e : ltT less x z with
  | true => rfl
  | false =>
    have hs := swo_ltT h
    have := hs.trans _ _ _ (hs.asym _ _ h2) e
    rw [h1] at this
    cases this
theorem insT_sor (h : Swo less) (x : τ × Nat) : ∀ S : List (τ × Nat), Sor less S → (∀ y ∈ S, y.2 ≠ x.2) → Sor less (insT less x S)
  | [], _, _ => by simp [insT, Sor]
  | y :: ys, hS, hne => by
    have hS' := List.pairwise_cons.1 hS
    unfold insT
    split
    · rename_i hlt
      refine List.pairwise_cons.2 ⟨?_, hS⟩
      intro z hz
      rcases List.mem_cons.1 hz with rfl | hz
      · exact hlt
      · exact ltT_trans h hlt (hS'.1 z hz)
    · rename_i hlt
      refine List.pairwise_cons.2 ⟨?_, insT_sor h x ys hS'.2 (fun z hz => hne z (by simp [hz]))⟩
      intro z hz
      rcases List.mem_cons.1 ((insT_perm x ys).mem_iff.1 hz) with rfl | hz
      · exact (ltT_total (hne y (by simp))).resolve_right (by simpa using hlt)
      · exact hS'.1 z hz
theorem insT_fst (x : τ × Nat) : ∀ S : List (τ × Nat), (∀ y ∈ S, y.2 < x.2) → (insT less x S).map (·.1) = insV less x.1 (S.map (·.1))
  | [], _ => rfl
  | y :: ys, h => by
    have ih := insT_fst x ys (fun z hz => h z (by simp [hz]))
    unfold insT
    rw [ltT_new (h y (by simp))]
    simp only [List.map_cons, insV]
    split
    · rfl
    · simp [ih]
theorem insV_perm (x : τ) : ∀ S : List τ, (insV less x S).Perm (x :: S)
  | [] => List.Perm.refl _
  | y :: ys => by
    unfold insV
    split
    · exact List.Perm.refl _
    · exact ((insV_perm x ys).cons y).trans (List.Perm.swap x y ys)
theorem sortV_snoc (l : List τ) (x : τ) : sortV less (l ++ [x]) = insV less x (sortV less l) := by simp [sortV]
theorem sortV_perm (l : List τ) : (sortV less l).Perm l := by
  induction l using snocInd with
  | nil => exact List.Perm.refl _
  | snoc l x ih =>
    rw [sortV_snoc]
    exact (insV_perm x _).trans ((ih.cons x).trans (List.perm_append_comm (l₁ := [x]) (l₂ := l)))
theorem sortV_len (l : List τ) : (sortV less l).length = l.length := (sortV_perm l).length_eq
/-- By their ranks. -/
def Ran (less : τ → τ → Bool) (S : List τ) : Prop := S.Pairwise (fun x y => less y x = false)
theorem insV_ran (h : Swo less) (x : τ) : ∀ S : List τ, Ran less S → Ran less (insV less x S)
  | [], _ => by simp [insV, Ran]
  | y :: ys, hS => by
    have hS' := List.pairwise_cons.1 hS
    unfold insV
    split
    · rename_i hlt
      refine List.pairwise_cons.2 ⟨?_, hS⟩
      intro z hz
      rcases List.mem_cons.1 hz with rfl | hz
      · exact h.asym _ _ hlt
      · exact h.trans _ _ _ (h.asym _ _ hlt) (hS'.1 z hz)
    · rename_i hlt
      refine List.pairwise_cons.2 ⟨?_, insV_ran h x ys hS'.2⟩
      intro z hz
      rcases List.mem_cons.1 ((insV_perm x ys).mem_iff.1 hz) with rfl | hz
      · simpa using hlt
      · exact hS'.1 z hz
theorem sortV_ran (h : Swo less) (l : List τ) : Ran less (sortV less l) := by
  induction l using snocInd with
  | nil => simp [sortV, Ran]
  | snoc l x ih => rw [sortV_snoc]; exact insV_ran h x _ ih
/-- What stands by its ranks stays as it stands. -/
theorem sortV_id (h : Swo less) (l : List τ) (hl : Ran less l) : sortV less l = l := by
  induction l using snocInd with
  | nil => rfl
  | snoc l x ih =>
    have h1 := List.pairwise_append.1 hl
    rw [sortV_snoc, ih h1.1]
    have : ∀ S : List τ, (∀ y ∈ S, less x y = false) → insV less x S = S ++ [x] := by
      intro S
      induction S with
      | nil => intro _; rfl
      | cons y ys ih => intro hy; unfold insV; rw [hy y (by simp)]; simp [ih (fun z hz => hy z (by simp [hz]))]
    exact this l (fun y hy => h1.2.2 y hy x (by simp))

/-- A heap of things, and the same by rank and turn. -/
structure QS (d : τ × Nat) (less : τ → τ → Bool) (l S : List (τ × Nat)) : Prop where
  perm : l.Perm S
  sor : Sor less S
  heap : IsHeap d (ltT less) l l.length
theorem QS.nil (d : τ × Nat) (less : τ → τ → Bool) : QS d less [] [] := ⟨List.Perm.refl _, by simp [Sor], fun k _ h => by simp at h⟩
theorem QS.len {d : τ × Nat} {l S : List (τ × Nat)} (h : QS d less l S) : l.length = S.length := h.perm.length_eq
theorem QS.push {d : τ × Nat} {l S : List (τ × Nat)} (h : QS d less l S) (hs : Swo less) (x : τ × Nat) (hx : ∀ y ∈ S, y.2 < x.2) : QS d less (pushL d (ltT less) l x) (insT less x S) := by
  refine ⟨(pushL_perm l x).trans ((h.perm.cons x).trans (insT_perm x S).symm), insT_sor hs x S h.sor (fun y hy => by have := hx y hy; omega), ?_⟩
  have := pushL_heap (swo_ltT hs) l x h.heap
  rw [pushL_len]; exact this
theorem QS.pop {d s : τ × Nat} {l S : List (τ × Nat)} (h : QS d less l (s :: S)) (hs : Swo less) :
    l.getD 0 d = s ∧ (popL d (ltT less) l).length = l.length ∧ (popL d (ltT less) l).getD (l.length - 1) d = s ∧ QS d less ((popL d (ltT less) l).take (l.length - 1)) S := by
  have hne : l ≠ [] := by rintro rfl; have := h.perm.length_eq; simp at this
  obtain ⟨h1, h2, h3, h4⟩ := popL_all (swo_ltT hs) l hne h.heap
  have hpos : 0 < l.length := List.length_pos_iff.2 hne
  have h0 : l.getD 0 d = s := by
    have hmem : l.getD 0 d ∈ s :: S := by
      rw [← h.perm.mem_iff, List.getD_eq_getElem?_getD, List.getElem?_eq_getElem hpos]; simp
    rcases List.mem_cons.1 hmem with e | hin
    · exact e
    · have hlt := (List.pairwise_cons.1 h.sor).1 _ hin
      have hsm : s ∈ l := h.perm.mem_iff.2 (by simp)
      obtain ⟨k, hk, e⟩ := List.mem_iff_getElem.1 hsm
      have := h.heap.least (swo_ltT hs) k hk
      rw [List.getD_eq_getElem?_getD, List.getElem?_eq_getElem hk] at this
      simp only [Option.getD_some] at this
      rw [e, hlt] at this
      cases this
  refine ⟨h0, h1, by rw [h2, h0], ?_, (List.pairwise_cons.1 h.sor).2, ?_⟩
  · have := h3.trans h.perm
    rw [h0] at this
    exact List.Perm.cons_inv this
  · have hl : ((popL d (ltT less) l).take (l.length - 1)).length = l.length - 1 := by simp [h1]
    rw [hl]; exact h4
theorem QS.nil_iff {d : τ × Nat} {l : List (τ × Nat)} (h : QS d less l []) : l = [] := List.Perm.eq_nil h.perm
end
end Go.Proofs.Ytmipfmeafbeegaa
