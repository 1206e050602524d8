/- The heap of the library's package container/heap, as lists: up, down, push, pop; what they keep, and that the first one is the least. Plain lemmas over lists; the order is any strict weak one. -/
namespace Go.Proofs.Ytmipfmeafbeegaa
set_option linter.unusedVariables false

section
variable {α : Type} (d : α) (lt : α → α → Bool)

def swapL (l : List α) (i j : Nat) : List α := (l.set i (l.getD j d)).set j (l.getD i d)
theorem swapL_len (l : List α) (i j : Nat) : (swapL d l i j).length = l.length := by simp [swapL]
theorem swapL_get (l : List α) (i j k : Nat) (hi : i < l.length) (hj : j < l.length) : (swapL d l i j).getD k d = if k = j then l.getD i d else if k = i then l.getD j d else l.getD k d := by
  unfold swapL
  simp only [List.getD_eq_getElem?_getD, List.getElem?_set, List.length_set]
  by_cases h1 : k = j
  · subst h1; simp [hj]
  · rw [if_neg (fun e => h1 e.symm), if_neg h1]
    by_cases h2 : k = i
    · subst h2; simp [hi]
    · rw [if_neg (fun e => h2 e.symm), if_neg h2]
theorem swapL_perm (l : List α) (i j : Nat) (hi : i < l.length) (hj : j < l.length) : (swapL d l i j).Perm l := by
  have h := Array.swap_perm (xs := l.toArray) (i := i) (j := j) (by simpa using hi) (by simpa using hj)
  have h2 := Array.perm_iff_toList_perm.1 h
  have e : (l.toArray.swap i j (by simpa using hi) (by simpa using hj)).toList = swapL d l i j := by
    unfold swapL
    simp [Array.swap_def, hi, hj, List.getD_eq_getElem?_getD]
  rw [e] at h2
  simpa using h2

def upL (l : List α) (j : Nat) : List α :=
  if h : j = 0 then l
  else if lt (l.getD j d) (l.getD ((j - 1) / 2) d) then upL (swapL d l ((j - 1) / 2) j) ((j - 1) / 2) else l
termination_by j
decreasing_by omega

/-- Which child. -/
def kid (l : List α) (i n : Nat) : Nat := if 2 * i + 2 < n ∧ lt (l.getD (2 * i + 2) d) (l.getD (2 * i + 1) d) = true then 2 * i + 2 else 2 * i + 1
theorem kid_gt (l : List α) (i n : Nat) : i < kid d lt l i n := by unfold kid; split <;> omega
theorem kid_lt (l : List α) (i n : Nat) (h : 2 * i + 1 < n) : kid d lt l i n < n := by unfold kid; split <;> omega
def downL (l : List α) (i n : Nat) : List α :=
  if h : 2 * i + 1 < n then
    if lt (l.getD (kid d lt l i n) d) (l.getD i d) then downL (swapL d l i (kid d lt l i n)) (kid d lt l i n) n else l
  else l
termination_by n - i
decreasing_by have := kid_gt d lt l i n; have := kid_lt d lt l i n h; omega

def pushL (l : List α) (x : α) : List α := upL d lt (l ++ [x]) l.length
def popL (l : List α) : List α := downL d lt (swapL d l 0 (l.length - 1)) 0 (l.length - 1)

/-- A strict weak order. -/
structure Swo : Prop where
  asym : ∀ a b, lt a b = true → lt b a = false
  trans : ∀ a b c, lt b a = false → lt c b = false → lt c a = false
variable {d lt}
theorem Swo.irrefl (h : Swo lt) (a : α) : lt a a = false := by
  cases e : lt a a with
  | false => rfl
  | true => exact absurd (h.asym a a e) (by rw [e]; simp)

/-- The first n are a heap. -/
def IsHeap (d : α) (lt : α → α → Bool) (l : List α) (n : Nat) : Prop := ∀ k, 0 < k → k < n → lt (l.getD k d) (l.getD ((k - 1) / 2) d) = false
theorem IsHeap.least (hs : Swo lt) {l : List α} {n : Nat} (h : IsHeap d lt l n) : ∀ k, k < n → lt (l.getD k d) (l.getD 0 d) = false := by
  intro k
  induction k using Nat.strongRecOn with
  | _ k ih =>
    intro hk
    by_cases h0 : k = 0
    · subst h0; exact hs.irrefl _
    · exact hs.trans _ _ _ (ih ((k - 1) / 2) (by omega) (by omega)) (h k (by omega) hk)

theorem upL_perm (l : List α) (j : Nat) (hj : j < l.length) : (upL d lt l j).Perm l := by
  induction j using Nat.strongRecOn generalizing l with
  | _ j ih =>
    unfold upL
    split
    · exact List.Perm.refl _
    · split
      · exact (ih ((j - 1) / 2) (by omega) _ (by rw [swapL_len]; omega)).trans (swapL_perm d l _ _ (by omega) hj)
      · exact List.Perm.refl _
theorem upL_heap (hs : Swo lt) (l : List α) (j n : Nat) (hj : j < n) (hn : n = l.length)
    (h1 : ∀ k, 0 < k → k < n → k ≠ j → lt (l.getD k d) (l.getD ((k - 1) / 2) d) = false)
    (h2 : ∀ k, 0 < k → k < n → (k - 1) / 2 = j → 0 < j → lt (l.getD k d) (l.getD ((j - 1) / 2) d) = false) : IsHeap d lt (upL d lt l j) n := by
  induction j using Nat.strongRecOn generalizing l with
  | _ j ih =>
    unfold upL
    split
    · rename_i h0
      intro k hk hkn
      exact h1 k hk hkn (by omega)
    · rename_i h0
      split
      · rename_i hlt
        have hij : (j - 1) / 2 < j := by omega
        have g : ∀ k, (swapL d l ((j - 1) / 2) j).getD k d = if k = j then l.getD ((j - 1) / 2) d else if k = (j - 1) / 2 then l.getD j d else l.getD k d := fun k => swapL_get d l _ _ k (by omega) (by omega)
        refine ih ((j - 1) / 2) (by omega) _ (by omega) (by rw [swapL_len]; exact hn) ?_ ?_
        · intro k hk hkn hki
          rw [g, g]
          by_cases hkj : k = j
          · subst hkj
            rw [if_pos rfl, if_neg (by omega), if_pos rfl]
            exact hs.asym _ _ hlt
          · rw [if_neg hkj, if_neg hki]
            by_cases hp : (k - 1) / 2 = j
            · rw [if_pos hp]
              exact h2 k hk hkn hp (by omega)
            · rw [if_neg hp]
              by_cases hp2 : (k - 1) / 2 = (j - 1) / 2
              · rw [if_pos hp2]
                have := h1 k hk hkn hkj
                rw [hp2] at this
                exact hs.trans _ _ _ (hs.asym _ _ hlt) this
              · rw [if_neg hp2]
                exact h1 k hk hkn hkj
        · intro k hk hkn hp hi0
          rw [g, g]
          rw [if_neg (show ¬ ((j - 1) / 2 - 1) / 2 = j by omega), if_neg (show ¬ ((j - 1) / 2 - 1) / 2 = (j - 1) / 2 by omega)]
          have hpi := h1 ((j - 1) / 2) hi0 (by omega) (by omega)
          by_cases hkj : k = j
          · rw [if_pos hkj]; exact hpi
          · rw [if_neg hkj, if_neg (by omega)]
            have := h1 k hk hkn hkj
            rw [hp] at this
            exact hs.trans _ _ _ hpi this
      · rename_i hlt
        have hlt' : lt (l.getD j d) (l.getD ((j - 1) / 2) d) = false := by simpa using hlt
        intro k hk hkn
        by_cases hkj : k = j
        · subst hkj; exact hlt'
        · exact h1 k hk hkn hkj
theorem pushL_perm (l : List α) (x : α) : (pushL d lt l x).Perm (x :: l) :=
  (upL_perm _ _ (by simp)).trans (List.perm_append_comm (l₁ := l) (l₂ := [x]))
theorem pushL_len (l : List α) (x : α) : (pushL d lt l x).length = l.length + 1 := by have := (pushL_perm (d := d) (lt := lt) l x).length_eq; simpa using this
theorem pushL_heap (hs : Swo lt) (l : List α) (x : α) (h : IsHeap d lt l l.length) : IsHeap d lt (pushL d lt l x) (l.length + 1) := by
  refine upL_heap hs _ _ _ (by omega) (by simp) ?_ ?_
  · intro k hk hkn hkj
    have e : ∀ i, i < l.length → (l ++ [x]).getD i d = l.getD i d := fun i hi => by simp [List.getD_eq_getElem?_getD, List.getElem?_append_left hi]
    rw [e k (by omega), e _ (by omega)]
    exact h k hk (by omega)
  · intro k hk hkn hp h0
    omega

theorem downL_perm (l : List α) (i n : Nat) (hn : n ≤ l.length) : (downL d lt l i n).Perm l := by
  induction hm : n - i using Nat.strongRecOn generalizing l i with
  | _ m ih =>
    unfold downL
    split
    · rename_i h
      have h1 := kid_gt d lt l i n
      have h2 := kid_lt d lt l i n h
      split
      · exact (ih (n - kid d lt l i n) (by omega) _ _ (by rw [swapL_len]; exact hn) rfl).trans (swapL_perm d l _ _ (by omega) (by omega))
      · exact List.Perm.refl _
    · exact List.Perm.refl _
/-- What stands behind the first n stays. -/
theorem downL_last (l : List α) (i n k : Nat) (hn : n ≤ l.length) (hi : i < n ∨ n ≤ 2 * i + 1) (hk : n ≤ k) : (downL d lt l i n).getD k d = l.getD k d := by
  induction hm : n - i using Nat.strongRecOn generalizing l i with
  | _ m ih =>
    unfold downL
    split
    · rename_i h
      have h1 := kid_gt d lt l i n
      have h2 := kid_lt d lt l i n h
      split
      · rw [ih (n - kid d lt l i n) (by omega) _ _ (by rw [swapL_len]; exact hn) (by omega) rfl, swapL_get d l _ _ _ (by omega) (by omega), if_neg (by omega), if_neg (by omega)]
      · rfl
    · rfl
theorem downL_heap (hs : Swo lt) (l : List α) (i n : Nat) (hin : i < n) (hn : n ≤ l.length)
    (h1 : ∀ k, 0 < k → k < n → (k - 1) / 2 ≠ i → lt (l.getD k d) (l.getD ((k - 1) / 2) d) = false)
    (h2 : ∀ k, 0 < k → k < n → (k - 1) / 2 = i → 0 < i → lt (l.getD k d) (l.getD ((i - 1) / 2) d) = false) : IsHeap d lt (downL d lt l i n) n := by
  induction hm : n - i using Nat.strongRecOn generalizing l i with
  | _ m ih =>
    unfold downL
    split
    · rename_i h
      obtain ⟨j, hj⟩ : ∃ j, j = kid d lt l i n := ⟨_, rfl⟩
      have hk1 := kid_gt d lt l i n
      have hk2 := kid_lt d lt l i n h
      have hkid : j = 2 * i + 1 ∨ j = 2 * i + 2 := by rw [hj]; unfold kid; split <;> omega
      have hmin : ∀ k, 0 < k → k < n → (k - 1) / 2 = i → lt (l.getD k d) (l.getD j d) = false := by
        intro k hk hkn hp
        have hkk : k = 2 * i + 1 ∨ k = 2 * i + 2 := by omega
        rw [hj]
        unfold kid
        split
        · rename_i hc
          rcases hkk with rfl | rfl
          · exact hs.asym _ _ hc.2
          · exact hs.irrefl _
        · rename_i hc
          rcases hkk with rfl | rfl
          · exact hs.irrefl _
          · cases e : lt (l.getD (2 * i + 2) d) (l.getD (2 * i + 1) d) with
            | false => rfl
            | true => exact absurd ⟨hkn, e⟩ hc
      rw [← hj] at hk1 hk2 ⊢
      split
      · rename_i hlt
        have g : ∀ k, (swapL d l i j).getD k d = if k = j then l.getD i d else if k = i then l.getD j d else l.getD k d := fun k => swapL_get d l _ _ k (by omega) (by omega)
        refine ih (n - j) (by omega) _ j hk2 (by rw [swapL_len]; exact hn) ?_ ?_ rfl
        · intro k hk hkn hp
          rw [g, g]
          by_cases hkj : k = j
          · subst hkj
            have : (k - 1) / 2 = i := by omega
            rw [if_pos rfl, this, if_neg (by omega), if_pos rfl]
            exact hs.asym _ _ hlt
          · rw [if_neg hkj, if_neg hp]
            by_cases hpi : (k - 1) / 2 = i
            · rw [if_pos hpi, if_neg (by omega)]
              exact hmin k hk hkn hpi
            · rw [if_neg hpi]
              by_cases hki : k = i
              · subst hki
                rw [if_pos rfl]
                exact h2 j (by omega) hk2 (by omega) hk
              · rw [if_neg hki]
                exact h1 k hk hkn hpi
        · intro k hk hkn hp hj0
          have hpj : (j - 1) / 2 = i := by omega
          rw [g, g, hpj, if_neg (by omega), if_neg (by omega), if_neg (by omega), if_pos rfl]
          have := h1 k hk hkn (by omega)
          rw [hp] at this
          exact this
      · rename_i hlt
        have hlt' : lt (l.getD j d) (l.getD i d) = false := by simpa using hlt
        intro k hk hkn
        by_cases hp : (k - 1) / 2 = i
        · rw [hp]; exact hs.trans _ _ _ hlt' (hmin k hk hkn hp)
        · exact h1 k hk hkn hp
    · intro k hk hkn
      exact h1 k hk hkn (by omega)
/-- Taking the first one out: it is the least, and what is left is a heap of the others. -/
theorem popL_all (hs : Swo lt) (l : List α) (hl : l ≠ []) (h : IsHeap d lt l l.length) :
    (popL d lt l).length = l.length ∧ (popL d lt l).getD (l.length - 1) d = l.getD 0 d ∧ (l.getD 0 d :: (popL d lt l).take (l.length - 1)).Perm l ∧ IsHeap d lt ((popL d lt l).take (l.length - 1)) (l.length - 1) := by
  have hpos : 0 < l.length := List.length_pos_iff.2 hl
  have hp : (popL d lt l).Perm l := (downL_perm _ _ _ (by rw [swapL_len]; omega)).trans (swapL_perm d l _ _ hpos (by omega))
  have hlen : (popL d lt l).length = l.length := hp.length_eq
  have hlast : (popL d lt l).getD (l.length - 1) d = l.getD 0 d := by
    unfold popL
    rw [downL_last _ _ _ _ (by rw [swapL_len]; omega) (by omega) (Nat.le_refl _), swapL_get d l _ _ _ hpos (by omega), if_pos rfl]
  refine ⟨hlen, hlast, ?_, ?_⟩
  · have e : popL d lt l = (popL d lt l).take (l.length - 1) ++ [l.getD 0 d] := by
      rw [← hlast]
      have h1 : (popL d lt l).getD (l.length - 1) d = (popL d lt l)[l.length - 1]'(by omega) := by
        rw [List.getD_eq_getElem?_getD, List.getElem?_eq_getElem (by omega)]; rfl
      rw [h1]
      have := List.take_append_getElem (l := popL d lt l) (i := l.length - 1) (by omega)
      rw [this, List.take_of_length_le (by omega)]
    refine List.Perm.trans ?_ hp
    conv => rhs; rw [e]
    exact (List.perm_append_comm (l₁ := [l.getD 0 d]))
  · by_cases h1 : l.length = 1
    · intro k hk hkn; omega
    · have hh : IsHeap d lt (popL d lt l) (l.length - 1) := by
        unfold popL
        refine downL_heap hs _ _ _ (by omega) (by rw [swapL_len]; omega) ?_ ?_
        · intro k hk hkn hp0
          rw [swapL_get d l _ _ _ hpos (by omega), swapL_get d l _ _ _ hpos (by omega), if_neg (by omega), if_neg (by omega), if_neg (by omega), if_neg (by omega)]
          exact h k hk (by omega)
        · intro k hk hkn hp0 h00
          omega
      intro k hk hkn
      have e : ∀ i, i < l.length - 1 → ((popL d lt l).take (l.length - 1)).getD i d = (popL d lt l).getD i d := fun i hi => by
        simp [List.getD_eq_getElem?_getD, hi]
      rw [e k hkn, e _ (by omega)]
      exact hh k hk hkn
end
end Go.Proofs.Ytmipfmeafbeegaa
