/- Sectors of two records, or in another order, are no record: over numbers and lists alone. -/
import Derived.Test.YtdgciajdnmgcnaaRecBackPure
namespace Go.Proofs.Ytdgciajdnmgcnaa
open Go.RowKit
set_option linter.unusedVariables false

theorem rec_mem_ok {s : Int} {l : List Int} (hs : 0 < s ∧ s < 18446744073709551616) (hl : IsB l) (hn : l.length ≤ 4096) : ∀ x ∈ recL s l, (sec x).err = 0 := by
  intro x hx
  have := badAny_rec hs hl hn
  unfold badAny at this
  rw [List.any_eq_false] at this
  simpa using this x hx
theorem badAny_of {Ls : List (List Int)} (h : ∀ x ∈ Ls, (sec x).err = 0) : badAny Ls = false := by
  unfold badAny
  rw [List.any_eq_false]
  intro x hx
  simp [h x hx]
theorem mem_set_or {α : Type} {l : List α} {i : Nat} {a x : α} (h : x ∈ l.set i a) : x ∈ l ∨ x = a := by
  rcases List.mem_or_eq_of_mem_set h with h | h
  · exact .inl h
  · exact .inr h
/-- One part that may not be: no record. -/
theorem readErr_11 {s : Int} {n : Nat} {Ls : List (List Int)} {i : Nat} {L : List Int} (hs : 0 < s) (hn : n ≤ 4096) (hlen : Ls.length = cnt n) (hb : ∀ x ∈ Ls, (sec x).err = 0) (hL : Ls[i]? = some L) (hp : partOK s (cnt n : Int) i L = false) : readErr s (n : Int) Ls = 11 := by
  have hc := cnt_pos hn
  unfold readErr
  rw [cntI_nat, if_neg (by omega), if_neg (by rw [hlen, badAny_of hb]; simp), if_neg]
  rintro ⟨h, _⟩
  rw [h i L hL] at hp
  cases hp
theorem mix_other {s o : Int} {a b : List Int} {i : Nat} {M : List Int} (hs : 0 < s ∧ s < 18446744073709551616) (ho : 0 < o ∧ o < 18446744073709551616) (ha : IsB a) (hb : IsB b) (hna : a.length ≤ 4096) (hnb : b.length ≤ 4096) (hi : i < cnt a.length) (hM : (recL o b)[i]? = some M) (hne : s ≠ o) :
    readErr s (a.length : Int) ((recL s a).set i M) = 11 := by
  obtain ⟨h1, rfl⟩ := rec_get hM
  refine readErr_11 (i := i) (L := sealed 113 o (partL b (cnt b.length) i)) hs.1 hna (by rw [List.length_set, recL_length]) ?_ (by rw [List.getElem?_set, if_pos rfl, if_pos (by rw [recL_length]; exact hi)]) ?_
  · intro x hx
    rcases mem_set_or hx with h | rfl
    · exact rec_mem_ok hs ha hna x h
    · exact rec_mem_ok ho hb hnb _ (List.mem_of_getElem? hM)
  · unfold partOK
    rw [frm_rec ho hb hnb h1]
    simp
    intro e; exact absurd e.symm hne
theorem datas_split {Ls : List (List Int)} {i : Nat} {L : List Int} (h : Ls[i]? = some L) : datas Ls Ls.length = datas Ls i ++ ((frm L).data ++ ((Ls.drop (i + 1)).map fun L => (frm L).data).flatten) := by
  have hi := (List.getElem?_eq_some_iff.1 h).1
  have hg := (List.getElem?_eq_some_iff.1 h).2
  unfold datas
  rw [List.take_length]
  conv => lhs; rw [← List.take_append_drop i Ls, List.map_append, List.flatten_append, List.drop_eq_getElem_cons hi, hg]
  simp
theorem mix_same {s o : Int} {a b : List Int} {i : Nat} {M : List Int} (hs : 0 < s ∧ s < 18446744073709551616) (ho : 0 < o ∧ o < 18446744073709551616) (ha : IsB a) (hb : IsB b) (hna : a.length ≤ 4096) (hnb : b.length ≤ 4096) (hi : i < cnt a.length) (hM : (recL o b)[i]? = some M)
    (h0 : readErr s (a.length : Int) ((recL s a).set i M) = 0) (hv : datas ((recL s a).set i M) ((recL s a).set i M).length = a) : (recL s a)[i]? = some M := by
  obtain ⟨h1, rfl⟩ := rec_get hM
  have hgM : ((recL s a).set i (sealed 113 o (partL b (cnt b.length) i)))[i]? = some (sealed 113 o (partL b (cnt b.length) i)) := by rw [List.getElem?_set, if_pos rfl, if_pos (by rw [recL_length]; exact hi)]
  have hgL : (recL s a)[i]? = some (sealed 113 s (partL a (cnt a.length) i)) := by rw [List.getElem?_eq_getElem (by rw [recL_length]; exact hi), recL_get]
  have hpk : partOK s (cntI a.length) i (sealed 113 o (partL b (cnt b.length) i)) = true := by
    unfold readErr at h0
    split at h0
    · omega
    split at h0
    · omega
    split at h0
    · rename_i h; exact h.1 i _ hgM
    · omega
  unfold partOK at hpk
  rw [frm_rec ho hb hnb h1, cntI_nat] at hpk
  simp at hpk
  obtain ⟨he, hc⟩ := hpk
  have hd1 := datas_split hgM
  have hd2 := datas_split hgL
  rw [hv] at hd1
  rw [recL_length, datas_full hs ha hna] at hd2
  have hpre : datas ((recL s a).set i (sealed 113 o (partL b (cnt b.length) i))) i = datas (recL s a) i := by unfold datas; rw [List.take_set_of_le (Nat.le_refl _)]
  have hpost : ((recL s a).set i (sealed 113 o (partL b (cnt b.length) i))).drop (i + 1) = (recL s a).drop (i + 1) := by rw [List.drop_set_of_lt (by omega)]
  rw [hpre, hpost] at hd1
  have hd3 := List.append_cancel_left (hd1.symm.trans hd2)
  have hd4 := List.append_cancel_right hd3
  rw [frm_rec ho hb hnb h1, frm_rec hs ha hna hi] at hd4
  rw [hgL]
  have hd5 : (b.drop (480 * i)).take 480 = (a.drop (480 * i)).take 480 := hd4
  unfold partL
  rw [he, hd5]
  have hc' : cnt b.length = cnt a.length := by omega
  rw [hc']
theorem swap_err {s : Int} {a : List Int} {i k : Nat} {Li Lk : List Int} (hs : 0 < s ∧ s < 18446744073709551616) (ha : IsB a) (hna : a.length ≤ 4096) (hi : (recL s a)[i]? = some Li) (hk : (recL s a)[k]? = some Lk) (hne : i ≠ k) :
    readErr s (a.length : Int) (((recL s a).set i Lk).set k Li) = 11 := by
  obtain ⟨h1, rfl⟩ := rec_get hi
  obtain ⟨h2, rfl⟩ := rec_get hk
  refine readErr_11 (i := i) (L := sealed 113 s (partL a (cnt a.length) k)) hs.1 hna (by rw [List.length_set, List.length_set, recL_length]) ?_ (by rw [List.getElem?_set, if_neg (Ne.symm hne), List.getElem?_set, if_pos rfl, if_pos (by rw [recL_length]; exact h1)]) ?_
  · intro x hx
    rcases mem_set_or hx with h | rfl
    · rcases mem_set_or h with h | rfl
      · exact rec_mem_ok hs ha hna x h
      · exact rec_mem_ok hs ha hna _ (List.mem_of_getElem? hk)
    · exact rec_mem_ok hs ha hna _ (List.mem_of_getElem? hi)
  · unfold partOK
    rw [frm_rec hs ha hna h2]
    simp
    omega
theorem swap_id {s : Int} {a : List Int} {i : Nat} {Li : List Int} (hi : (recL s a)[i]? = some Li) : ((recL s a).set i Li).set i Li = recL s a := by
  obtain ⟨h, he⟩ := List.getElem?_eq_some_iff.1 hi
  rw [List.set_set, ← he, List.set_getElem_self]
end Go.Proofs.Ytdgciajdnmgcnaa
