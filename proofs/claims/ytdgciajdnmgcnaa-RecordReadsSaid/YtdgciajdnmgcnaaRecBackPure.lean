/- What sectors are as the record of a serial number and a length, over numbers and lists alone; what is written is read, with its own serial number and length alone. -/
import Derived.Test.YtdgciajdnmgcnaaRecPart
import Derived.Test.YtdgciajdnmgcnaaSecPure
namespace Go.Proofs.Ytdgciajdnmgcnaa
open Go.RowKit
set_option linter.unusedVariables false

theorem mayB_iff' {t a b : Int} {n : Nat} : mayB t a b n = true ↔ (t ≠ 0 ∧ ¬ 9 < b ∧ ¬ b ≤ a ∧ ((a < b - 1 ∧ n = 480) ∨ (¬ a < b - 1 ∧ n ≤ 480 ∧ (0 < n ∨ b = 1)))) := by
  unfold mayB
  by_cases h : a < b - 1
  · simp [h]; omega
  · simp [h]; omega
def partOK (s f : Int) (i : Nat) (L : List Int) : Bool := (frm L).err == 0 && (frm L).age == s && (frm L).first == (i : Int) && (frm L).of == f
def goodTo (s f : Int) (Ls : List (List Int)) (j : Nat) : Prop := ∀ (i : Nat) (L : List Int), i < j → Ls[i]? = some L → partOK s f i L = true
def datas (Ls : List (List Int)) (j : Nat) : List Int := ((Ls.take j).map fun L => (frm L).data).flatten
def badAny (Ls : List (List Int)) : Bool := Ls.any fun L => (sec L).err != 0

theorem goodTo_step {s f : Int} {Ls : List (List Int)} {j : Nat} {L : List Int} (h : goodTo s f Ls j) (hL : Ls[j]? = some L) (hp : partOK s f j L = true) : goodTo s f Ls (j + 1) := by
  intro i M hi hM
  by_cases he : i = j
  · subst he; rw [hL] at hM; cases hM; exact hp
  · exact h i M (by omega) hM
theorem datas_step {Ls : List (List Int)} {j : Nat} {L : List Int} (hL : Ls[j]? = some L) : datas Ls (j + 1) = datas Ls j ++ (frm L).data := by
  unfold datas; rw [List.take_add_one, hL]; simp

theorem frm_rec {s : Int} {l : List Int} {i : Nat} (hs : 0 < s ∧ s < 18446744073709551616) (hl : IsB l) (hn : l.length ≤ 4096) (hi : i < cnt l.length) :
    frm (sealed 113 s (partL l (cnt l.length) i)) = ⟨s, i, cnt l.length, (l.drop (480 * i)).take 480, 0⟩ := by
  have hc := cnt_pos hn
  have hce := cnt_eq hn
  have hp : (partL l (cnt l.length) i).length ≤ 496 := by rw [partL_length]; omega
  have hsec := sec_sealed (k := 113) (t := s) (l := partL l (cnt l.length) i) known113 (by omega) hs.2 hp (partL_isB hl (by omega) (by omega))
  unfold frm
  rw [hsec]
  have h0 : bat (partL l (cnt l.length) i) 0 = (i : Int) := rfl
  have h1 : bat (partL l (cnt l.length) i) 1 = (cnt l.length : Int) := rfl
  have h2 : (partL l (cnt l.length) i).drop 2 = (l.drop (480 * i)).take 480 := rfl
  rw [frm_good rfl rfl (by show 2 ≤ (partL l (cnt l.length) i).length; rw [partL_length]; omega) ?_]
  · show Frm.mk s (bat (partL l (cnt l.length) i) 0) (bat (partL l (cnt l.length) i) 1) ((partL l (cnt l.length) i).drop 2) 0 = _
    rw [h0, h1, h2]
  · show mayB s (bat (partL l (cnt l.length) i) 0) (bat (partL l (cnt l.length) i) 1) ((partL l (cnt l.length) i).drop 2).length = true
    rw [h0, h1, h2, mayB_iff', List.length_take, List.length_drop]
    omega
theorem rec_get {s : Int} {l : List Int} {i : Nat} {L : List Int} (h : (recL s l)[i]? = some L) : i < cnt l.length ∧ L = sealed 113 s (partL l (cnt l.length) i) := by
  obtain ⟨hi, he⟩ := List.getElem?_eq_some_iff.1 h
  rw [recL_get] at he
  rw [recL_length] at hi
  exact ⟨hi, he.symm⟩
theorem datas_rec {s : Int} {l : List Int} (hs : 0 < s ∧ s < 18446744073709551616) (hl : IsB l) (hn : l.length ≤ 4096) : ∀ j, j ≤ cnt l.length → datas (recL s l) j = l.take (480 * j)
  | 0, _ => by simp [datas]
  | j + 1, h => by
    rw [datas_step (L := sealed 113 s (partL l (cnt l.length) j)) (by rw [List.getElem?_eq_getElem (by rw [recL_length]; omega), recL_get]), datas_rec hs hl hn j (by omega), frm_rec hs hl hn (by omega)]
    show l.take (480 * j) ++ (l.drop (480 * j)).take 480 = _
    rw [show 480 * (j + 1) = 480 * j + 480 by omega, List.take_add]
theorem datas_full {s : Int} {l : List Int} (hs : 0 < s ∧ s < 18446744073709551616) (hl : IsB l) (hn : l.length ≤ 4096) : datas (recL s l) (cnt l.length) = l := by
  rw [datas_rec hs hl hn _ (Nat.le_refl _), List.take_of_length_le]
  have := cnt_eq hn
  omega
theorem badAny_rec {s : Int} {l : List Int} (hs : 0 < s ∧ s < 18446744073709551616) (hl : IsB l) (hn : l.length ≤ 4096) : badAny (recL s l) = false := by
  unfold badAny
  rw [List.any_eq_false]
  intro x hx
  obtain ⟨i, hi⟩ := List.mem_iff_getElem?.1 hx
  obtain ⟨h1, rfl⟩ := rec_get hi
  have hc := cnt_pos hn
  have hp : (partL l (cnt l.length) i).length ≤ 496 := by rw [partL_length]; omega
  rw [sec_sealed (k := 113) (t := s) known113 (by omega) hs.2 hp (partL_isB hl (by omega) (by omega))]
  simp
open Classical in
/-- The error of a reading. -/
noncomputable def readErr (s n : Int) (Ls : List (List Int)) : Int :=
  if s = 0 ∨ cntI n = 0 then 1
  else if (Ls.length : Int) ≠ cntI n ∨ badAny Ls = true then 5
  else if (∀ (i : Nat) (L : List Int), Ls[i]? = some L → partOK s (cntI n) i L = true) ∧ ((datas Ls Ls.length).length : Int) = n then 0 else 11
theorem readErr_rec {s o m : Int} {l : List Int} (hs : 0 < s ∧ s < 18446744073709551616) (hl : IsB l) (hn : l.length ≤ 4096) : readErr o m (recL s l) = 0 ↔ (o = s ∧ m = l.length) := by
  have hc := cnt_pos hn
  unfold readErr
  constructor
  · intro h
    split at h
    · omega
    split at h
    · omega
    split at h
    · rename_i h1 h2 h3
      have h4 := h3.1 0 _ (by rw [List.getElem?_eq_getElem (by rw [recL_length]; omega), recL_get])
      unfold partOK at h4
      rw [frm_rec hs hl hn (by omega)] at h4
      simp at h4
      have h5 := h3.2
      rw [recL_length, datas_full hs hl hn] at h5
      exact ⟨h4.1.symm, h5.symm⟩
    · omega
  · rintro ⟨rfl, rfl⟩
    rw [if_neg (by rw [cntI_nat]; omega), if_neg (by rw [recL_length, cntI_nat, badAny_rec hs hl hn]; simp), if_pos]
    refine ⟨fun i L hi => ?_, by rw [recL_length, datas_full hs hl hn]⟩
    obtain ⟨h1, rfl⟩ := rec_get hi
    unfold partOK
    rw [frm_rec hs hl hn h1, cntI_nat]
    simp
end Go.Proofs.Ytdgciajdnmgcnaa
