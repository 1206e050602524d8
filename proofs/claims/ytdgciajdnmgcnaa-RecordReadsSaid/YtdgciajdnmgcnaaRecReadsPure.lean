/- What the reference reads is what is read: over numbers and lists alone. -/
import Derived.Test.YtdgciajdnmgcnaaRecMixPure
namespace Go.Proofs.Ytdgciajdnmgcnaa
open Go.RowKit
set_option linter.unusedVariables false

theorem part_sec {s : Int} {k i : Nat} {L : List Int} (hI : IsB L) (hs : (sec L).err = 0) (hp : partOK s (k : Int) i L = true) :
    L = sealed 113 s ([(i : Int), (k : Int)] ++ (frm L).data) ∧ (i + 1 < k → (frm L).data.length = 480) ∧ (frm L).data.length ≤ 480 ∧ i < k := by
  unfold partOK at hp
  simp only [Bool.and_eq_true, beq_iff_eq] at hp
  obtain ⟨⟨⟨h0, h1⟩, h2⟩, h3⟩ := hp
  unfold frm at h0 h1 h2 h3 ⊢
  by_cases hg : (sec L).kind = 113 ∧ 2 ≤ (sec L).pay.length ∧ mayB (sec L).turn (bat (sec L).pay 0) (bat (sec L).pay 1) ((sec L).pay.drop 2).length = true
  · obtain ⟨g1, g2, g3⟩ := hg
    rw [frm_good hs g1 g2 g3] at h1 h2 h3 ⊢
    simp only at h1 h2 h3
    obtain ⟨s1, s2, s3⟩ := sealed_of_sec hI hs (by rw [g1]; decide)
    rw [mayB_iff', h2, h3] at g3
    have hpay : (sec L).pay = [(i : Int), (k : Int)] ++ (sec L).pay.drop 2 := by
      rw [← h2, ← h3]
      match hq : (sec L).pay, g2 with
      | a :: b :: r, _ => simp [bat]
    refine ⟨?_, ?_, ?_, ?_⟩
    · show L = sealed 113 s ([(i : Int), (k : Int)] ++ (sec L).pay.drop 2)
      rw [← hpay, ← h1, ← g1, s3]
    · intro hi; show ((sec L).pay.drop 2).length = 480; omega
    · show ((sec L).pay.drop 2).length ≤ 480; omega
    · omega
  · exfalso
    have : frmS (sec L) = ⟨0, 0, 0, [], 11⟩ := by unfold frmS; rw [if_neg (by simp [hs]), if_neg hg]
    rw [this] at h0
    simp at h0
theorem datas_len {s : Int} {k : Nat} {Ls : List (List Int)} (hk : Ls.length = k) (hI : ∀ x ∈ Ls, IsB x) (hb : ∀ x ∈ Ls, (sec x).err = 0) (hp : ∀ (i : Nat) (L : List Int), Ls[i]? = some L → partOK s (k : Int) i L = true) : ∀ j, j + 1 ≤ k → (datas Ls j).length = 480 * j
  | 0, _ => by simp [datas]
  | j + 1, h => by
    have hL : Ls[j]? = some Ls[j] := List.getElem?_eq_getElem (by omega)
    rw [datas_step hL, List.length_append, datas_len hk hI hb hp j (by omega), (part_sec (hI _ (List.mem_of_getElem? hL)) (hb _ (List.mem_of_getElem? hL)) (hp j _ hL)).2.1 (by omega)]
    omega
theorem rec_of_parts {s : Int} {n : Nat} {Ls : List (List Int)} (hn : n ≤ 4096) (hk : Ls.length = cnt n) (hI : ∀ x ∈ Ls, IsB x) (hb : ∀ x ∈ Ls, (sec x).err = 0) (hp : ∀ (i : Nat) (L : List Int), Ls[i]? = some L → partOK s (cnt n : Int) i L = true) (hd : (datas Ls Ls.length).length = n) :
    recL s (datas Ls Ls.length) = Ls := by
  apply List.ext_getElem?
  intro i
  by_cases hi : i < Ls.length
  · have hL : Ls[i]? = some Ls[i] := List.getElem?_eq_getElem hi
    obtain ⟨p1, p2, p3, p4⟩ := part_sec (hI _ (List.mem_of_getElem? hL)) (hb _ (List.mem_of_getElem? hL)) (hp i _ hL)
    rw [List.getElem?_eq_getElem (by rw [recL_length, hd, ← hk]; exact hi), recL_get, hL]
    congr 1
    rw [hd]
    conv => rhs; rw [p1]
    congr 1
    unfold partL
    congr 1
    have hsp := datas_split hL
    rw [hsp, List.drop_append_of_le_length (by rw [datas_len hk hI hb hp i (by omega)]; exact Nat.le_refl _)]
    rw [List.drop_of_length_le (by rw [datas_len hk hI hb hp i (by omega)]; exact Nat.le_refl _), List.nil_append]
    by_cases hl : i + 1 < cnt n
    · rw [List.take_append_of_le_length (by rw [p2 hl]; exact Nat.le_refl _), List.take_of_length_le (by rw [p2 hl]; exact Nat.le_refl _)]
    · rw [List.drop_of_length_le (by omega)]
      simp
      exact List.take_of_length_le p3
  · rw [List.getElem?_eq_none (by rw [recL_length, hd, ← hk]; omega), List.getElem?_eq_none (by omega)]
/-- The error of the reference's reading is that of the reading. -/
theorem readErr_iff {s : Int} {n : Nat} {Ls : List (List Int)} (hs : 0 < s ∧ s < 18446744073709551616) (hn : n ≤ 4096) (hk : Ls.length = cnt n) (hI : ∀ x ∈ Ls, IsB x) (hb : badAny Ls = false) (hdB : IsB (datas Ls Ls.length)) :
    readErr s (n : Int) Ls = (if (datas Ls Ls.length).length = n then (if recL s (datas Ls Ls.length) = Ls then 0 else 11) else 11) := by
  have hc := cnt_pos hn
  have hb' : ∀ x ∈ Ls, (sec x).err = 0 := by
    intro x hx
    have := hb; unfold badAny at this; rw [List.any_eq_false] at this
    simpa using this x hx
  unfold readErr
  rw [cntI_nat, if_neg (by omega), if_neg (by rw [hk, hb]; simp)]
  by_cases hd : (datas Ls Ls.length).length = n
  · rw [if_pos hd]
    by_cases hr : recL s (datas Ls Ls.length) = Ls
    · rw [if_pos hr, if_pos]
      refine ⟨fun i L hL => ?_, by rw [hd]⟩
      rw [← hr] at hL
      obtain ⟨h1, rfl⟩ := rec_get hL
      unfold partOK
      rw [frm_rec hs hdB (by omega) h1, hd]
      simp
    · rw [if_neg hr, if_neg]
      rintro ⟨h1, _⟩
      exact hr (rec_of_parts hn hk hI hb' h1 hd)
  · rw [if_neg hd, if_neg]
    rintro ⟨_, h2⟩
    omega
end Go.Proofs.Ytdgciajdnmgcnaa
