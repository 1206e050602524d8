/- What a sealed sector says, and what a good sector is sealed again: plain facts on lists; no condition beside those that are named. -/
import Derived.Test.YtdgciajdnmgcnaaOpen
namespace Go.Proofs.Ytdgciajdnmgcnaa
open Go.RowKit

theorem unle_le (n : Nat) : ∀ v : Int, 0 ≤ v → v < 256 ^ n → unle (le n v) = v := by
  induction n with
  | zero => intro v h0 h1; simp at h1; simp [le, unle]; omega
  | succ n ih =>
    intro v h0 h1
    rw [Int.pow_succ] at h1
    simp only [le, unle]
    rw [ih (v / 256) (by omega) (by omega)]
    omega
theorem le_unle {l : List Int} (h : IsB l) : le l.length (unle l) = l := by
  induction l with
  | nil => rfl
  | cons x l ih =>
    have hx := h x (by simp)
    have := ih (fun y hy => h y (by simp [hy]))
    simp only [List.length_cons, le, unle]
    rw [show (x + 256 * unle l) % 256 = x by omega, show (x + 256 * unle l) / 256 = unle l by omega, this]
theorem le_unle_n {l : List Int} {n : Nat} (h : IsB l) (hn : l.length = n) : le n (unle l) = l := by subst hn; exact le_unle h
theorem known_pos {k : Int} (h : knownB k = true) : k ≠ 0 := by rintro rfl; simp [knownB] at h
theorem known_b {k : Int} (h : knownB k = true) : 0 ≤ k ∧ k < 256 := by
  simp only [knownB, Bool.or_eq_true, beq_iff_eq] at h; omega
theorem mid_of {α : Type} (X Y Z : List α) {n m : Nat} (hX : X.length = n) (hY : Y.length = m) : ((X ++ (Y ++ Z)).drop n).take m = Y := by
  subst hX; subst hY
  rw [List.drop_left, List.take_left]

theorem sec_sealed {k t : Int} {l : List Int} (hk : knownB k = true) (ht0 : 0 ≤ t) (ht : t < 18446744073709551616) (hl : l.length ≤ 496) (hI : IsB l) : sec (sealed k t l) = ⟨k, t, l, 0⟩ := by
  have hlen := sealed_length k t hl
  have hh := sealHead_length k t hl
  have e0 : sealed k t l = [k, 0] ++ (le 2 l.length ++ (le 8 t ++ (l ++ (List.replicate (496 - l.length) 0 ++ le 4 (more 0 (sealHead k t l) : Nat))))) := by
    simp [sealed, sealHead]
  have hml := more_lt (s := 0) (by decide) (sealHead_isB (turn := t) (known_b hk) hI)
  have a1 : bat (sealed k t l) 0 = k := by rw [e0]; rfl
  have a2 : bat (sealed k t l) 1 = 0 := by rw [e0]; rfl
  have a3 : unle (((sealed k t l).drop 2).take 2) = l.length := by
    rw [e0, mid_of (n := 2) _ _ _ rfl (le_length _ _)]; exact unle_le 2 _ (by omega) (by omega)
  have a4 : unle (((sealed k t l).drop 4).take 8) = t := by
    rw [e0, ← List.append_assoc, mid_of _ _ _ (by simp [le_length]) (le_length _ _)]; exact unle_le 8 _ ht0 (by omega)
  have a5 : ((sealed k t l).drop 12).take l.length = l := by
    rw [e0, ← List.append_assoc, ← List.append_assoc ([k, 0] ++ _), mid_of _ _ _ (by simp [le_length]) rfl]
  have a6 : ((sealed k t l).drop (12 + l.length)).take (496 - l.length) = List.replicate (496 - l.length) 0 := by
    rw [e0, ← List.append_assoc, ← List.append_assoc ([k, 0] ++ _), ← List.append_assoc ([k, 0] ++ _ ++ _), mid_of _ _ _ (by simp [le_length]; omega) (by simp)]
  have a7 : (sealed k t l).take 508 = sealHead k t l := by rw [sealed, ← hh, List.take_left]
  have a8 : unle (((sealed k t l).drop 508).take 4) = (more 0 (sealHead k t l) : Nat) := by
    have : (sealed k t l).drop 508 = le 4 (more 0 (sealHead k t l) : Nat) := by rw [sealed, ← hh, List.drop_left]
    rw [this, List.take_of_length_le (by rw [le_length]; exact Nat.le_refl _)]
    exact unle_le 4 _ (by omega) (by omega)
  unfold sec
  rw [if_neg (by omega), if_neg, if_neg, if_neg, a1, a3, a4, Int.toNat_natCast, a5]
  · rw [secForm, a1, a2, a3, Int.toNat_natCast, a6, hk]; simp; omega
  · rw [a7, a8]; simp
  · rw [e0]; simp [known_pos hk]

theorem secForm_ok {l : List Int} (h : secForm l = true) : knownB (bat l 0) = true ∧ bat l 1 = 0 ∧ unle ((l.drop 2).take 2) ≤ 496 ∧ ((l.drop (12 + (unle ((l.drop 2).take 2)).toNat)).take (496 - (unle ((l.drop 2).take 2)).toNat)).all (· == 0) = true := by
  simp only [secForm, Bool.and_eq_true, decide_eq_true_eq, beq_iff_eq] at h
  exact ⟨h.1.1.1, h.1.1.2, h.1.2, h.2⟩
theorem all_zero_eq {l : List Int} (h : l.all (· == 0) = true) : l = List.replicate l.length 0 := by
  rw [List.eq_replicate_iff]; refine ⟨rfl, fun x hx => ?_⟩
  rw [List.all_eq_true] at h; simpa using h x hx
theorem bat_cons2 {l : List Int} (h : 2 ≤ l.length) : l.take 2 = [bat l 0, bat l 1] := by
  match l, h with
  | x :: y :: l, _ => rfl
theorem take_split {α : Type} (l : List α) (n m : Nat) : l.take (n + m) = l.take n ++ (l.drop n).take m := by rw [List.take_add]

theorem sealed_of_sec {l : List Int} (hI : IsB l) (he : (sec l).err = 0) (hk : (sec l).kind ≠ 0) :
    knownB (sec l).kind = true ∧ (sec l).pay.length ≤ 496 ∧ sealed (sec l).kind (sec l).turn (sec l).pay = l := by
  by_cases h1 : l.length ≠ 512
  · exact absurd he (by unfold sec; rw [if_pos h1]; simp)
  by_cases h2 : l.all (· == 0) = true
  · exact absurd (by unfold sec; rw [if_neg h1, if_pos h2]) hk
  by_cases h3 : unle ((l.drop 508).take 4) ≠ (more 0 (l.take 508) : Nat)
  · exact absurd he (by unfold sec; rw [if_neg h1, if_neg h2, if_pos h3]; simp)
  by_cases h4 : secForm l = false
  · exact absurd he (by unfold sec; rw [if_neg h1, if_neg h2, if_neg h3, if_pos h4]; simp)
  have e : sec l = ⟨bat l 0, unle ((l.drop 4).take 8), (l.drop 12).take (unle ((l.drop 2).take 2)).toNat, 0⟩ := by
    unfold sec; rw [if_neg h1, if_neg h2, if_neg h3, if_neg h4]
  rw [e]
  obtain ⟨f1, f2, f3, f4⟩ := secForm_ok (by cases hf : secForm l with
    | true => rfl
    | false => exact absurd hf h4)
  have hlen : l.length = 512 := by omega
  have hl2 : ((l.drop 2).take 2).length = 2 := by simp; omega
  have hr := unle_range (isB_take (isB_drop hI 2) 2)
  rw [hl2] at hr
  obtain ⟨N, hN⟩ := Int.eq_ofNat_of_zero_le hr.1
  rw [hN] at f3 f4 ⊢
  simp only [Int.toNat_natCast] at f4 ⊢
  have hN' : N ≤ 496 := by omega
  have hpl : ((l.drop 12).take N).length = N := by simp; omega
  refine ⟨f1, by rw [hpl]; exact hN', ?_⟩
  have hz := all_zero_eq f4
  have hzl : ((l.drop (12 + N)).take (496 - N)).length = 496 - N := by simp; omega
  rw [hzl] at hz
  have hhead : sealHead (bat l 0) (unle ((l.drop 4).take 8)) ((l.drop 12).take N) = l.take 508 := by
    unfold sealHead
    rw [hpl, ← hN, le_unle_n (isB_take (isB_drop hI 2) 2) hl2, le_unle_n (isB_take (isB_drop hI 4) 8) (by simp; omega), ← hz, ← f2, ← bat_cons2 (by omega)]
    rw [← take_split l 2 2, ← take_split l 4 8, ← take_split l 12 N, ← take_split l (12 + N) (496 - N)]
    congr 1; omega
  rw [sealed, hhead]
  have h3' : unle ((l.drop 508).take 4) = (more 0 (l.take 508) : Nat) := by simpa using h3
  rw [← h3', le_unle_n (isB_take (isB_drop hI 508) 4) (by simp; omega), ← take_split l 508 4, List.take_of_length_le (by omega)]
end Go.Proofs.Ytdgciajdnmgcnaa
