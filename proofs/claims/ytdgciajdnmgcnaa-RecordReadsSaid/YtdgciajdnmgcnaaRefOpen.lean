/- Contracts: dunnageref01.Zero, Get; dunnageref03.Open; whatever bytes are handed in. -/
import Derived.Test.YtdgciajdnmgcnaaOpen
import Derived.Test.YtdgciajdnmgcnaaRefSeal
namespace Go.Proofs.Ytdgciajdnmgcnaa
open Go.RowKit

set_option maxHeartbeats 1000000 in
theorem refzero_any (A : Option Addr) (n c : Nat) (l : List Int) (w : World) (hn : l.length = n) (h : Rd w A (bys l)) (hl : n ≤ 4611686018427387904) :
    Calls Try.prog 51 #[.slice A n c] w fun e w' => e = .returned (.bool (l.all (· == 0))) ∧ w = w' := by
  subst hn
  go_enter Try.func51, Try.ntmps51
  go_wp2_with fail
  go_loop [3] (fun i => ∃ j : Nat, j ≤ l.length ∧ i = .int .i64 j ∧ Hid (∀ x ∈ l.take j, x = 0)) (fun i => l.length - (intOf i).toNat)
  case atStart => exact ⟨0, by omega, rfl, by intro x hx; simp at hx⟩
  case round =>
    obtain ⟨j, hj, rfl, hz⟩ := hrel
    by_cases hlt : j < l.length
    · obtain ⟨b, o, hA, hc⟩ := h.at_ (j := j) (by rw [bys_length]; exact hlt)
      subst hA
      simp only [bys, List.getElem_map] at hc
      obtain ⟨x, hx⟩ : ∃ x, x = l[j] := ⟨_, rfl⟩
      rw [← hx] at hc
      have HX := Lib.hid hx
      clear hx
      by_cases h0 : x = 0
      · have e0 : (x != 0) = false := by rw [h0]; rfl
        have hz2 : Hid (∀ y ∈ l.take (j + 1), y = 0) := by
          rw [List.take_succ_eq_append_getElem hlt]; intro y hy
          rcases List.mem_append.1 hy with hy | hy
          · exact hz.out y hy
          · simp at hy; rw [hy, ← HX.out]; exact h0
        clear h0
        go_wp2
        go_round
        case rel => exact ⟨j + 1, by omega, by go_num, hz2⟩
        case measure => simp [intOf]; omega
      · have e0 : (x != 0) = true := by simpa using h0
        have hfin : l.all (· == 0) = false := by
          rw [List.all_eq_false]; exact ⟨x, by rw [HX.out]; exact List.getElem_mem hlt, by simpa using h0⟩
        have HF := Lib.hid hfin
        clear hfin h0
        go_wp2
        go_ret
        exact ⟨by rw [HF.out]; rfl, rfl⟩
    · obtain rfl : j = l.length := by omega
      have hfin : l.all (· == 0) = true := by
        rw [List.all_eq_true]; intro x hx; have := hz.out; rw [List.take_length] at this; simpa using this x hx
      have HF := Lib.hid hfin
      clear hfin
      go_wp2
      go_ret
      exact ⟨by rw [HF.out]; rfl, rfl⟩

/-- The number that the highest bytes are. -/
theorem unle_cons_drop (l : List Int) (j : Nat) (h : j < l.length) : unle (l.drop j) = bat l j + 256 * unle (l.drop (j + 1)) := by
  rw [List.drop_eq_getElem_cons h, unle]
  congr 1
  simp [bat, List.getD_eq_getElem?_getD, List.getElem?_eq_getElem h]
theorem isB_drop' {l : List Int} (h : IsB l) (n : Nat) : IsB (l.drop n) := fun x hx => h x (List.mem_of_mem_drop hx)

theorem pow256_le {k n : Nat} (h : k ≤ n) : (256 : Int) ^ k ≤ 256 ^ n := by
  have h1 := Nat.pow_le_pow_right (n := 256) (by decide) h
  have e : ∀ m : Nat, ((256 : Int) ^ m) = ((256 ^ m : Nat) : Int) := fun m => by simp
  rw [e, e]; exact Int.ofNat_le.2 h1
set_option maxHeartbeats 2000000 in
theorem refget_ok (b o c : Nat) (l : List Int) (at_ n m : Nat) (w : World) (hn : l.length = m) (h : Rd w (some ⟨b, o, none⟩) (bys l)) (hI : IsB l) (h1 : 1 ≤ n) (h8 : n ≤ 8) (hat : at_ + n ≤ m) (hm : m ≤ 4611686018427387904) :
    Calls Try.prog 52 #[.slice (some ⟨b, o, none⟩) m c, .int .i64 at_, .int .i64 n] w fun e w' =>
      e = .returned (.tuple #[.int .u64 (unle ((l.drop at_).take n)), .int .i64 0]) ∧ w = w' := by
  obtain ⟨L, hL⟩ : ∃ L, L = (l.drop at_).take n := ⟨_, rfl⟩
  have hLl : L.length = n := by rw [hL]; simp; omega
  have hLI : IsB L := by rw [hL]; exact isB_take (isB_drop hI at_) n
  have hR : Rd w (some ⟨b, o + at_, none⟩) (bys L) := by rw [hL, bys_take, bys_drop]; exact h.part at_ n
  rw [← hL]
  have HL := Lib.hid hLl
  clear hL h hI hn hLl
  go_enter Try.func52, Try.ntmps52
  go_wp2_with fail
  go_loop [8, 9] (fun v i => ∃ (k : Nat) (iv : Int), k ≤ n ∧ Hid (iv = (k : Int) - 1) ∧ i = .int .i64 iv ∧ v = .int .u64 (unle (L.drop k))) (fun _ i => ((intOf i) + 1).toNat)
  case atStart => exact ⟨n, _, Nat.le_refl _, rfl, rfl, by rw [← HL.out, List.drop_length]; rfl⟩
  case round =>
    obtain ⟨k, iv, hk, hiv, rfl, rfl⟩ := hrel
    by_cases hpos : 0 < k
    · obtain ⟨j, rfl⟩ : ∃ j, k = j + 1 := ⟨k - 1, by omega⟩
      obtain rfl : iv = (j : Int) := by have := hiv.out; omega
      have hjL : j < L.length := by rw [HL.out]; omega
      obtain ⟨b', o', hA, hc⟩ := hR.at_ (j := j) (by rw [bys_length]; exact hjL)
      obtain ⟨rfl, rfl⟩ : b = b' ∧ o + at_ = o' := by simpa using hA
      simp only [bys, List.getElem_map] at hc
      have hx := hLI L[j] (List.getElem_mem hjL)
      have hst : unle (L.drop j) = L[j] + 256 * unle (L.drop (j + 1)) := by rw [List.drop_eq_getElem_cons hjL, unle]
      have hr := unle_range (isB_drop hLI (j + 1))
      have hpw := pow256_le (k := (L.drop (j + 1)).length) (n := 7) (by rw [List.length_drop, HL.out]; omega)
      have h7 : unle (L.drop (j + 1)) < 72057594037927936 := by
        have e : (256 : Int) ^ 7 = 72057594037927936 := by decide
        omega
      obtain ⟨u, hu⟩ := Int.eq_ofNat_of_zero_le hr.1
      rw [hu] at hst h7 ⊢
      generalize L[j] = x at hc hx hst
      obtain ⟨xn, rfl⟩ := Int.eq_ofNat_of_zero_le hx.1
      obtain ⟨y, hy⟩ : ∃ y, y = u * 256 := ⟨_, rfl⟩
      obtain ⟨z, hz⟩ : ∃ z, z = y + xn := ⟨_, rfl⟩
      have ew : IntKind.u64.wrap ((u : Int) * 256) = (y : Int) := by rw [show (u : Int) * 256 = ((u * 256 : Nat) : Int) by omega, u64w (by omega), hy]
      have eo : bits .or .u64 (y : Int) (xn : Int) = (z : Int) := by
        rw [or_u64 _ _ (by omega) (by omega), Nat.or_comm, hy, show (256 : Nat) = 2 ^ 8 from rfl, or_shift _ _ _ (by omega), hz, hy]; congr 1; omega
      have hst2 : unle (L.drop j) = (z : Int) := by rw [hst, hz, hy]; omega
      have HS := Lib.hid hst2
      have ex := u64w (n := xn) (by omega)
      have b1 : (0 : Int) ≤ (at_ : Int) + (j : Int) ∧ (at_ : Int) + (j : Int) < (m : Int) := by omega
      have b2 : ((at_ : Int) + (j : Int)).toNat = at_ + j := by omega
      have hc2 : w.cell? ⟨b, o + (at_ + j), none⟩ = some (.int .u8 (xn : Int)) := by rw [← Nat.add_assoc]; exact hc
      clear hst hst2 hu hy hz hr hpw hc hx hjL hA hiv
      go_wp2
      go_round
      case rel => exact ⟨j, _, by omega, rfl, rfl, by rw [HS.out]⟩
      case measure => simp [intOf]
    · obtain rfl : k = 0 := by omega
      obtain rfl : iv = -1 := by have := hiv.out; omega
      clear hiv
      rw [List.drop_zero]
      go_wp2
      go_ret2
      exact ⟨rfl, rfl⟩
end Go.Proofs.Ytdgciajdnmgcnaa
