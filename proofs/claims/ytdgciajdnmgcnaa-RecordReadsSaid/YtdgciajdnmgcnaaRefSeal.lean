/- Contracts: dunnageref03.Known, number, Seal; whatever is handed in. -/
import Derived.Test.YtdgciajdnmgcnaaSeal
namespace Go.Proofs.Ytdgciajdnmgcnaa
open Go.RowKit

set_option maxHeartbeats 1000000 in
theorem refknown_any (k : Int) (w : World) : Calls Try.prog 43 #[.int .u8 k] w fun e w' => e = .returned (.bool (knownB k)) ∧ w = w' := by
  by_cases h1 : k = 23
  · subst h1; go_enter Try.func43, Try.ntmps43; go_wp2; go_ret; exact ⟨rfl, rfl⟩
  by_cases h2 : k = 43
  · subst h2; go_enter Try.func43, Try.ntmps43; go_wp2; go_ret; exact ⟨rfl, rfl⟩
  by_cases h3 : k = 77
  · subst h3; go_enter Try.func43, Try.ntmps43; go_wp2; go_ret; exact ⟨rfl, rfl⟩
  by_cases h4 : k = 142
  · subst h4; go_enter Try.func43, Try.ntmps43; go_wp2; go_ret; exact ⟨rfl, rfl⟩
  by_cases h5 : k = 113
  · subst h5; go_enter Try.func43, Try.ntmps43; go_wp2; go_ret; exact ⟨rfl, rfl⟩
  by_cases h6 : k = 178
  · subst h6; go_enter Try.func43, Try.ntmps43; go_wp2; go_ret; exact ⟨rfl, rfl⟩
  have e : knownB k = false := by simp [knownB, h1, h2, h3, h4, h5, h6]
  have H := Lib.hid e
  have e1 : (k == 23) = false := by simpa using h1
  have e2 : (k == 43) = false := by simpa using h2
  have e3 : (k == 77) = false := by simpa using h3
  have e4 : (k == 142) = false := by simpa using h4
  have e5 : (k == 113) = false := by simpa using h5
  have e6 : (k == 178) = false := by simpa using h6
  clear e h1 h2 h3 h4 h5 h6
  go_enter Try.func43, Try.ntmps43; go_wp2; go_ret; exact ⟨by rw [H.out]; rfl, rfl⟩


set_option maxHeartbeats 2000000 in
theorem number_any (B : Nat) (w0 w : World) (hb : Below B w0 w) (hB : B ≤ w.heap.size) (u : Value) (m : Nat) (xs : List Value) (hown : w.ownsRow B 5 1 u m xs) (v : Int) (n : Nat) (h8 : n ≤ 8) (_hv0 : 0 ≤ v) (hm : m ≤ 1000000) :
    Calls Try.prog 44 #[u, .int .u64 v, .int .i64 n] w fun e w' => ∃ u', e = .returned u' ∧ w'.ownsRow B 5 1 u' (m + n) (xs ++ bys (le n v)) ∧ Below B w0 w' ∧ w.heap.size ≤ w'.heap.size := by
  go_enter Try.func44, Try.ntmps44
  go_wp2_with fail
  go_loopw [0, 7] (fun out i wr => ∃ k : Nat, k ≤ n ∧ i = .int .i64 k ∧ wr.ownsRow B 5 1 out (m + k) (xs ++ bys (le k v)) ∧ Below B w0 wr ∧ w.heap.size ≤ wr.heap.size) (fun _ i _ => n - (intOf i).toNat)
  case atStart => exact ⟨0, Nat.zero_le _, rfl, by simpa [le, bys] using hown, hb, Nat.le_refl _⟩
  case round =>
    obtain ⟨k, hk, rfl, hown', hb', hws⟩ := hrel
    by_cases hlt : k < n
    · have c1 := u64w (n := k) (by omega)
      have c2 : IntKind.u64.wrap (8 * (k : Int)) = 8 * (k : Int) := by rw [show (8 : Int) * (k : Int) = ((8 * k : Nat) : Int) by omega]; exact u64w (by omega)
      have c3 : (8 * (k : Int)).toNat = 8 * k := by omega
      have c4 : (0 : Int) ≤ 8 * (k : Int) := by omega
      have c5 : 8 * (k : Int) ≤ 64 := by omega
      have c6 : v / 2 ^ (8 * k) = v / 256 ^ k := by rw [Int.pow_mul]; rfl
      have HO := Lib.hid hown'
      have hsz : B ≤ wr.heap.size := by omega
      clear hown'
      go_wp2_with (at_builtin; go_must (refine wpList_append_rd rfl _ _ 23 rfl B 5 (.int .u8 0) 1 1 Try.underlying23 infoU8 rfl (by decide) _ (m + k) (xs ++ bys (le k v)) rfl (HO.out.alloc _) _ 1 1 [.int .u8 (v / 256 ^ k % 256)] rfl (by simp) (by simp) (rd_new1 _ _ _) (by simp [Value.oneCell']) (by unfold maxLen; omega) (by omega) (by simp; omega) ?_))
      · intro v' w' hown2 hg
        have hb2 := below_push hb' hsz HO.out hg
        have hsz2 := hg.size
        have HO2 := Lib.hid hown2
        clear hown2 hg HO
        go_wp2
        go_roundw
        case rel => exact ⟨k + 1, by omega, by go_num, by rw [le_snoc, bys_append]; exact HO2.out, hb2, by simp at hsz2; omega⟩
        case measure => simp [intOf]; omega
    · have : k = n := by omega
      subst this
      have HO := Lib.hid hown'
      clear hown'
      go_wp2
      go_ret
      exact ⟨_, rfl, HO.out, hb', hws⟩

def lenOf : Value → Nat | .slice _ n _ => n | _ => 0
theorem known_b' {k : Int} (h : knownB k = true) : 0 ≤ k ∧ k < 256 := by
  simp only [knownB, Bool.or_eq_true, beq_iff_eq] at h; omega
theorem pad_snoc (l : List Int) (j : Nat) : bys (l ++ List.replicate j 0) ++ [Value.int .u8 0] = bys (l ++ List.replicate (j + 1) 0) := by
  rw [List.replicate_succ', ← List.append_assoc, bys_append (l ++ _)]; rfl

set_option maxRecDepth 100000 in
set_option maxHeartbeats 1000000 in
theorem refseal_okn (kind turn : Int) (A : Option Addr) (c n : Nat) (l : List Int) (w : World) (hn : l.length = n) (hA : A = none → n = 0 ∧ c = 0) (h : Rd w A (bys l)) (hk : knownB kind = true) (hl : n ≤ 496) (hI : IsB l) (ht0 : 0 ≤ turn) :
    Calls Try.prog 28 #[.int .u8 kind, .int .u64 turn, .slice A n c] w fun e w' => ∃ v, e = .returned (.tuple #[v, .int .i64 0]) ∧ w'.ownsRow w.heap.size 5 1 v 512 (bys (sealed kind turn l)) ∧ Below w.heap.size w w' := by
  have HK := Lib.hid hk
  have HN := Lib.hid hn
  have o0 := World.ownsRow_lit (e := 5) (size := 1) (base := w.heap.size) w #[.int .u8 kind, .int .u8 0] 2 (Nat.le_refl _) (by unfold maxLen; omega) rfl
  have HO0 := Lib.hid o0
  have HB0 := Lib.hid ((Below.refl w.heap.size w).alloc (Nat.le_refl _) (.cells #[.int .u8 kind, .int .u8 0] 5))
  clear hk hn o0
  have b1 : (0 : Int) ≤ (n : Int) := by omega
  go_enter Try.func28, Try.ntmps28
  go_wp2_with (go_at_call 43; refine (refknown_any _ _).mono ?_; rintro e w' ⟨rfl, rfl⟩; rw [HK.out])
  refine (number_any w.heap.size w _ HB0.out (by simp) _ 2 _ HO0.out (n : Int) 2 (by decide) (by omega) (by decide)).mono ?_
  rintro e w1 ⟨v1, rfl, hown1, hb1, _⟩
  have HO1 := Lib.hid hown1
  have HB1 := Lib.hid hb1
  clear hown1 hb1
  go_wp2_with fail
  refine (number_any w.heap.size w _ HB1.out HB1.out.size _ _ _ HO1.out turn 8 (by decide) ht0 (by decide)).mono ?_
  rintro e w2 ⟨v2, rfl, hown2, hb2, _⟩
  have HO2 := Lib.hid hown2
  have HB2 := Lib.hid hb2
  clear hown2 hb2
  go_wp2_with (at_builtin; go_must (refine wpList_append_rd rfl _ _ 23 rfl w.heap.size 5 (.int .u8 0) 1 1 Try.underlying23 infoU8 rfl (by decide) _ _ _ rfl HO2.out A n c (bys l) rfl hA (by rw [bys_length, HN.out]; omega) (h.kept HB2.out) (bys_one l) (by unfold maxLen; omega) (by omega) HB2.out.size ?_))
  intro v3 w3 hown3 hg3
  have hb3 := below_app HB2.out HB2.out.size HO2.out hg3
  have hx3 : Value.int .u8 kind :: Value.int .u8 0 :: (bys (le 2 (n : Int)) ++ (bys (le 8 turn) ++ bys l)) = bys ([kind, 0] ++ le 2 l.length ++ le 8 turn ++ l) := by rw [HN.out]; simp [bys]
  rw [hx3] at hown3
  have HO3 := Lib.hid hown3
  have HB3 := Lib.hid hb3
  clear hown3 hg3 hb3 hx3
  obtain ⟨P, hP⟩ : ∃ P, P = [kind, 0] ++ le 2 l.length ++ le 8 turn ++ l := ⟨_, rfl⟩
  have HP := Lib.hid hP
  have HO3 : Hid (w3.ownsRow w.heap.size 5 1 v3 (12 + n) (bys P)) := by rw [hP]; exact HO3.out
  clear hP
  go_wp2_with fail
  go_loopw [8] (fun v wr => ∃ j : Nat, 12 + n + j ≤ 508 ∧ wr.ownsRow w.heap.size 5 1 v (12 + n + j) (bys (P ++ List.replicate j 0)) ∧ Below w.heap.size w wr) (fun v _ => 508 - lenOf v)
  case atStart => exact ⟨0, by omega, by simpa using HO3.out, HB3.out⟩
  case round =>
    obtain ⟨j, hj, hown, hbw⟩ := hrel
    have HO := Lib.hid hown
    obtain ⟨A', c', rfl, hcc⟩ := own_sh hown
    have hsz := hbw.size
    clear hown
    by_cases hlt : 12 + n + j < 508
    · go_wp2_with (at_builtin; go_must (refine wpList_append_rd rfl _ _ 23 rfl w.heap.size 5 (.int .u8 0) 1 1 Try.underlying23 infoU8 rfl (by decide) _ _ _ rfl (HO.out.alloc _) _ 1 1 [.int .u8 0] rfl (by simp) (by simp) (rd_new1 _ _ _) (by simp [Value.oneCell']) (by unfold maxLen; omega) (by omega) (by simp; omega) ?_))
      intro v' w' hown2 hg
      have hb2 := below_push hbw hsz HO.out hg
      have hown3 : w'.ownsRow w.heap.size 5 1 v' (12 + n + (j + 1)) (bys (P ++ List.replicate (j + 1) 0)) := by rw [← pad_snoc]; exact hown2
      have HO4 := Lib.hid hown3
      obtain ⟨A4, c4, rfl, hcc4⟩ := own_sh hown3
      clear hown2 hown3 hg HO
      go_wp2
      go_roundw
      case rel => exact ⟨j + 1, by omega, HO4.out, hb2⟩
      case measure => simp [lenOf]; omega
    · obtain rfl : j = 496 - n := by omega
      have hh : P ++ List.replicate (496 - n) 0 = sealHead kind turn l := by rw [HP.out, sealHead, HN.out]
      rw [hh] at HO
      have h508 : 12 + n + (496 - n) = 508 := by omega
      rw [h508] at HO ⊢
      have hlen := sealHead_length kind turn (l := l) (by rw [HN.out]; omega)
      have HL := Lib.hid hlen
      have hisB := sealHead_isB (turn := turn) (l := l) (known_b' HK.out) hI
      have hml := more_lt (s := 0) (by decide) hisB
      obtain ⟨A5, c5, he5, _, _, hrd5, _⟩ := own_rd HO.out
      obtain ⟨rfl, rfl⟩ : A' = A5 ∧ c' = c5 := by simpa using he5
      have C1 := Lib.hid (refsum_n A' c' 508 _ wr HL.out hrd5 (by decide) hisB)
      have hwr := u64w (n := more 0 (sealHead kind turn l)) (by omega)
      clear hh h508 hlen he5 hrd5 hlt hj
      go_wp2_with fail
      refine C1.out.mono ?_
      rintro e w6 ⟨rfl, rfl⟩
      go_wp2_with fail
      refine (number_any w.heap.size w _ hbw hsz _ 508 _ HO.out (more 0 (sealHead kind turn l) : Nat) 4 (by decide) (by omega) (by decide)).mono ?_
      rintro e w7 ⟨v7, rfl, hown7, hb7, _⟩
      have HO7 := Lib.hid hown7
      clear hown7
      go_wp2
      go_ret2
      exact ⟨_, rfl, by rw [sealed, bys_append]; exact HO7.out, hb7⟩

theorem refseal_unk (kind turn : Int) (A : Option Addr) (n c : Nat) (w : World) (hk : knownB kind = false) :
    Calls Try.prog 28 #[.int .u8 kind, .int .u64 turn, .slice A n c] w fun e w' => e = .returned (.tuple #[.slice none 0 0, .int .i64 1]) ∧ w = w' := by
  have HK := Lib.hid hk
  clear hk
  go_enter Try.func28, Try.ntmps28
  go_wp2_with (go_at_call 43; refine (refknown_any _ _).mono ?_; rintro e w' ⟨rfl, rfl⟩; rw [HK.out])
  go_ret2
  exact ⟨rfl, rfl⟩
theorem refseal_large (kind turn : Int) (A : Option Addr) (n c : Nat) (w : World) (hk : knownB kind = true) (hl : 496 < n) :
    Calls Try.prog 28 #[.int .u8 kind, .int .u64 turn, .slice A n c] w fun e w' => e = .returned (.tuple #[.slice none 0 0, .int .i64 4]) ∧ w = w' := by
  have HK := Lib.hid hk
  clear hk
  go_enter Try.func28, Try.ntmps28
  go_wp2_with (go_at_call 43; refine (refknown_any _ _).mono ?_; rintro e w' ⟨rfl, rfl⟩; rw [HK.out])
  go_ret2
  exact ⟨rfl, rfl⟩
end Go.Proofs.Ytdgciajdnmgcnaa
