/- For the walk of RecordMixed: what fails at once, and two rows of slices beside each other. -/
import Derived.Test.YtdgciajdnmgcnaaRecMixPure
import Derived.Test.YtdgciajdnmgcnaaRecTurnedWalk
import Derived.Test.YtdgciajdnmgcnaaRecCopy
namespace Go.Proofs.Ytdgciajdnmgcnaa
open Go.RowKit
set_option linter.unusedVariables false

theorem write_tot (s : Int) (A : Option Addr) (n c : Nat) (l : List Int) (w : World) (hs : 0 ≤ s ∧ s < 18446744073709551616) (hln : l.length = n) (hc : n ≤ c) (hA : A = none → n = 0 ∧ c = 0) (hl : Rd w A (bys l)) (hB : IsB l) :
    Calls Try.prog 10 #[.int .u64 s, .slice A n c] w fun e w' => ∃ v er, e = .returned (.tuple #[v, .int .i64 er]) ∧ Below w.heap.size w w' := by
  by_cases h0 : s = 0
  · subst h0; exact (write_arg A n c w).mono fun e w' h => ⟨_, _, h.1, by rw [h.2]; exact Below.refl _ _⟩
  · by_cases h1 : 4096 < n
    · exact (write_large s A n c w h0 h1).mono fun e w' h => ⟨_, _, h.1, by rw [h.2]; exact Below.refl _ _⟩
    · exact (write_ok s A n c l w (by omega) hln (by omega) hc hA hl hB).mono fun e w' ⟨v, gs, h1, _, _, h2⟩ => ⟨v, 0, h1, h2⟩
set_option maxRecDepth 100000 in
set_option maxHeartbeats 4000000 in
theorem mixed_err (s : Int) (A : Option Addr) (n c : Nat) (o : Int) (B : Option Addr) (m d : Nat) (x y er : Int) (w : World) (he : (er != 0) = true)
    (E1 : ∀ (w : World), Calls Try.prog 10 #[.int .u64 s, .slice A n c] w fun e w' => e = .returned (.tuple #[.slice none 0 0, .int .i64 er]) ∧ w = w')
    (E2 : Calls Try.prog 10 #[.int .u64 o, .slice B m d] w fun e w' => ∃ v er, e = .returned (.tuple #[v, .int .i64 er]) ∧ Below w.heap.size w w') :
    Calls Try.prog 8 #[.int .u64 s, .slice A n c, .int .u64 o, .slice B m d, .int .i64 x, .int .i64 y] w fun e w' => e = .returned (.bool true) ∧ Below w.heap.size w w' := by
  have C1 := Lib.hid E1
  have C2 := Lib.hid E2
  have C3 := Lib.hid (fun w => awake_any w)
  clear E1 E2
  go_enter Try.func8, Try.ntmps8
  go_wp2_with fail
  refine (C1.out _).mono ?_
  rintro e w2 ⟨rfl, rfl⟩
  go_wp2_with fail
  refine C2.out.mono ?_
  rintro e w2 ⟨v2, er2, rfl, hb1⟩
  go_wp2_with fail
  refine (C3.out _).mono ?_
  rintro e w3 ⟨rfl, hb2⟩
  go_wp2_with fail
  refine (C3.out _).mono ?_
  rintro e w4 ⟨rfl, hb3⟩
  go_wp2
  go_ret
  exact ⟨rfl, hb1.trans ((hb2.mono hb1.size).trans (hb3.mono (Nat.le_trans hb1.size hb2.size)))⟩
set_option maxRecDepth 100000 in
set_option maxHeartbeats 4000000 in
theorem mixed_err2 (s : Int) (A : Option Addr) (n c : Nat) (o : Int) (B : Option Addr) (m d : Nat) (x y er : Int) (w : World) (he : (er != 0) = true)
    (E1 : Calls Try.prog 10 #[.int .u64 s, .slice A n c] w fun e w' => ∃ v, e = .returned (.tuple #[v, .int .i64 0]) ∧ Below w.heap.size w w')
    (E2 : ∀ (w : World), Calls Try.prog 10 #[.int .u64 o, .slice B m d] w fun e w' => e = .returned (.tuple #[.slice none 0 0, .int .i64 er]) ∧ w = w') :
    Calls Try.prog 8 #[.int .u64 s, .slice A n c, .int .u64 o, .slice B m d, .int .i64 x, .int .i64 y] w fun e w' => e = .returned (.bool true) ∧ Below w.heap.size w w' := by
  have C1 := Lib.hid E1
  have C2 := Lib.hid E2
  have C3 := Lib.hid (fun w => awake_any w)
  clear E1 E2
  go_enter Try.func8, Try.ntmps8
  go_wp2_with fail
  refine C1.out.mono ?_
  rintro e w2 ⟨v2, rfl, hb1⟩
  go_wp2_with fail
  refine (C2.out _).mono ?_
  rintro e w3 ⟨rfl, rfl⟩
  go_wp2_with fail
  refine (C3.out _).mono ?_
  rintro e w3 ⟨rfl, hb2⟩
  go_wp2_with fail
  refine (C3.out _).mono ?_
  rintro e w4 ⟨rfl, hb3⟩
  go_wp2
  go_ret
  exact ⟨rfl, hb1.trans ((hb2.mono hb1.size).trans (hb3.mono (Nat.le_trans hb1.size hb2.size)))⟩

theorem isB_readVal {s n : Int} {Ls : List (List Int)} (h : ∀ x ∈ Ls, IsB x) : IsB (readVal s n Ls) := by
  unfold readVal
  split
  · intro x hx
    unfold datas at hx
    simp only [List.mem_flatten, List.mem_map] at hx
    obtain ⟨d, ⟨L, hL, rfl⟩, hx⟩ := hx
    exact (frm_data (h L (List.mem_of_mem_take hL))).1 x hx
  · intro x hx; simp at hx
/-- Two stores into a row of slices. -/
theorem owns_2set {base B : Nat} {w : World} {us : List Value} {Ls : List (List Int)} (h : Owns base w us Ls) {v : Value} {n : Nat} {xs : List Value} (hown : w.ownsRow B 23 1 v n xs) {gt : Nat} (hv : v.ownBlock = some gt) (p q : Addr) (hp : p.block = gt) (hq : q.block = gt) (u u' : Value) : Owns base ((w.setCell p u).setCell q u') us Ls :=
  ⟨h.1, fun j L hj => by
    obtain ⟨x, h1, h2⟩ := h.2 j L hj
    have ne : x.ownBlock ≠ some gt := by
      intro e
      rcases h2.2 with ⟨rfl, _⟩ | ⟨g, cap, cur, rfl, _, h3, _⟩
      · simp [Value.ownBlock] at e
      · rcases hown.2 with ⟨rfl, _⟩ | ⟨g', cap', cur', rfl, _, h4, _⟩
        · simp [Value.ownBlock] at hv
        · simp [Value.ownBlock] at e hv
          rw [e, ← hv] at h3
          rw [h3] at h4
          simp at h4
    exact ⟨x, h1, ownsRow_setCell_other (ownsRow_setCell_other h2 (by rw [hp]; exact ne) u) (by rw [hq]; exact ne) u'⟩⟩
/-- The second list of sectors lies in blocks of its own, and so does its row. -/
theorem own_not_owns {base B : Nat} {w : World} {us : List Value} {Ls : List (List Int)} (h : Owns base w us Ls) {v : Value} {n : Nat} {xs : List Value} (hown : w.ownsRow B 23 1 v n xs) {go : Nat} (hv : v.ownBlock = some go) (p : Addr) (hp : p.block = go) (u : Value) : Owns base (w.setCell p u) us Ls :=
  ⟨h.1, fun j L hj => by
    obtain ⟨x, h1, h2⟩ := h.2 j L hj
    refine ⟨x, h1, ownsRow_setCell_other h2 ?_ u⟩
    intro e
    rcases h2.2 with ⟨rfl, _⟩ | ⟨g, cap, cur, rfl, _, h3, _⟩
    · simp [Value.ownBlock] at e
    · rcases hown.2 with ⟨rfl, _⟩ | ⟨g', cap', cur', rfl, _, h4, _⟩
      · simp [Value.ownBlock] at hv
      · simp [Value.ownBlock] at e hv
        rw [← hv] at hp
        rw [e, hp] at h3
        rw [h3] at h4
        simp at h4⟩
end Go.Proofs.Ytdgciajdnmgcnaa
