/- Contracts: dunnagehelp.CopyBytes, CopyLists; whatever is handed in within the reach of a slice. -/
import Derived.Test.YtdgciajdnmgcnaaRecLists
namespace Go.Proofs.Ytdgciajdnmgcnaa
open Go.RowKit
set_option linter.unusedVariables false

set_option maxHeartbeats 2000000 in
theorem copyb_any (A : Option Addr) (n c : Nat) (l : List Int) (w : World) (hn : l.length = n) (hA : A = none → n = 0 ∧ c = 0) (h : Rd w A (bys l)) (hnb : n ≤ 140737488355328) :
    Calls Try.prog 34 #[.slice A n c] w fun e w' => ∃ v, e = .returned v ∧ w'.ownsRow w.heap.size 5 1 v n (bys l) ∧ Below w.heap.size w w' := by
  have HN := Lib.hid hn
  clear hn
  go_enter Try.func34, Try.ntmps34
  go_wp2_with (at_builtin; go_must (refine wpList_append_rd rfl _ _ 23 rfl w.heap.size 5 (.int .u8 0) 1 1 Try.underlying23 infoU8 rfl (by decide) _ 0 [] rfl (World.ownsRow_nil _ _ _ _) A n c (bys l) rfl hA (by rw [bys_length, HN.out]; omega) h (bys_one l) (by unfold maxLen; omega) (by omega) (Nat.le_refl _) ?_))
  intro v8 w8 hown8 hg8
  have hb8 := below_app (Below.refl _ w) (Nat.le_refl _) (World.ownsRow_nil w w.heap.size 5 1) hg8
  have hown9 : w8.ownsRow w.heap.size 5 1 v8 n (bys l) := by simpa using hown8
  go_wp2
  go_ret
  exact ⟨v8, rfl, hown9, hb8⟩

set_option maxRecDepth 100000 in
set_option maxHeartbeats 4000000 in
theorem copylists_any (A : Option Addr) (n c : Nat) (vs : List Value) (Ls : List (List Int)) (w : World) (hn : vs.length = n) (h : Rd w A vs) (hL : RdL w vs Ls) (hnb : n ≤ 5864062014805) (hin : ∀ L ∈ Ls, L.length ≤ 140737488355328) :
    Calls Try.prog 21 #[.slice A n c] w fun e w' => ∃ v us, e = .returned v ∧ w'.ownsRow w.heap.size 23 1 v n us ∧ Owns w.heap.size w' us Ls ∧ Below w.heap.size w w' := by
  have HN := Lib.hid hn
  have HL1 := Lib.hid hL.1
  have HIN := Lib.hid hin
  clear hn hin
  go_enter Try.func21, Try.ntmps21
  go_wp2_with fail
  go_loopw [3, 4] (fun v i wr => ∃ (j : Nat) (A' : Option Addr) (c' : Nat) (us : List Value), j ≤ n ∧ i = .int .i64 j ∧ v = .slice A' j c' ∧ wr.ownsRow w.heap.size 23 1 (.slice A' j c') j us ∧ Owns w.heap.size wr us (Ls.take j) ∧ Below w.heap.size w wr) (fun v i _ => n - (intOf i).toNat)
  case atStart => exact ⟨0, none, 0, [], by omega, rfl, rfl, World.ownsRow_nil _ _ _ _, Owns.nil _ _, Below.refl _ _⟩
  case round =>
    obtain ⟨j, A', c', us, hj, rfl, rfl, hown, hS, hb⟩ := hrel
    have HO := Lib.hid hown
    have HS := Lib.hid hS
    have HB0 := Lib.hid hb
    clear hown hS
    by_cases hlt : j < n
    · have hjv : j < vs.length := by have := HN.out; omega
      have hjL : j < Ls.length := by have := HL1.out; omega
      obtain ⟨b, o, hAA, hc⟩ := (h.kept hb).at_ (j := j) hjv
      subst hAA
      obtain ⟨L, hLe⟩ : ∃ L, Ls[j]? = some L := ⟨_, List.getElem?_eq_getElem hjL⟩
      obtain ⟨A1, c1, g1, hn1, hc1, r1, I1⟩ := (hL.kept hb).2 j L hLe
      rw [List.getElem?_eq_getElem hjv] at g1
      rw [Option.some.inj g1] at hc
      have b1 : (0 : Int) ≤ (j : Int) ∧ (j : Int) < (n : Int) := by omega
      have C := Lib.hid (copyb_any A1 L.length c1 L wr rfl hn1 r1 (HIN.out L (List.mem_of_getElem? hLe)))
      have HTK : Hid (Ls.take (j + 1) = Ls.take j ++ [L]) := by
        have : Ls.take (j + 1) = Ls.take j ++ [L] := by rw [List.take_add_one, hLe]; rfl
        exact Lib.hid this
      clear g1 r1 I1 hc1 hLe hb hn1
      obtain ⟨nL, hnL⟩ : ∃ nL, nL = L.length := ⟨_, rfl⟩
      rw [← hnL] at hc C
      have HNL := Lib.hid hnL
      clear hnL
      go_wp2_with fail
      refine C.out.mono ?_
      rintro e w3 ⟨v3, rfl, hown3, hb3⟩
      obtain ⟨A4, c4, rfl, hcc4⟩ := own_sh hown3
      have HB3 := Lib.hid (HB0.out.trans (hb3.mono HB0.out.size))
      have HO3 := Lib.hid (own_kept HO.out hb3)
      have hwr := HB0.out.size
      have HS3 : Hid (Owns w.heap.size w3 (us ++ [Value.slice A4 nL c4]) (Ls.take (j + 1))) := by
        have h1 := (HS.out.kept hb3).snoc (v := Value.slice A4 nL c4) (L := L) (by rw [← HNL.out]; exact own_mono hown3 hwr)
        rw [HTK.out]; exact Lib.hid h1
      clear hb3 hown3 hcc4
      go_wp2_with (at_builtin; go_must (refine wpList_append_rd rfl _ _ 25 rfl w.heap.size 23 (.slice none 0 0) 1 24 Try.underlying25 infoSl rfl (by decide) _ j us rfl (HO3.out.alloc _) _ 1 1 [Value.slice A4 nL c4] rfl (by simp) (by simp) (rd_new1 _ _ _) (by simp [Value.oneCell']) (by unfold maxLen; omega) (by omega) (HB3.out.alloc HB3.out.size _).size ?_))
      intro v8 w8 hown8 hg8
      have hb8 := below_app (HB3.out.alloc HB3.out.size _) (HB3.out.alloc HB3.out.size _).size (HO3.out.alloc _) hg8
      have HB8 := Lib.hid hb8
      have HS8 := Lib.hid ((HS3.out.kept ((Below.refl _ w3).alloc (Nat.le_refl _) _)).grown (HO3.out.alloc _) hg8)
      obtain ⟨A8, c8, rfl, hc8⟩ := own_sh hown8
      have HO8 := Lib.hid hown8
      clear hown8 hg8 hb8 hc8
      go_wp2
      go_roundw
      case rel => exact ⟨j + 1, A8, c8, _, by omega, by go_num, rfl, HO8.out, HS8.out, HB8.out⟩
      case measure => simp [intOf]; omega
    · obtain rfl : j = n := by omega
      have hfull : Ls.take j = Ls := List.take_of_length_le (by have := HN.out; have := HL1.out; omega)
      have HS' : Hid (Owns w.heap.size wr us Ls) := by have h1 := HS.out; rw [hfull] at h1; exact Lib.hid h1
      clear hfull
      go_wp2
      go_ret
      exact ⟨_, us, rfl, HO.out, HS'.out, hb⟩
end Go.Proofs.Ytdgciajdnmgcnaa
