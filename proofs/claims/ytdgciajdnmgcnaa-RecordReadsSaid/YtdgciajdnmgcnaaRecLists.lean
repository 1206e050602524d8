/- Contracts: dunnagehelp.Lists; whatever is handed in. -/
import Derived.Test.YtdgciajdnmgcnaaRecRefWrite
import Derived.Test.YtdgciajdnmgcnaaOwn
namespace Go.Proofs.Ytdgciajdnmgcnaa
open Go.RowKit
set_option linter.unusedVariables false

def AlikeL (l k : List (List Int)) (j : Nat) : Prop := l.take j = k.take j
theorem alikeL_step {l k : List (List Int)} {j : Nat} {L M : List Int} (h : AlikeL l k j) (h1 : l[j]? = some L) (h2 : k[j]? = some M) (he : L = M) : AlikeL l k (j + 1) := by
  unfold AlikeL at *
  rw [List.take_add_one, List.take_add_one, h, h1, h2, he]
set_option maxRecDepth 100000 in
set_option maxHeartbeats 2000000 in
theorem sameL_any (A : Option Addr) (n c : Nat) (vs : List Value) (Ls : List (List Int)) (B : Option Addr) (m d : Nat) (us : List Value) (Ms : List (List Int)) (w : World) (hn : vs.length = n) (hm : us.length = m) (h : Rd w A vs) (h' : Rd w B us) (hL : RdL w vs Ls) (hM : RdL w us Ms) (hnb : n ≤ 4611686018427387904) (hmb : m ≤ 4611686018427387904) :
    Calls Try.prog 29 #[.slice A n c, .slice B m d, .func (.func 24) #[] #[]] w fun e w' => e = .returned (.bool (decide (Ls = Ms))) ∧ Below w.heap.size w w' := by
  have hl1 := hL.1
  have hl2 := hM.1
  by_cases hnm : n = m
  · have q1 : ((n : Int) != (m : Int)) = false := by rw [bne_eq_false_iff_eq]; omega
    subst hnm
    have HN := Lib.hid hn
    have HM := Lib.hid hm
    have HL1 := Lib.hid hl1
    have HL2 := Lib.hid hl2
    clear hm hn hl1 hl2
    go_enter Try.func29, Try.ntmps29
    go_wp2_with fail
    go_loopw [7] (fun i wr => ∃ j : Nat, j ≤ n ∧ i = .int .i64 j ∧ AlikeL Ls Ms j ∧ Below w.heap.size w wr) (fun i _ => n - (intOf i).toNat)
    case atStart => exact ⟨0, by omega, rfl, by simp [AlikeL], Below.refl _ _⟩
    case round =>
      obtain ⟨j, hj, rfl, hz, hb⟩ := hrel
      by_cases hlt : j < n
      · have hjv : j < vs.length := by have := HN.out; omega
        have hju : j < us.length := by have := HM.out; omega
        have hjL : j < Ls.length := by have := HL1.out; omega
        have hjM : j < Ms.length := by have := HL2.out; omega
        obtain ⟨b, o, hAA, hc⟩ := (h.kept hb).at_ (j := j) hjv
        obtain ⟨b', o', hBB, hc'⟩ := (h'.kept hb).at_ (j := j) hju
        subst hAA; subst hBB
        obtain ⟨A1, c1, g1, _, _, r1, I1⟩ := (hL.kept hb).2 j Ls[j] (List.getElem?_eq_getElem hjL)
        obtain ⟨A2, c2, g2, _, _, r2, I2⟩ := (hM.kept hb).2 j Ms[j] (List.getElem?_eq_getElem hjM)
        rw [List.getElem?_eq_getElem hjv] at g1
        rw [List.getElem?_eq_getElem hju] at g2
        rw [Option.some.inj g1] at hc
        rw [Option.some.inj g2] at hc'
        have b1 : (0 : Int) ≤ (j : Int) ∧ (j : Int) < (n : Int) := by omega
        have hst := fun he => alikeL_step hz (List.getElem?_eq_getElem hjL) (List.getElem?_eq_getElem hjM) he
        have hne : Ls[j] ≠ Ms[j] → Ls ≠ Ms := by intro he e; subst e; exact he rfl
        have HR1 := Lib.hid r1
        have HR2 := Lib.hid r2
        have HI1 := Lib.hid I1
        have HI2 := Lib.hid I2
        clear g1 g2 r1 r2 I1 I2
        generalize Ls[j] = L at *
        generalize Ms[j] = M at *
        have C0 := fun (W : World) (hW : Below wr.heap.size wr W) => bytes_any A1 L.length c1 L A2 M.length c2 M W rfl rfl (HR1.out.kept hW) (HR2.out.kept hW) HI1.out HI2.out
        by_cases he : L = M
        · have hz2 := Lib.hid (hst he)
          have hd : decide (L = M) = true := by simpa using he
          simp only [hd] at C0
          have C := Lib.hid C0
          clear C0 hd hst hne
          generalize L.length = nL at *
          generalize M.length = nM at *
          clear he
          go_wp2_with fail
          go_quiet ((go_at_call 24; exact qsame (C.out _ (Below.refl _ _ |>.trans (below_drewN _ _)))))
          go_wp2
          go_roundw
          case rel => exact ⟨j + 1, by omega, by go_num, hz2.out, hb.trans (below_drewN _ _)⟩
          case measure => simp [intOf]; omega
        · have hd : decide (L = M) = false := by simpa using he
          have hfin : decide (Ls = Ms) = false := decide_eq_false (hne he)
          have HF := Lib.hid hfin
          simp only [hd] at C0
          have C := Lib.hid C0
          clear C0 hd hst hne hfin
          generalize L.length = nL at *
          generalize M.length = nM at *
          clear he
          go_wp2_with fail
          go_quiet ((go_at_call 24; exact qsame (C.out _ (Below.refl _ _ |>.trans (below_drewN _ _)))))
          go_wp2
          go_ret
          exact ⟨by rw [HF.out]; rfl, hb.trans (below_drewN _ _)⟩
      · obtain rfl : j = n := by omega
        have hfin : decide (Ls = Ms) = true := by
          rw [decide_eq_true_iff]; unfold AlikeL at hz
          rwa [List.take_of_length_le (by have := HN.out; have := HL1.out; omega), List.take_of_length_le (by have := HM.out; have := HL2.out; omega)] at hz
        have HF := Lib.hid hfin
        clear hfin hz
        go_wp2
        go_ret
        exact ⟨by rw [HF.out]; rfl, hb⟩
  · have hfin : decide (Ls = Ms) = false := by rw [decide_eq_false_iff_not]; rintro rfl; omega
    have HF := Lib.hid hfin
    have q1 : ((n : Int) != (m : Int)) = true := by rw [bne_iff_ne]; omega
    clear hfin hnm hn hm hl1 hl2
    go_enter Try.func29, Try.ntmps29
    go_wp2
    go_ret
    exact ⟨by rw [HF.out]; rfl, Below.refl _ _⟩

theorem lists_any (A : Option Addr) (n c : Nat) (vs : List Value) (Ls : List (List Int)) (B : Option Addr) (m d : Nat) (us : List Value) (Ms : List (List Int)) (w : World) (hn : vs.length = n) (hm : us.length = m) (h : Rd w A vs) (h' : Rd w B us) (hL : RdL w vs Ls) (hM : RdL w us Ms) (hnb : n ≤ 4611686018427387904) (hmb : m ≤ 4611686018427387904) :
    Calls Try.prog 15 #[.slice A n c, .slice B m d] w fun e w' => e = .returned (.bool (decide (Ls = Ms))) ∧ Below w.heap.size w w' := by
  have C1 := Lib.hid (sameL_any A n c vs Ls B m d us Ms w hn hm h h' hL hM hnb hmb)
  clear h h' hn hm hL hM
  go_enter Try.func15, Try.ntmps15
  go_wp2_with fail
  refine C1.out.mono ?_
  rintro e w1 ⟨rfl, hb⟩
  go_wp2
  go_ret
  exact ⟨rfl, hb⟩
end Go.Proofs.Ytdgciajdnmgcnaa
