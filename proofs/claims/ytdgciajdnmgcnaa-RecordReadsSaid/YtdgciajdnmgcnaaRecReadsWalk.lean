/- The walk of RecordReads: whatever is handed in within the reach of a slice, it answers true and writes nothing that was there. -/
import Derived.Test.YtdgciajdnmgcnaaRecRefRead
import Derived.Test.YtdgciajdnmgcnaaRecCopy
namespace Go.Proofs.Ytdgciajdnmgcnaa
open Go.RowKit
set_option linter.unusedVariables false

set_option maxRecDepth 100000 in
set_option maxHeartbeats 4000000 in
theorem reads_all (s k : Int) (A : Option Addr) (n c : Nat) (vs : List Value) (Ls : List (List Int)) (w : World) (hs : 0 ≤ s ∧ s < 18446744073709551616) (hn : vs.length = n) (hA : Rd w A vs) (hL : RdL w vs Ls) (hnb : n ≤ 5864062014805) (hin : ∀ L ∈ Ls, L.length ≤ 140737488355328) :
    Calls Try.prog 5 #[.int .u64 s, .int .i64 k, .slice A n c] w fun e w' => e = .returned (.bool true) ∧ Below w.heap.size w w' := by
  have hIB : ∀ x ∈ Ls, IsB x := by
    intro x hx
    obtain ⟨i, hi⟩ := List.mem_iff_getElem?.1 hx
    obtain ⟨_, _, _, _, _, _, I⟩ := hL.2 i x hi
    exact I
  have hVB : IsB (readVal s k Ls) := by
    unfold readVal
    split
    · exact datas_isB hIB _
    · intro x hx; simp at hx
  have C1 := Lib.hid (copylists_any A n c vs Ls w hn hA hL hnb hin)
  have C2 := Lib.hid (fun (w1 : World) (B : Option Addr) (d : Nat) (us : List Value) (hB : Rd w1 B us) (hM : RdL w1 us Ls) => read_any s k B n d us Ls w1 (hM.1.trans (hL.1.symm.trans hn)) hB hM)
  have C3 := Lib.hid (fun (w1 : World) (hA : Rd w1 A vs) (hL : RdL w1 vs Ls) => refread_any s k A n c vs Ls w1 hs hn hA hL)
  have C4 := Lib.hid (fun w => awake_any w)
  have C5 := Lib.hid (fun (w1 : World) (B D : Option Addr) (d f : Nat) (h1 : Rd w1 B (bys (readVal s k Ls))) (h2 : Rd w1 D (bys (readVal s k Ls))) => bytes_any B (readVal s k Ls).length d _ D (readVal s k Ls).length f _ w1 rfl rfl h1 h2 hVB hVB)
  have C6 := Lib.hid (fun (w1 : World) (B : Option Addr) (d : Nat) (us : List Value) (hB : Rd w1 B us) (hM : RdL w1 us Ls) (hA : Rd w1 A vs) (hL : RdL w1 vs Ls) => lists_any B n d us Ls A n c vs Ls w1 (hM.1.trans (hL.1.symm.trans hn)) hn hB hA hM hL (by omega) (by omega))
  have HIB := Lib.hid hIB
  have q : (readErr s k Ls == readErr s k Ls) = true := by simp
  clear hn hin hIB hVB
  generalize readErr s k Ls = er at *
  generalize readVal s k Ls = va at *
  go_enter Try.func5, Try.ntmps5
  go_wp2_with fail
  refine C1.out.mono ?_
  rintro e w1 ⟨v1, us, rfl, hown1, hS1, hb1⟩
  obtain ⟨A1, c1, rfl, _, _, hrd1, _⟩ := own_rd hown1
  have R1 := Lib.hid hrd1
  have L1 := Lib.hid (hS1.rdl HIB.out)
  have B1 := Lib.hid hb1
  clear hown1 hS1 hb1 hrd1
  go_wp2_with fail
  refine (C2.out _ A1 c1 us R1.out L1.out).mono ?_
  rintro e w2 ⟨⟨v2, rfl, hown2⟩, hb2⟩
  obtain ⟨A2, c2, rfl, _, _, hrd2, _⟩ := own_rd hown2
  have V2 := Lib.hid hrd2
  have R2 := Lib.hid (R1.out.kept hb2)
  have L2 := Lib.hid (L1.out.kept hb2)
  have B2 := Lib.hid (B1.out.trans (hb2.mono B1.out.size))
  clear hown2 hb2 hrd2
  go_wp2_with fail
  refine (C3.out _ (hA.kept B2.out) (hL.kept B2.out)).mono ?_
  rintro e w3 ⟨⟨v3, rfl, hown3⟩, hb3⟩
  obtain ⟨A3, c3, rfl, _, _, hrd3, _⟩ := own_rd hown3
  have W3 := Lib.hid hrd3
  have V3 := Lib.hid (V2.out.kept hb3)
  have R3 := Lib.hid (R2.out.kept hb3)
  have L3 := Lib.hid (L2.out.kept hb3)
  have B3 := Lib.hid (B2.out.trans (hb3.mono B2.out.size))
  clear hown3 hb3 hrd3
  go_wp2_with fail
  refine (C4.out _).mono ?_
  rintro e w4 ⟨rfl, hb4⟩
  have W4 := Lib.hid (W3.out.kept hb4)
  have V4 := Lib.hid (V3.out.kept hb4)
  have R4 := Lib.hid (R3.out.kept hb4)
  have L4 := Lib.hid (L3.out.kept hb4)
  have B4 := Lib.hid (B3.out.trans (hb4.mono B3.out.size))
  clear hb4
  go_wp2_with fail
  refine (C5.out _ A2 A3 c2 c3 V4.out W4.out).mono ?_
  rintro e w5 ⟨rfl, rfl⟩
  rw [show decide True = true from rfl]
  go_wp2_with fail
  refine (C6.out _ A1 c1 us R4.out L4.out (hA.kept B4.out) (hL.kept B4.out)).mono ?_
  rintro e w6 ⟨rfl, hb6⟩
  rw [show decide True = true from rfl]
  have B6 := Lib.hid (B4.out.trans (hb6.mono B4.out.size))
  clear hb6
  go_wp2
  go_ret
  exact ⟨rfl, B6.out⟩
end Go.Proofs.Ytdgciajdnmgcnaa
