/- Contract of space.Check. -/
import Derived.Test.YtmipfmeafbeegaaSpCom
import Derived.Test.YtmipfmeafbeegaaSeen
import Derived.Carry
namespace Go.Proofs.Ytmipfmeafbeegaa
open Go.RowKit
set_option linter.unusedVariables false

/-- May they be, one behind the other, from place en on, with none of the numbers ss? -/
def rightF (C : Int) : Int → List Int → List Ext → Bool
  | _, _, [] => true
  | en, ss, x :: r => oneB C x.1 x.2.1 x.2.2 && decide (en ≤ x.2.1) && !(decide (x.1 ∈ ss)) && rightF C (x.2.1 + x.2.2) (x.1 :: ss) r
def checkE (C : Int) (xs : List Ext) : Bool := decide (0 ≤ C ∧ C ≤ 65536) && rightF C 0 [] xs
theorem rightF_step (C en : Int) (ss : List Int) (x : Ext) (r : List Ext) (h1 : oneB C x.1 x.2.1 x.2.2 = true) (h2 : en ≤ x.2.1) (h3 : x.1 ∉ ss) : rightF C en ss (x :: r) = rightF C (x.2.1 + x.2.2) (x.1 :: ss) r := by
  simp [rightF, h1, h2, h3]
theorem rightF_no1 (C en : Int) (ss : List Int) (x : Ext) (r : List Ext) (h1 : oneB C x.1 x.2.1 x.2.2 = false) : rightF C en ss (x :: r) = false := by
  simp [rightF, h1]
theorem rightF_no2 (C en : Int) (ss : List Int) (x : Ext) (r : List Ext) (h2 : x.2.1 < en) : rightF C en ss (x :: r) = false := by
  have h3 : ¬ en ≤ x.2.1 := by omega
  simp [rightF, h3]
theorem rightF_no3 (C en : Int) (ss : List Int) (x : Ext) (r : List Ext) (h3 : x.1 ∈ ss) : rightF C en ss (x :: r) = false := by
  simp [rightF, h3]
def errE (b : Bool) : Int := if b then 0 else 11
set_option maxRecDepth 100000 in
set_option maxHeartbeats 2000000 in
theorem check_any (C : Int) (A : Option Addr) (n c : Nat) (xs : List Ext) (w : World) (hn : xs.length = n) (h : Rd w A ((xs.map rowExt).flatten)) (hcap : n ≤ 5864062014700) (hw : ∀ x ∈ xs, (Lit.int .u64 x.1).wf = true) :
    Calls Try.prog 24 #[.int .i64 C, .slice A n c] w fun e w' => e = .returned (.int .i64 (errE (checkE C xs))) ∧ Below w.heap.size w w' := by
  by_cases c1 : 0 ≤ C
  case neg =>
    have c1' : C < 0 := by omega
    have e : checkE C xs = false := by simp [checkE, c1]
    rw [e]
    clear c1 e hn h hw
    go_enter Try.func24, Try.ntmps24
    go_wp2
    go_ret
    exact ⟨rfl, Below.refl _ _⟩
  by_cases c2 : C ≤ 65536
  case neg =>
    have c2' : 65536 < C := by omega
    have e : checkE C xs = false := by simp [checkE, c2]
    rw [e]
    clear c2 e hn h hw
    go_enter Try.func24, Try.ntmps24
    go_wp2
    go_ret
    exact ⟨rfl, Below.refl _ _⟩
  have HE : Hid (checkE C xs = rightF C 0 [] xs) := Lib.hid (by simp [checkE, c1, c2])
  have HN := Lib.hid hn
  have HR := Lib.hid h
  have HW := Lib.hid hw
  have CA := Lib.hid (fun (x : Ext) (w1 : World) => alone_any C x.1 x.2.1 x.2.2 w1 c1 c2)
  have hmm := @run_makeMap Try.prog
  clear hn h hw
  go_enter Try.func24, Try.ntmps24
  go_wp2_with fail
  go_loopw [6, 18] (fun s i wr => ∃ (k : Nat) (en : Int) (ss : List Int), k ≤ n ∧ i = .int .i64 k ∧ s = .int .i64 en ∧ 0 ≤ en ∧ en ≤ 65536 ∧ Hid (rightF C 0 [] xs = rightF C en ss (xs.drop k)) ∧ Hid (Seen wr w.heap.size k ss) ∧ Hid (Below w.heap.size w wr)) (fun _ i _ => n - (intOf i).toNat)
  case atStart => exact ⟨0, 0, [], by omega, rfl, rfl, by omega, by omega, Lib.hid rfl, Lib.hid (Seen.made w), Lib.hid (below1 _ _)⟩
  case round =>
    obtain ⟨k, en, ss, hk, rfl, rfl, he1, he2, HF, HS, HB⟩ := hrel
    by_cases hlt : k < n
    · have hkx : k < xs.length := by have := HN.out; omega
      obtain ⟨b, o, rfl, hrow⟩ := (HR.out.kept HB.out).at_row (extRow_len xs) (by decide) (i := k) (r := rowExt xs[k]) (by simp [List.getElem?_eq_getElem hkx])
      have HD : Hid (xs.drop k = xs[k] :: xs.drop (k + 1)) := Lib.hid (List.drop_eq_getElem_cons hkx)
      have HX : Hid ((Lit.int .u64 xs[k].1).wf = true) := Lib.hid (HW.out _ (List.getElem_mem hkx))
      have hz := HB.out.size
      have c0 := hrow 0 _ rfl
      have k1 := hrow 1 _ rfl
      have k2 := hrow 2 _ rfl
      simp only [Nat.add_zero] at c0
      have b1 : (0 : Int) ≤ (k : Int) ∧ (k : Int) < (n : Int) := by omega
      clear hrow
      generalize xs[k] = x at *
      obtain ⟨wb, hwb⟩ : ∃ wb : World, wb = wr.alloc (.cells #[.int .u64 x.1, .int .i64 x.2.1, .int .i64 x.2.2] 26) := ⟨_, rfl⟩
      have HBb : Hid (Below w.heap.size w wb) := by rw [hwb]; exact Lib.hid (HB.out.alloc hz _)
      have HSb : Hid (Seen wb w.heap.size k ss) := by rw [hwb]; exact Lib.hid (HS.out.kept (below1 _ _))
      have hblk : wb.heap[wr.heap.size]? = some (.cells #[.int .u64 x.1, .int .i64 x.2.1, .int .i64 x.2.2] 26 (0, 0)) := by rw [hwb]; exact heap_alloc_new _ _
      have HBK := Lib.hid hblk
      have HZ : Hid (wr.heap.size < wb.heap.size) := by rw [hwb]; exact Lib.hid (by simp)
      clear hblk
      have CA1 := CA.out x wb
      cases ho : oneB C x.1 x.2.1 x.2.2 with
      | false =>
        rw [ho] at CA1
        have HO := Lib.hid ho
        have HCA := Lib.hid CA1
        clear ho CA1 CA
        go_wp2_with fail
        rw [← hwb]
        clear hwb
        refine HCA.out.mono ?_
        rintro e w3 ⟨rfl, hb3⟩
        have HB3 := Lib.hid (HBb.out.trans (hb3.mono HBb.out.size))
        clear hb3
        go_wp2
        go_ret
        exact ⟨by rw [HE.out, HF.out, HD.out, rightF_no1 _ _ _ _ _ HO.out]; rfl, HB3.out⟩
      | true =>
        rw [ho] at CA1
        obtain ⟨_, _, s1, n1, n2, a1, a2⟩ := (oneB_iff _ _ _ _).1 ho
        have HO := Lib.hid ho
        have HCA := Lib.hid CA1
        clear ho CA1 CA
        go_wp2_with fail
        rw [← hwb]
        clear hwb c0 k1 k2
        refine HCA.out.mono ?_
        rintro e w3 ⟨rfl, hb3⟩
        have hc := fun i => cell_of_row w3 wr.heap.size i _ _ _ ((hb3.block _ HZ.out).trans HBK.out)
        have HB3 := Lib.hid (HBb.out.trans (hb3.mono HBb.out.size))
        have HS3 := Lib.hid (HSb.out.kept hb3)
        clear hb3
        by_cases hen : en ≤ x.2.1
        · have hl := HS3.out.look x.1 HX.out
          by_cases hin : x.1 ∈ ss
          · rw [decide_eq_true hin] at hl
            have HIN := Lib.hid hin
            clear hin
            go_wp2
            go_ret
            exact ⟨by rw [HE.out, HF.out, HD.out, rightF_no3 _ _ _ _ _ HIN.out]; rfl, HB3.out⟩
          · rw [decide_eq_false hin] at hl
            have HIN := Lib.hid hin
            obtain ⟨w4, hput, hs4, hg4⟩ := HS3.out.put (by unfold maxLen; omega) x.1 HX.out
            have HZ3 : Hid (wr.heap.size ≠ w.heap.size) := Lib.hid (by have := HS.out.lt; omega)
            have hc4 := fun i u (h : w3.cell? ⟨wr.heap.size, i, none⟩ = some u) => hg4.cell (a := ⟨wr.heap.size, i, none⟩) h (by intro e; injection e with e; exact HZ3.out e)
            have d1 := hc4 1 _ (by rw [hc 1]; rfl)
            have d2 := hc4 2 _ (by rw [hc 2]; rfl)
            have HS4 := Lib.hid hs4
            have HB4 := Lib.hid (HB3.out.grown hg4 HB3.out.size (fun j e => by injection e with e; omega))
            clear hin hs4 hg4 hc4
            go_wp2
            go_roundw
            case rel => exact ⟨k + 1, x.2.1 + x.2.2, x.1 :: ss, by omega, by go_num, by go_num, by omega, by omega, Lib.hid (by rw [HF.out, HD.out]; exact rightF_step _ _ _ _ _ HO.out hen HIN.out), HS4, HB4⟩
            case measure => simp [intOf]; omega
        · have HNO := Lib.hid hen
          have hen' : x.2.1 < en := by omega
          clear hen
          go_wp2
          go_ret
          exact ⟨by rw [HE.out, HF.out, HD.out, rightF_no2 _ _ _ _ _ HNO.out]; rfl, HB3.out⟩
    · obtain rfl : k = n := by omega
      have HD : Hid (xs.drop k = []) := Lib.hid (List.drop_of_length_le (by have := HN.out; omega))
      go_wp2
      go_ret
      exact ⟨by rw [HE.out, HF.out, HD.out]; rfl, HB.out⟩
end Go.Proofs.Ytmipfmeafbeegaa
