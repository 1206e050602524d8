/- Contracts: dunnageref03.Good, dunnageref21.Read; whatever is handed in. -/
import Derived.Test.YtdgciajdnmgcnaaRecReadsPure
import Derived.Test.YtdgciajdnmgcnaaRecRead
import Derived.Test.YtdgciajdnmgcnaaRecRefPart
namespace Go.Proofs.Ytdgciajdnmgcnaa
open Go.RowKit
set_option linter.unusedVariables false

set_option maxHeartbeats 2000000 in
theorem refgood_any (A : Option Addr) (n c : Nat) (l : List Int) (w : World) (hn : l.length = n) (h : Rd w A (bys l)) (hI : IsB l) (hnc : n ≤ c) :
    Calls Try.prog 38 #[.slice A n c] w fun e w' => e = .returned (.bool ((sec l).err == 0)) ∧ Below w.heap.size w w' := by
  have C1 := Lib.hid (refopen_any A n c l w hn h hI hnc)
  clear h hn
  go_enter Try.func38, Try.ntmps38
  go_wp2_with fail
  refine C1.out.mono ?_
  rintro e w1 ⟨⟨v, rfl, hown⟩, hb⟩
  obtain ⟨A', c', rfl, _, _, _, _⟩ := own_rd hown
  clear hown
  go_wp2
  go_ret
  exact ⟨rfl, hb.alloc hb.size _⟩
theorem datas_isB {Ls : List (List Int)} (h : ∀ x ∈ Ls, IsB x) (j : Nat) : IsB (datas Ls j) := by
  intro x hx
  unfold datas at hx
  simp only [List.mem_flatten, List.mem_map] at hx
  obtain ⟨d, ⟨L, hL, rfl⟩, hx⟩ := hx
  exact (frm_data (h L (List.mem_of_mem_take hL))).1 x hx
theorem cntI_zero {k : Int} : cntI k = 0 ↔ (k < 0 ∨ 4096 < k) := by
  unfold cntI
  constructor
  · intro h; by_cases hk : k < 0 ∨ 4096 < k
    · exact hk
    · rw [if_neg hk] at h; have := (cnt_pos (n := k.toNat) (by omega)).1; omega
  · intro h; rw [if_pos h]
set_option maxHeartbeats 2000000 in
theorem refread_s (s k : Int) (A : Option Addr) (n c : Nat) (Ls : List (List Int)) (w : World) (h : s = 0) :
    Calls Try.prog 23 #[.int .u64 s, .int .i64 k, .slice A n c] w fun e w' => readAt e w.heap.size w' (readErr s k Ls) (readVal s k Ls) ∧ Below w.heap.size w w' := by
  have hr : readErr s k Ls = 1 := by unfold readErr; rw [if_pos (.inl h)]
  have q0 : (s == 0) = true := by simpa using h
  clear h
  have hv : readVal s k Ls = [] := by unfold readVal; rw [hr]; rfl
  have HR := Lib.hid hr
  have HV := Lib.hid hv
  clear hr hv
  go_enter Try.func23, Try.ntmps23
  go_wp2
  go_ret2
  exact ⟨⟨_, by rw [HR.out]; rfl, by rw [HV.out]; exact World.ownsRow_nil _ _ _ _⟩, Below.refl _ _⟩
set_option maxHeartbeats 2000000 in
theorem refread_neg (s k : Int) (A : Option Addr) (n c : Nat) (Ls : List (List Int)) (w : World) (h0 : s ≠ 0) (h : k < 0) :
    Calls Try.prog 23 #[.int .u64 s, .int .i64 k, .slice A n c] w fun e w' => readAt e w.heap.size w' (readErr s k Ls) (readVal s k Ls) ∧ Below w.heap.size w w' := by
  have hr : readErr s k Ls = 1 := by unfold readErr; rw [if_pos (.inr (cntI_zero.2 (.inl h)))]
  have q0 : (s == 0) = false := by simpa using h0
  clear h0
  have hv : readVal s k Ls = [] := by unfold readVal; rw [hr]; rfl
  have HR := Lib.hid hr
  have HV := Lib.hid hv
  clear hr hv
  go_enter Try.func23, Try.ntmps23
  go_wp2
  go_ret2
  exact ⟨⟨_, by rw [HR.out]; rfl, by rw [HV.out]; exact World.ownsRow_nil _ _ _ _⟩, Below.refl _ _⟩
set_option maxHeartbeats 2000000 in
theorem refread_big (s k : Int) (A : Option Addr) (n c : Nat) (Ls : List (List Int)) (w : World) (h0 : s ≠ 0) (h1 : ¬ k < 0) (h : 4096 < k) :
    Calls Try.prog 23 #[.int .u64 s, .int .i64 k, .slice A n c] w fun e w' => readAt e w.heap.size w' (readErr s k Ls) (readVal s k Ls) ∧ Below w.heap.size w w' := by
  have hr : readErr s k Ls = 1 := by unfold readErr; rw [if_pos (.inr (cntI_zero.2 (.inr h)))]
  have q0 : (s == 0) = false := by simpa using h0
  clear h0
  have hv : readVal s k Ls = [] := by unfold readVal; rw [hr]; rfl
  have HR := Lib.hid hr
  have HV := Lib.hid hv
  clear hr hv
  go_enter Try.func23, Try.ntmps23
  go_wp2
  go_ret2
  exact ⟨⟨_, by rw [HR.out]; rfl, by rw [HV.out]; exact World.ownsRow_nil _ _ _ _⟩, Below.refl _ _⟩
set_option maxHeartbeats 2000000 in
theorem refread_len (s k : Int) (A : Option Addr) (n c : Nat) (Ls : List (List Int)) (w : World) (h0 : s ≠ 0) (h1 : ¬ k < 0) (h2 : ¬ 4096 < k) (hn : Ls.length = n) (hne : (n : Int) ≠ cntI k) :
    Calls Try.prog 23 #[.int .u64 s, .int .i64 k, .slice A n c] w fun e w' => readAt e w.heap.size w' (readErr s k Ls) (readVal s k Ls) ∧ Below w.heap.size w w' := by
  have hr : readErr s k Ls = 5 := by unfold readErr; rw [if_neg (by rw [cntI_zero]; omega), if_pos (.inl (by rw [hn]; exact hne))]
  have hv : readVal s k Ls = [] := by unfold readVal; rw [hr]; rfl
  have C1 := Lib.hid (fun w => refcount_any k w)
  have HR := Lib.hid hr
  have HV := Lib.hid hv
  have q0 : (s == 0) = false := by simpa using h0
  have q2 : ((n : Int) != cntI k) = true := bne_iff_ne.2 hne
  clear hr hv h0 hn hne
  generalize cntI k = f at *
  go_enter Try.func23, Try.ntmps23
  go_wp2_with fail
  refine (C1.out _).mono ?_
  rintro e w1 ⟨rfl, rfl⟩
  go_wp2
  go_ret2
  exact ⟨⟨_, by rw [HR.out]; rfl, by rw [HV.out]; exact World.ownsRow_nil _ _ _ _⟩, Below.refl _ _⟩
set_option maxRecDepth 100000 in
set_option maxHeartbeats 4000000 in
theorem refread_run (s k : Int) (A : Option Addr) (n c : Nat) (vs : List Value) (Ls : List (List Int)) (w : World) (hs : 0 < s ∧ s < 18446744073709551616) (h1 : ¬ k < 0) (h2 : ¬ 4096 < k) (hn : vs.length = n) (he : (n : Int) = cntI k) (hA : Rd w A vs) (hL : RdL w vs Ls) (hn9 : n ≤ 9) :
    Calls Try.prog 23 #[.int .u64 s, .int .i64 k, .slice A n c] w fun e w' => readAt e w.heap.size w' (readErr s k Ls) (readVal s k Ls) ∧ Below w.heap.size w w' := by
  obtain ⟨kn, rfl⟩ := Int.eq_ofNat_of_zero_le (show 0 ≤ k by omega)
  have hkn : kn ≤ 4096 := by omega
  rw [cntI_nat] at he
  have hln : Ls.length = n := hL.1.symm.trans hn
  have hnc : n = cnt kn := by omega
  have hIB : ∀ x ∈ Ls, IsB x := by
    intro x hx
    obtain ⟨i, hi⟩ := List.mem_iff_getElem?.1 hx
    obtain ⟨_, _, _, _, _, _, I⟩ := hL.2 i x hi
    exact I
  have C1 := Lib.hid (fun w => refcount_any (kn : Int) w)
  rw [cntI_nat, ← hnc] at C1
  have C2 := Lib.hid (fun (w1 : World) (A1 : Option Addr) (c1 : Nat) (L : List Int) (r1 : Rd w1 A1 (bys L)) (I1 : IsB L) (hc1 : L.length ≤ c1) => refgood_any A1 L.length c1 L w1 rfl r1 I1 hc1)
  have C3 := Lib.hid (fun (w1 : World) (A1 : Option Addr) (c1 : Nat) (L : List Int) (r1 : Rd w1 A1 (bys L)) (I1 : IsB L) (hc1 : L.length ≤ c1) => refpart_any A1 L.length c1 L w1 rfl r1 I1 hc1)
  have HLN := Lib.hid hln
  have HN := Lib.hid hn
  have HNC := Lib.hid hnc
  have HIB := Lib.hid hIB
  have HS := Lib.hid hs
  have HNZ : Hid (¬ (s = 0 ∨ cntI (kn : Int) = 0)) := by
    have h : ¬ (s = 0 ∨ cntI (kn : Int) = 0) := by rw [cntI_nat]; have := cnt_pos hkn; omega
    exact Lib.hid h
  have q0 : (s == 0) = false := by simp; omega
  have q1 : ((n : Int) != (n : Int)) = false := by simp
  clear hn he hln hnc hIB hs
  go_enter Try.func23, Try.ntmps23
  go_wp2_with fail
  refine (C1.out _).mono ?_
  rintro e w1 ⟨rfl, rfl⟩
  go_wp2_with fail
  go_loopw [8] (fun i wr => ∃ j : Nat, j ≤ n ∧ i = .int .i64 j ∧ (∀ (i : Nat) (L : List Int), i < j → Ls[i]? = some L → (sec L).err = 0) ∧ Below w.heap.size w wr) (fun i _ => n - (intOf i).toNat)
  case atStart => exact ⟨0, by omega, rfl, fun i L h => by omega, Below.refl _ _⟩
  case round =>
    obtain ⟨j, hj, rfl, hz, hb⟩ := hrel
    have HZ := Lib.hid hz
    clear hz
    by_cases hlt : j < n
    · have hjv : j < vs.length := by have := HN.out; omega
      have hjL : j < Ls.length := by have := HLN.out; omega
      obtain ⟨b, o, hAA, hc⟩ := (hA.kept hb).at_ (j := j) hjv
      subst hAA
      obtain ⟨L, hLe⟩ : ∃ L, Ls[j]? = some L := ⟨_, List.getElem?_eq_getElem hjL⟩
      obtain ⟨A1, c1, g1, _, hc1, r1, I1⟩ := (hL.kept hb).2 j L hLe
      rw [List.getElem?_eq_getElem hjv] at g1
      rw [Option.some.inj g1] at hc
      have b1 : (0 : Int) ≤ (j : Int) ∧ (j : Int) < (n : Int) := by omega
      have C0 := C2.out wr A1 c1 L r1 I1 hc1
      have HLE := Lib.hid hLe
      by_cases he : (sec L).err = 0
      · have hd : ((sec L).err == 0) = true := by simpa using he
        rw [hd] at C0
        have C := Lib.hid C0
        have HE := Lib.hid he
        clear C0 hd g1 r1 I1 hc1 hLe he
        generalize L.length = nL at *
        go_wp2_with fail
        refine C.out.mono ?_
        rintro e w2 ⟨rfl, hb2⟩
        have HB2 := Lib.hid (hb.trans (hb2.mono hb.size))
        clear hb2
        go_wp2
        go_roundw
        case rel => exact ⟨j + 1, by omega, by go_num, fun i M hi hM => by
          by_cases hij : i = j
          · subst hij; rw [HLE.out] at hM; cases hM; exact HE.out
          · exact HZ.out i M (by omega) hM, HB2.out⟩
        case measure => simp [intOf]; omega
      · have hd : ((sec L).err == 0) = false := by simpa using he
        rw [hd] at C0
        have C := Lib.hid C0
        have hbad : badAny Ls = true := by unfold badAny; rw [List.any_eq_true]; exact ⟨L, List.mem_of_getElem? hLe, by simpa using he⟩
        have hr : readErr s (kn : Int) Ls = 5 := by unfold readErr; rw [if_neg HNZ.out, if_pos (.inr hbad)]
        have hv : readVal s (kn : Int) Ls = [] := by unfold readVal; rw [hr]; rfl
        have HR := Lib.hid hr
        have HV := Lib.hid hv
        clear C0 hd g1 r1 I1 hc1 hLe he hbad hr hv
        generalize L.length = nL at *
        go_wp2_with fail
        refine C.out.mono ?_
        rintro e w2 ⟨rfl, hb2⟩
        have HB2 := Lib.hid (hb.trans (hb2.mono hb.size))
        clear hb2
        go_wp2
        go_ret2
        exact ⟨⟨_, by rw [HR.out]; rfl, by rw [HV.out]; exact World.ownsRow_nil _ _ _ _⟩, HB2.out⟩
    · obtain rfl : j = n := by omega
      have hbad : badAny Ls = false := badAny_of (fun x hx => by
        obtain ⟨i, hi⟩ := List.mem_iff_getElem?.1 hx
        exact HZ.out i x (by have := (List.getElem?_eq_some_iff.1 hi).1; have := HLN.out; omega) hi)
      have HIFF := Lib.hid (readErr_iff (s := s) (n := kn) HS.out hkn (by rw [HLN.out, HNC.out]) HIB.out hbad (datas_isB HIB.out _))
      have HBW := Lib.hid hb
      clear hbad hb HZ
      go_wp2_with fail
      go_loopw [9, 10] (fun v i wr => ∃ (t m : Nat) (A' : Option Addr) (c' : Nat), t ≤ j ∧ i = .int .i64 t ∧ v = .slice A' m c' ∧ m = (datas Ls t).length ∧ m ≤ 496 * t ∧ wr.ownsRow w.heap.size 5 1 (.slice A' m c') m (bys (datas Ls t)) ∧ Below w.heap.size w wr) (fun v i _ => j - (intOf i).toNat)
      case atStart => exact ⟨0, 0, none, 0, by omega, rfl, rfl, by simp [datas], by omega, World.ownsRow_nil _ _ _ _, HBW.out⟩
      case round =>
        obtain ⟨t, m, A', c', ht, rfl, rfl, hm, hm9, hown, hb⟩ := hrel
        have HO := Lib.hid hown
        have HM := Lib.hid hm
        have HB := Lib.hid hb
        clear hown hm
        by_cases hlt2 : t < j
        · have hjv : t < vs.length := by have := HN.out; omega
          have hjL : t < Ls.length := by have := HLN.out; omega
          obtain ⟨b, o, hAA, hc⟩ := (hA.kept hb).at_ (j := t) hjv
          subst hAA
          obtain ⟨L, hLe⟩ : ∃ L, Ls[t]? = some L := ⟨_, List.getElem?_eq_getElem hjL⟩
          obtain ⟨A1, c1, g1, _, hc1, r1, I1⟩ := (hL.kept hb).2 t L hLe
          rw [List.getElem?_eq_getElem hjv] at g1
          rw [Option.some.inj g1] at hc
          have b1 : (0 : Int) ≤ (t : Int) ∧ (t : Int) < (j : Int) := by omega
          have HLE := Lib.hid hLe
          have C := Lib.hid (C3.out wr A1 c1 L r1 I1 hc1)
          obtain ⟨d1, d2⟩ := frm_data I1
          clear g1 r1 I1 hc1 hLe hb
          generalize L.length = nL at *
          go_wp2_with fail
          refine C.out.mono ?_
          rintro e w3 ⟨⟨A2, c2, rfl, hcc2, hnn2, hrd2, hat2⟩, hb3⟩
          have hba : Below wr.heap.size wr (w3.alloc (.cells #[.int .u64 (frm L).age, .int .u64 (frm L).first, .int .i64 (frm L).of, .slice A2 (frm L).data.length c2] 36)) := hb3.alloc hb3.size _
          have HBa := Lib.hid (HB.out.trans (hba.mono HB.out.size))
          have HOa := Lib.hid (own_kept HO.out hba)
          have HR2 := Lib.hid (hrd2.kept ((Below.refl _ w3).alloc (Nat.le_refl _) (.cells #[.int .u64 (frm L).age, .int .u64 (frm L).first, .int .i64 (frm L).of, .slice A2 (frm L).data.length c2] 36)))
          have BL3 := heap_alloc_new w3 (.cells #[.int .u64 (frm L).age, .int .u64 (frm L).first, .int .i64 (frm L).of, .slice A2 (frm L).data.length c2] 36)
          have x0 := block_cell (L := [.int .u64 (frm L).age, .int .u64 (frm L).first, .int .i64 (frm L).of, .slice A2 (frm L).data.length c2]) BL3 0
          have x1 := block_cell (L := [.int .u64 (frm L).age, .int .u64 (frm L).first, .int .i64 (frm L).of, .slice A2 (frm L).data.length c2]) BL3 1
          have x2 := block_cell (L := [.int .u64 (frm L).age, .int .u64 (frm L).first, .int .i64 (frm L).of, .slice A2 (frm L).data.length c2]) BL3 2
          have x3 := block_cell (L := [.int .u64 (frm L).age, .int .u64 (frm L).first, .int .i64 (frm L).of, .slice A2 (frm L).data.length c2]) BL3 3
          have HNN2 := Lib.hid hnn2
          have HST := Lib.hid (datas_step HLE.out)
          have HDL : Hid ((bys (frm L).data).length = (frm L).data.length * 1) := by
            have : (bys (frm L).data).length = (frm L).data.length * 1 := by rw [bys_length]; omega
            exact Lib.hid this
          have HD : Hid ((datas Ls (t + 1)).length = m + (frm L).data.length) := by
            have : (datas Ls (t + 1)).length = m + (frm L).data.length := by rw [HST.out, List.length_append, HM.out]
            exact Lib.hid this
          clear hrd2 hat2 hb3 hba BL3 hnn2
          go_wp2_with (at_builtin; go_must (refine wpList_append_rd rfl _ _ 23 rfl w.heap.size 5 (.int .u8 0) 1 1 Try.underlying23 infoU8 rfl (by decide) _ m (bys (datas Ls t)) rfl HOa.out A2 (frm L).data.length c2 (bys (frm L).data) rfl HNN2.out HDL.out HR2.out (bys_one _) (by unfold maxLen; omega) (by omega) HBa.out.size ?_))
          intro v8 w8 hown8 hg8
          have hb8 := below_app HBa.out HBa.out.size HOa.out hg8
          have HB8 := Lib.hid hb8
          obtain ⟨A8, c8, rfl, hc8⟩ := own_sh hown8
          have HO8 : Hid (w8.ownsRow w.heap.size 5 1 (.slice A8 (m + (frm L).data.length) c8) (m + (frm L).data.length) (bys (datas Ls (t + 1)))) := by
            rw [HST.out, bys_append]; exact hown8
          clear hown8 hg8 hb8 hc8 x0 x1 x2 x3
          go_wp2
          go_roundw
          case rel => exact ⟨t + 1, m + (frm L).data.length, A8, c8, by omega, by go_num, rfl, HD.out.symm, by omega, HO8.out, HB8.out⟩
          case measure => simp [intOf]; omega
        · obtain rfl : t = j := by omega
          have HT : Hid (datas Ls Ls.length = datas Ls t) := by
            have : datas Ls Ls.length = datas Ls t := by rw [HLN.out]
            exact Lib.hid this
          by_cases hk : (m : Int) = (kn : Int)
          · obtain ⟨A9, c9, he9, hc9, _, hrd9, hlen9⟩ := own_rd HO.out
            obtain ⟨rfl, rfl⟩ : A' = A9 ∧ c' = c9 := by simpa using he9
            have hA9 : A' = none → m = 0 ∧ c' = 0 := by
              rintro rfl
              rcases HO.out.2 with ⟨h, h0⟩ | ⟨g, cap, cur, h, _⟩
              · simp at h; exact ⟨h0, h.2⟩
              · simp at h
            obtain rfl : m = kn := by omega
            have hdB := datas_isB HIB.out t
            have C4 := Lib.hid (refwrite_ok s A' m c' (datas Ls t) wr HS.out HM.out.symm hkn hc9 hA9 hrd9 hdB)
            have hrl : (recL s (datas Ls t)).length = t := by rw [recL_length, ← HM.out, ← HNC.out]
            have HRB := Lib.hid (fun x hx => (recL_mem (s := s) hdB (by rw [← HM.out]; exact hkn) x hx).2)
            have C5 := Lib.hid (fun (w1 : World) (B : Option Addr) (d : Nat) (us : List Value) (hB : Rd w1 B us) (hM : RdL w1 us (recL s (datas Ls t))) (hA' : Rd w1 A vs) (hL' : RdL w1 vs Ls) => lists_any B t d us (recL s (datas Ls t)) A t c vs Ls w1 (hM.1.trans hrl) HN.out hB hA' hM hL' (by omega) (by omega))
            rw [← HNC.out] at C4
            have q : ((m : Int) != (m : Int)) = false := by simp
            have HRD := Lib.hid hrd9
            clear hc9 hrd9 hlen9 hA9 he9 hdB hrl hk
            go_wp2_with fail
            refine C4.out.mono ?_
            rintro e w5 ⟨v5, us, rfl, hown5, hS5, hb5⟩
            obtain ⟨B5, d5, rfl, hd5, _, hrd5, _⟩ := own_rd hown5
            have HB5 := Lib.hid (HB.out.trans (hb5.mono HB.out.size))
            have HO5 := Lib.hid (own_kept HO.out hb5)
            have HU5 := Lib.hid (hS5.rdl HRB.out)
            have HR5 := Lib.hid hrd5
            clear hown5 hS5 hb5 hrd5
            have C6 := Lib.hid (C5.out _ B5 d5 us HR5.out HU5.out (hA.kept HB5.out) (hL.kept HB5.out))
            by_cases hR : recL s (datas Ls t) = Ls
            · have hr : readErr s (m : Int) Ls = 0 := by rw [HIFF.out, HT.out, ← HM.out, if_pos rfl, if_pos hR]
              have hv : readVal s (m : Int) Ls = datas Ls t := by unfold readVal; rw [if_pos hr, HT.out]
              have HR := Lib.hid hr
              have HV := Lib.hid hv
              have hd : decide (recL s (datas Ls t) = Ls) = true := by simpa using hR
              rw [hd] at C6
              clear hr hv hR hd
              go_wp2_with fail
              refine C6.out.mono ?_
              rintro e w6 ⟨rfl, hb6⟩
              have HB6 := Lib.hid (HB5.out.trans (hb6.mono HB5.out.size))
              have HO6 := Lib.hid (own_kept HO5.out hb6)
              clear hb6
              go_wp2
              go_ret2
              exact ⟨⟨_, by rw [HR.out]; rfl, by rw [HV.out, ← HM.out]; exact HO6.out⟩, HB6.out⟩
            · have hr : readErr s (m : Int) Ls = 11 := by rw [HIFF.out, HT.out, ← HM.out, if_pos rfl, if_neg hR]
              have hv : readVal s (m : Int) Ls = [] := by unfold readVal; rw [hr]; rfl
              have HR := Lib.hid hr
              have HV := Lib.hid hv
              have hd : decide (recL s (datas Ls t) = Ls) = false := by simpa using hR
              rw [hd] at C6
              clear hr hv hR hd
              go_wp2_with fail
              refine C6.out.mono ?_
              rintro e w6 ⟨rfl, hb6⟩
              have HB6 := Lib.hid (HB5.out.trans (hb6.mono HB5.out.size))
              clear hb6
              go_wp2
              go_ret2
              exact ⟨⟨_, by rw [HR.out]; rfl, by rw [HV.out]; exact World.ownsRow_nil _ _ _ _⟩, HB6.out⟩
          · have hr : readErr s (kn : Int) Ls = 11 := by rw [HIFF.out, HT.out, ← HM.out, if_neg (by omega)]
            have hv : readVal s (kn : Int) Ls = [] := by unfold readVal; rw [hr]; rfl
            have HR := Lib.hid hr
            have HV := Lib.hid hv
            have q : ((m : Int) != (kn : Int)) = true := bne_iff_ne.2 hk
            clear hr hv hk
            go_wp2
            go_ret2
            exact ⟨⟨_, by rw [HR.out]; rfl, by rw [HV.out]; exact World.ownsRow_nil _ _ _ _⟩, HB.out⟩
theorem refread_any (s k : Int) (A : Option Addr) (n c : Nat) (vs : List Value) (Ls : List (List Int)) (w : World) (hs : 0 ≤ s ∧ s < 18446744073709551616) (hn : vs.length = n) (hA : Rd w A vs) (hL : RdL w vs Ls) :
    Calls Try.prog 23 #[.int .u64 s, .int .i64 k, .slice A n c] w fun e w' => readAt e w.heap.size w' (readErr s k Ls) (readVal s k Ls) ∧ Below w.heap.size w w' := by
  by_cases h0 : s = 0
  · exact refread_s s k A n c Ls w h0
  by_cases h1 : k < 0
  · exact refread_neg s k A n c Ls w h0 h1
  by_cases h2 : 4096 < k
  · exact refread_big s k A n c Ls w h0 h1 h2
  by_cases he : (n : Int) = cntI k
  · exact refread_run s k A n c vs Ls w (by omega) h1 h2 hn he hA hL (by have := cntI_le k; omega)
  · exact refread_len s k A n c Ls w h0 h1 h2 (hL.1.symm.trans hn) he
end Go.Proofs.Ytdgciajdnmgcnaa
