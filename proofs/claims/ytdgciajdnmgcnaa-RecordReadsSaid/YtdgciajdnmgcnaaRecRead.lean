/- Contracts: record.Read, and slices.ContainsFunc as it calls it; whatever is handed in. -/
import Derived.Test.YtdgciajdnmgcnaaRecBackPure
import Derived.Test.YtdgciajdnmgcnaaRecLists
namespace Go.Proofs.Ytdgciajdnmgcnaa
open Go.RowKit
set_option linter.unusedVariables false

theorem frm_data {l : List Int} (hI : IsB l) : IsB (frm l).data ∧ (frm l).data.length ≤ 496 := by
  obtain ⟨_, _, r3, r4⟩ := sec_range hI
  unfold frm frmS
  split
  · exact ⟨fun x hx => by simp at hx, by simp⟩
  split
  · exact ⟨isB_drop r3 2, by simp; omega⟩
  · exact ⟨fun x hx => by simp at hx, by simp⟩
set_option maxHeartbeats 1000000 in
theorem read1_any (A : Option Addr) (n c : Nat) (l : List Int) (w : World) (hn : l.length = n) (h : Rd w A (bys l)) (hI : IsB l) (hnc : n ≤ c) :
    Calls Try.prog 36 #[.slice A n c] w fun e w' => e = .returned (.bool ((sec l).err != 0)) ∧ Below w.heap.size w w' := by
  have C1 := Lib.hid (good_any A n c l w hn h hI hnc)
  clear h hn
  go_enter Try.func36, Try.ntmps36
  go_wp2_with fail
  refine C1.out.mono ?_
  rintro e w1 ⟨rfl, hb⟩
  go_wp2
  go_ret
  exact ⟨rfl, hb⟩
set_option maxRecDepth 100000 in
set_option maxHeartbeats 2000000 in
theorem index_any (A : Option Addr) (n c : Nat) (vs : List Value) (Ls : List (List Int)) (w : World) (hn : vs.length = n) (h : Rd w A vs) (hL : RdL w vs Ls) (hnb : n ≤ 4611686018427387904) :
    Calls Try.prog 53 #[.slice A n c, .func (.func 36) #[] #[]] w fun e w' => (∃ r : Int, e = .returned (.int .i64 r) ∧ ((badAny Ls = true ∧ 0 ≤ r) ∨ (badAny Ls = false ∧ r = -1))) ∧ Below w.heap.size w w' := by
  have HN := Lib.hid hn
  have HL1 := Lib.hid hL.1
  clear hn
  go_enter Try.func53, Try.ntmps53
  go_wp2_with fail
  go_loopw [8] (fun i wr => ∃ j : Nat, j ≤ n ∧ i = .int .i64 j ∧ (∀ (i : Nat) (L : List Int), i < j → Ls[i]? = some L → (sec L).err = 0) ∧ Below w.heap.size w wr) (fun i _ => n - (intOf i).toNat)
  case atStart => exact ⟨0, by omega, rfl, fun i L h => by omega, Below.refl _ _⟩
  case round =>
    obtain ⟨j, hj, rfl, hz, hb⟩ := hrel
    have HZ := Lib.hid hz
    clear hz
    by_cases hlt : j < n
    · have hjv : j < vs.length := by have := HN.out; omega
      have hjL : j < Ls.length := by have := HL1.out; omega
      obtain ⟨b, o, hAA, hc⟩ := (h.kept hb).at_ (j := j) hjv
      subst hAA
      obtain ⟨L, hLe⟩ : ∃ L, Ls[j]? = some L := ⟨_, List.getElem?_eq_getElem hjL⟩
      obtain ⟨A1, c1, g1, _, hc1, r1, I1⟩ := (hL.kept hb).2 j L hLe
      rw [List.getElem?_eq_getElem hjv] at g1
      rw [Option.some.inj g1] at hc
      have b1 : (0 : Int) ≤ (j : Int) ∧ (j : Int) < (n : Int) := by omega
      have C0 := read1_any A1 L.length c1 L wr rfl r1 I1 hc1
      have HLE := Lib.hid hLe
      by_cases he : (sec L).err = 0
      · have hd : ((sec L).err != 0) = false := by simpa using he
        rw [hd] at C0
        have C := Lib.hid C0
        have HE := Lib.hid he
        clear C0 hd g1 r1 I1 hc1 hLe he
        generalize L.length = nL at *
        go_wp2_with fail
        refine C.out.mono ?_
        rintro e w2 ⟨rfl, hb2⟩
        have HB2 := Lib.hid (hb.trans (hb2.mono hb.size))
        clear hb2
        go_wp2
        go_roundw
        case rel => exact ⟨j + 1, by omega, by go_num, fun i M hi hM => by
          by_cases hij : i = j
          · subst hij; rw [HLE.out] at hM; cases hM; exact HE.out
          · exact HZ.out i M (by omega) hM, HB2.out⟩
        case measure => simp [intOf]; omega
      · have hd : ((sec L).err != 0) = true := by simpa using he
        rw [hd] at C0
        have C := Lib.hid C0
        have hbad : badAny Ls = true := by unfold badAny; rw [List.any_eq_true]; exact ⟨L, List.mem_of_getElem? hLe, hd⟩
        have HBD := Lib.hid hbad
        clear C0 hd g1 r1 I1 hc1 hLe he hbad
        generalize L.length = nL at *
        go_wp2_with fail
        refine C.out.mono ?_
        rintro e w2 ⟨rfl, hb2⟩
        have HB2 := Lib.hid (hb.trans (hb2.mono hb.size))
        clear hb2
        go_wp2
        go_ret
        exact ⟨⟨(j : Int), rfl, .inl ⟨HBD.out, by omega⟩⟩, HB2.out⟩
    · obtain rfl : j = n := by omega
      have hok : badAny Ls = false := by
        unfold badAny; rw [List.any_eq_false]; intro x hx
        obtain ⟨i, hi⟩ := List.mem_iff_getElem?.1 hx
        have hil := (List.getElem?_eq_some_iff.1 hi).1
        have := HZ.out i x (by have := HN.out; have := HL1.out; omega) hi
        simp [this]
      have HOK := Lib.hid hok
      clear hok
      go_wp2
      go_ret
      exact ⟨⟨-1, rfl, .inr ⟨HOK.out, rfl⟩⟩, hb⟩
set_option maxHeartbeats 2000000 in
theorem contains_any (A : Option Addr) (n c : Nat) (vs : List Value) (Ls : List (List Int)) (w : World) (hn : vs.length = n) (h : Rd w A vs) (hL : RdL w vs Ls) (hnb : n ≤ 4611686018427387904) :
    Calls Try.prog 35 #[.slice A n c, .func (.func 36) #[] #[]] w fun e w' => e = .returned (.bool (badAny Ls)) ∧ Below w.heap.size w w' := by
  have C1 := Lib.hid (index_any A n c vs Ls w hn h hL hnb)
  clear h hn hL
  go_enter Try.func35, Try.ntmps35
  go_wp2_with fail
  refine C1.out.mono ?_
  rintro e w1 ⟨⟨r, rfl, hr⟩, hb⟩
  have HR := Lib.hid hr
  clear hr
  rcases HR.out with ⟨h1, h2⟩ | ⟨h1, h2⟩
  · have H1 := Lib.hid h1
    clear h1 HR
    go_wp2
    go_ret
    exact ⟨by rw [H1.out]; rfl, hb⟩
  · subst h2
    have H1 := Lib.hid h1
    clear h1 HR
    go_wp2
    go_ret
    exact ⟨by rw [H1.out]; rfl, hb⟩

/-- What a reading answers. -/
def readAt (e : Ending) (base : Nat) (w' : World) (er : Int) (l : List Int) : Prop :=
  ∃ v, e = .returned (.tuple #[v, .int .i64 er]) ∧ w'.ownsRow base 5 1 v l.length (bys l)
open Classical in
noncomputable def readVal (s n : Int) (Ls : List (List Int)) : List Int := if readErr s n Ls = 0 then datas Ls Ls.length else []
set_option maxHeartbeats 2000000 in
theorem read_arg (s k : Int) (A : Option Addr) (n c : Nat) (Ls : List (List Int)) (w : World) (h : s = 0 ∨ cntI k = 0) :
    Calls Try.prog 22 #[.int .u64 s, .int .i64 k, .slice A n c] w fun e w' => readAt e w.heap.size w' (readErr s k Ls) (readVal s k Ls) ∧ Below w.heap.size w w' := by
  have hr : readErr s k Ls = 1 := by unfold readErr; rw [if_pos h]
  have hv : readVal s k Ls = [] := by unfold readVal; rw [hr]; rfl
  have C1 := Lib.hid (fun w => count_any k w)
  have HR := Lib.hid hr
  have HV := Lib.hid hv
  clear hr hv
  generalize cntI k = f at *
  by_cases hs : s = 0
  · subst hs
    clear h
    go_enter Try.func22, Try.ntmps22
    go_wp2_with fail
    refine (C1.out _).mono ?_
    rintro e w1 ⟨rfl, rfl⟩
    go_wp2
    go_ret2
    exact ⟨⟨_, by rw [HR.out]; rfl, by rw [HV.out]; exact World.ownsRow_nil _ _ _ _⟩, Below.refl _ _⟩
  · obtain rfl : f = 0 := by rcases h with h | h; exact absurd h hs; exact h
    have h0 : (s == 0) = false := by simpa using hs
    clear h hs
    go_enter Try.func22, Try.ntmps22
    go_wp2_with fail
    refine (C1.out _).mono ?_
    rintro e w1 ⟨rfl, rfl⟩
    go_wp2
    go_ret2
    exact ⟨⟨_, by rw [HR.out]; rfl, by rw [HV.out]; exact World.ownsRow_nil _ _ _ _⟩, Below.refl _ _⟩
set_option maxHeartbeats 2000000 in
theorem read_len (s k : Int) (A : Option Addr) (n c : Nat) (Ls : List (List Int)) (w : World) (h : ¬ (s = 0 ∨ cntI k = 0)) (hn : Ls.length = n) (hne : (n : Int) ≠ cntI k) :
    Calls Try.prog 22 #[.int .u64 s, .int .i64 k, .slice A n c] w fun e w' => readAt e w.heap.size w' (readErr s k Ls) (readVal s k Ls) ∧ Below w.heap.size w w' := by
  have hr : readErr s k Ls = 5 := by unfold readErr; rw [if_neg h, if_pos (.inl (by rw [hn]; exact hne))]
  have hv : readVal s k Ls = [] := by unfold readVal; rw [hr]; rfl
  have C1 := Lib.hid (fun w => count_any k w)
  have HR := Lib.hid hr
  have HV := Lib.hid hv
  have h0 : (s == 0) = false := by simp; exact fun e => h (.inl e)
  have h1 : (cntI k == 0) = false := by simp; exact fun e => h (.inr e)
  have h2 : ((n : Int) != cntI k) = true := bne_iff_ne.2 hne
  clear hr hv h hn hne
  generalize cntI k = f at *
  go_enter Try.func22, Try.ntmps22
  go_wp2_with fail
  refine (C1.out _).mono ?_
  rintro e w1 ⟨rfl, rfl⟩
  go_wp2
  go_ret2
  exact ⟨⟨_, by rw [HR.out]; rfl, by rw [HV.out]; exact World.ownsRow_nil _ _ _ _⟩, Below.refl _ _⟩
set_option maxHeartbeats 2000000 in
theorem read_bad (s k : Int) (A : Option Addr) (n c : Nat) (vs : List Value) (Ls : List (List Int)) (w : World) (h : ¬ (s = 0 ∨ cntI k = 0)) (hn : vs.length = n) (he : (n : Int) = cntI k) (hA : Rd w A vs) (hL : RdL w vs Ls) (hb : badAny Ls = true) (hn9 : n ≤ 9) :
    Calls Try.prog 22 #[.int .u64 s, .int .i64 k, .slice A n c] w fun e w' => readAt e w.heap.size w' (readErr s k Ls) (readVal s k Ls) ∧ Below w.heap.size w w' := by
  have hr : readErr s k Ls = 5 := by unfold readErr; rw [if_neg h, if_pos (.inr hb)]
  have hv : readVal s k Ls = [] := by unfold readVal; rw [hr]; rfl
  have C1 := Lib.hid (fun w => count_any k w)
  have C2 := Lib.hid (contains_any A n c vs Ls w hn hA hL (by omega))
  rw [hb] at C2
  have HR := Lib.hid hr
  have HV := Lib.hid hv
  have h0 : (s == 0) = false := by simp; exact fun e => h (.inl e)
  have h1 : (cntI k == 0) = false := by simp; exact fun e => h (.inr e)
  have h2 : ((n : Int) != cntI k) = false := by simpa using he
  clear hr hv h hn he hA hL hb
  generalize cntI k = f at *
  go_enter Try.func22, Try.ntmps22
  go_wp2_with fail
  refine (C1.out _).mono ?_
  rintro e w1 ⟨rfl, rfl⟩
  go_wp2_with fail
  refine C2.out.mono ?_
  rintro e w2 ⟨rfl, hb2⟩
  go_wp2
  go_ret2
  exact ⟨⟨_, by rw [HR.out]; rfl, by rw [HV.out]; exact World.ownsRow_nil _ _ _ _⟩, hb2⟩
set_option maxRecDepth 100000 in
set_option maxHeartbeats 4000000 in
theorem read_run (s k : Int) (A : Option Addr) (n c : Nat) (vs : List Value) (Ls : List (List Int)) (w : World) (h : ¬ (s = 0 ∨ cntI k = 0)) (hn : vs.length = n) (he : (n : Int) = cntI k) (hA : Rd w A vs) (hL : RdL w vs Ls) (hb : badAny Ls = false) (hn9 : n ≤ 9) :
    Calls Try.prog 22 #[.int .u64 s, .int .i64 k, .slice A n c] w fun e w' => readAt e w.heap.size w' (readErr s k Ls) (readVal s k Ls) ∧ Below w.heap.size w w' := by
  have hln : Ls.length = n := hL.1.symm.trans hn
  have HLN := Lib.hid hln
  have HN := Lib.hid hn
  have HH := Lib.hid h
  have HG : Hid (¬ ((Ls.length : Int) ≠ cntI k ∨ badAny Ls = true)) := by
    have : ¬ ((Ls.length : Int) ≠ cntI k ∨ badAny Ls = true) := by rw [hln, he, hb]; simp
    exact Lib.hid this
  have HE := Lib.hid he
  have C1 := Lib.hid (fun w => count_any k w)
  have C2 := Lib.hid (contains_any A n c vs Ls w hn hA hL (by omega))
  rw [hb] at C2
  have C3 := Lib.hid (fun (w1 : World) (A1 : Option Addr) (c1 : Nat) (L : List Int) (r1 : Rd w1 A1 (bys L)) (I1 : IsB L) (hc1 : L.length ≤ c1) => part_any A1 L.length c1 L w1 rfl r1 I1 hc1)
  have h0 : (s == 0) = false := by simp; exact fun e => h (.inl e)
  have h1 : (cntI k == 0) = false := by simp; exact fun e => h (.inr e)
  have h2 : ((n : Int) != cntI k) = false := by simpa using he
  clear h hn he hb hln
  obtain ⟨f, hf⟩ : ∃ f, f = cntI k := ⟨_, rfl⟩
  rw [← hf] at C1 h1 h2
  have HF := Lib.hid hf
  clear hf
  go_enter Try.func22, Try.ntmps22
  go_wp2_with fail
  refine (C1.out _).mono ?_
  rintro e w1 ⟨rfl, rfl⟩
  go_wp2_with fail
  refine C2.out.mono ?_
  rintro e w2 ⟨rfl, hb2⟩
  have HB2 := Lib.hid hb2
  clear hb2
  go_wp2_with fail
  go_loopw [9, 32] (fun v i wr => ∃ (j m : Nat) (A' : Option Addr) (c' : Nat), j ≤ n ∧ i = .int .i64 j ∧ v = .slice A' m c' ∧ m = (datas Ls j).length ∧ m ≤ 496 * j ∧ wr.ownsRow w.heap.size 5 1 (.slice A' m c') m (bys (datas Ls j)) ∧ goodTo s f Ls j ∧ Below w.heap.size w wr) (fun v i _ => n - (intOf i).toNat)
  case atStart => exact ⟨0, 0, none, 0, by omega, rfl, rfl, by simp [datas], by omega, World.ownsRow_nil _ _ _ _, fun i L h => by omega, HB2.out⟩
  case round =>
    obtain ⟨j, m, A', c', hj, rfl, rfl, hm, hm9, hown, hg, hb⟩ := hrel
    have HO := Lib.hid hown
    have HGT := Lib.hid hg
    have HM := Lib.hid hm
    have HB := Lib.hid hb
    clear hown hg hm
    by_cases hlt : j < n
    · have hjv : j < vs.length := by have := HN.out; omega
      have hjL : j < Ls.length := by have := HLN.out; omega
      obtain ⟨b, o, hAA, hc⟩ := (hA.kept hb).at_ (j := j) hjv
      subst hAA
      obtain ⟨L, hLe⟩ : ∃ L, Ls[j]? = some L := ⟨_, List.getElem?_eq_getElem hjL⟩
      obtain ⟨A1, c1, g1, _, hc1, r1, I1⟩ := (hL.kept hb).2 j L hLe
      rw [List.getElem?_eq_getElem hjv] at g1
      rw [Option.some.inj g1] at hc
      have b1 : (0 : Int) ≤ (j : Int) ∧ (j : Int) < (n : Int) := by omega
      have HLE := Lib.hid hLe
      have C := Lib.hid (C3.out wr A1 c1 L r1 I1 hc1)
      obtain ⟨d1, d2⟩ := frm_data I1
      have ej : IntKind.u64.wrap (j : Int) = (j : Int) := u64w (by omega)
      clear g1 r1 I1 hc1 hLe hb
      generalize L.length = nL at *
      go_wp2_with fail
      refine C.out.mono ?_
      rintro e w3 ⟨⟨A2, c2, rfl, hcc2, hnn2, hrd2, hat2⟩, hb3⟩
      have hba : Below wr.heap.size wr (w3.alloc (.cells #[.int .u64 (frm L).age, .int .u64 (frm L).first, .int .i64 (frm L).of, .slice A2 (frm L).data.length c2] 36)) := hb3.alloc hb3.size _
      have HBa := Lib.hid (HB.out.trans (hba.mono HB.out.size))
      have HOa := Lib.hid (own_kept HO.out hba)
      have HR2 := Lib.hid (hrd2.kept ((Below.refl _ w3).alloc (Nat.le_refl _) (.cells #[.int .u64 (frm L).age, .int .u64 (frm L).first, .int .i64 (frm L).of, .slice A2 (frm L).data.length c2] 36)))
      have BL3 := heap_alloc_new w3 (.cells #[.int .u64 (frm L).age, .int .u64 (frm L).first, .int .i64 (frm L).of, .slice A2 (frm L).data.length c2] 36)
      have x0 := block_cell (L := [.int .u64 (frm L).age, .int .u64 (frm L).first, .int .i64 (frm L).of, .slice A2 (frm L).data.length c2]) BL3 0
      have x1 := block_cell (L := [.int .u64 (frm L).age, .int .u64 (frm L).first, .int .i64 (frm L).of, .slice A2 (frm L).data.length c2]) BL3 1
      have x2 := block_cell (L := [.int .u64 (frm L).age, .int .u64 (frm L).first, .int .i64 (frm L).of, .slice A2 (frm L).data.length c2]) BL3 2
      have x3 := block_cell (L := [.int .u64 (frm L).age, .int .u64 (frm L).first, .int .i64 (frm L).of, .slice A2 (frm L).data.length c2]) BL3 3
      have HNN2 := Lib.hid hnn2
      clear hrd2 hat2 hb3 hba BL3 hnn2
      cases hp : partOK s f j L with
      | false =>
        have hr : readErr s k Ls = 11 := by
          unfold readErr; rw [if_neg HH.out, if_neg HG.out, if_neg]
          rintro ⟨hh, _⟩
          have := hh j L HLE.out
          rw [← HF.out, hp] at this; cases this
        have hv : readVal s k Ls = [] := by unfold readVal; rw [hr]; rfl
        have HR := Lib.hid hr
        have HV := Lib.hid hv
        clear hr hv
        by_cases p1 : (frm L).err = 0
        · have q1 : ((frm L).err != 0) = false := by simpa using p1
          by_cases p2 : (frm L).age = s
          · have q2 : ((frm L).age != s) = false := by simpa using p2
            by_cases p3 : (frm L).first = (j : Int)
            · have q3 : ((frm L).first != (j : Int)) = false := by simpa using p3
              have p4 : (frm L).of ≠ f := by intro e; unfold partOK at hp; simp [p1, p2, p3, e] at hp
              have q4 : ((frm L).of != f) = true := bne_iff_ne.2 p4
              clear hp p1 p2 p3 p4
              go_wp2
              go_ret2
              exact ⟨⟨_, by rw [HR.out]; rfl, by rw [HV.out]; exact World.ownsRow_nil _ _ _ _⟩, HBa.out⟩
            · have q3 : ((frm L).first != (j : Int)) = true := bne_iff_ne.2 p3
              clear hp p1 p2 p3
              go_wp2
              go_ret2
              exact ⟨⟨_, by rw [HR.out]; rfl, by rw [HV.out]; exact World.ownsRow_nil _ _ _ _⟩, HBa.out⟩
          · have q2 : ((frm L).age != s) = true := bne_iff_ne.2 p2
            clear hp p1 p2
            go_wp2
            go_ret2
            exact ⟨⟨_, by rw [HR.out]; rfl, by rw [HV.out]; exact World.ownsRow_nil _ _ _ _⟩, HBa.out⟩
        · have q1 : ((frm L).err != 0) = true := bne_iff_ne.2 p1
          clear hp p1
          go_wp2
          go_ret2
          exact ⟨⟨_, by rw [HR.out]; rfl, by rw [HV.out]; exact World.ownsRow_nil _ _ _ _⟩, HBa.out⟩
      | true =>
        have hpp := hp
        unfold partOK at hpp
        simp only [Bool.and_eq_true, beq_iff_eq] at hpp
        have q1 : ((frm L).err != 0) = false := by simpa using hpp.1.1.1
        have q2 : ((frm L).age != s) = false := by simpa using hpp.1.1.2
        have q3 : ((frm L).first != (j : Int)) = false := by simpa using hpp.1.2
        have q4 : ((frm L).of != f) = false := by simpa using hpp.2
        have HP := Lib.hid hp
        have HST := Lib.hid (datas_step HLE.out)
        have HDL : Hid ((bys (frm L).data).length = (frm L).data.length * 1) := by
          have : (bys (frm L).data).length = (frm L).data.length * 1 := by rw [bys_length]; omega
          exact Lib.hid this
        clear hp hpp
        have HD : Hid ((datas Ls (j + 1)).length = m + (frm L).data.length) := by
          have : (datas Ls (j + 1)).length = m + (frm L).data.length := by rw [HST.out, List.length_append, HM.out]
          exact Lib.hid this
        go_wp2_with (at_builtin; go_must (refine wpList_append_rd rfl _ _ 23 rfl w.heap.size 5 (.int .u8 0) 1 1 Try.underlying23 infoU8 rfl (by decide) _ m (bys (datas Ls j)) rfl HOa.out A2 (frm L).data.length c2 (bys (frm L).data) rfl HNN2.out HDL.out HR2.out (bys_one _) (by unfold maxLen; omega) (by omega) HBa.out.size ?_))
        intro v8 w8 hown8 hg8
        have hb8 := below_app HBa.out HBa.out.size HOa.out hg8
        have HB8 := Lib.hid hb8
        obtain ⟨A8, c8, rfl, hc8⟩ := own_sh hown8
        have HO8 : Hid (w8.ownsRow w.heap.size 5 1 (.slice A8 (m + (frm L).data.length) c8) (m + (frm L).data.length) (bys (datas Ls (j + 1)))) := by
          rw [HST.out, bys_append]; exact hown8
        clear hown8 hg8 hb8 hc8 x0 x1 x2 x3
        go_wp2
        go_roundw
        case rel => exact ⟨j + 1, m + (frm L).data.length, A8, c8, by omega, by go_num, rfl, HD.out.symm, by omega, HO8.out, goodTo_step HGT.out HLE.out HP.out, HB8.out⟩
        case measure => simp [intOf]; omega
    · obtain rfl : j = n := by omega
      have hall : ∀ (i : Nat) (L : List Int), Ls[i]? = some L → partOK s (cntI k) i L = true := by
        intro i L hi
        have hil := (List.getElem?_eq_some_iff.1 hi).1
        rw [← HF.out]
        exact HGT.out i L (by have := HLN.out; omega) hi
      by_cases hk : (m : Int) = k
      · have hr : readErr s k Ls = 0 := by
          unfold readErr; rw [if_neg HH.out, if_neg HG.out, if_pos ⟨hall, by rw [HLN.out, ← HM.out]; exact hk⟩]
        have hv : readVal s k Ls = datas Ls j := by unfold readVal; rw [hr, if_pos rfl, HLN.out]
        have HR := Lib.hid hr
        have HV := Lib.hid hv
        have q : ((m : Int) != k) = false := by simpa using hk
        clear hr hv hall hk
        go_wp2
        go_ret2
        exact ⟨⟨_, by rw [HR.out]; rfl, by rw [HV.out, ← HM.out]; exact HO.out⟩, hb⟩
      · have hr : readErr s k Ls = 11 := by
          unfold readErr; rw [if_neg HH.out, if_neg HG.out, if_neg]
          rintro ⟨_, h2⟩
          rw [HLN.out, ← HM.out] at h2; exact hk h2
        have hv : readVal s k Ls = [] := by unfold readVal; rw [hr]; rfl
        have HR := Lib.hid hr
        have HV := Lib.hid hv
        have q : ((m : Int) != k) = true := bne_iff_ne.2 hk
        clear hr hv hall hk
        go_wp2
        go_ret2
        exact ⟨⟨_, by rw [HR.out]; rfl, by rw [HV.out]; exact World.ownsRow_nil _ _ _ _⟩, hb⟩
theorem cntI_le (k : Int) : cntI k ≤ 9 := by
  unfold cntI
  split
  · omega
  · have := (cnt_pos (n := k.toNat) (by omega)).2; omega
theorem read_any (s k : Int) (A : Option Addr) (n c : Nat) (vs : List Value) (Ls : List (List Int)) (w : World) (hn : vs.length = n) (hA : Rd w A vs) (hL : RdL w vs Ls) :
    Calls Try.prog 22 #[.int .u64 s, .int .i64 k, .slice A n c] w fun e w' => readAt e w.heap.size w' (readErr s k Ls) (readVal s k Ls) ∧ Below w.heap.size w w' := by
  by_cases h : s = 0 ∨ cntI k = 0
  · exact read_arg s k A n c Ls w h
  by_cases he : (n : Int) = cntI k
  · have hn9 : n ≤ 9 := by have := cntI_le k; omega
    cases hb : badAny Ls with
    | true => exact read_bad s k A n c vs Ls w h hn he hA hL hb hn9
    | false => exact read_run s k A n c vs Ls w h hn he hA hL hb hn9
  · exact read_len s k A n c Ls w h (hL.1.symm.trans hn) he
end Go.Proofs.Ytdgciajdnmgcnaa
