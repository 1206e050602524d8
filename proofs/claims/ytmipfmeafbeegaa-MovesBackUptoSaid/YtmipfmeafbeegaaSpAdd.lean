/- Contracts of the package space: meet, slices.IndexFunc, slices.ContainsFunc, slices.Clone of extents, Add. -/
import Derived.Test.YtmipfmeafbeegaaSpCheck
import Derived.Deep.RegionHeld3
import Derived.Deep.DeepCutAuto
namespace Go.Proofs.Ytmipfmeafbeegaa
open Go.RowKit
set_option linter.unusedVariables false

def Small (x : Ext) : Prop := 0 ≤ x.2.1 ∧ x.2.1 ≤ 65536 ∧ 1 ≤ x.2.2 ∧ x.2.2 ≤ 9
theorem small_of_one {C : Int} {x : Ext} (h : oneB C x.1 x.2.1 x.2.2 = true) : Small x := by
  have := (oneB_iff _ _ _ _).1 h
  unfold Small; omega
theorem rightF_all {C : Int} : ∀ (xs : List Ext) (en : Int) (ss : List Int), rightF C en ss xs = true → ∀ x ∈ xs, oneB C x.1 x.2.1 x.2.2 = true
  | [], _, _, _, x, hx => by simp at hx
  | y :: r, en, ss, h, x, hx => by
    simp only [rightF, Bool.and_eq_true] at h
    rcases List.mem_cons.1 hx with rfl | hx
    · exact h.1.1.1
    · exact rightF_all r _ _ h.2 x hx
theorem checkE_all {C : Int} {xs : List Ext} (h : checkE C xs = true) : ∀ x ∈ xs, oneB C x.1 x.2.1 x.2.2 = true := by
  simp only [checkE, Bool.and_eq_true] at h
  exact rightF_all xs _ _ h.2
def meetB (a b : Ext) : Bool := decide (a.2.1 < b.2.1 + b.2.2) && decide (b.2.1 < a.2.1 + a.2.2)
theorem meet_any (a b : Ext) (w : World) (ha : Small a) (hb : Small b) :
    Calls Try.prog 50 #[.agg #[.int .u64 a.1, .int .i64 a.2.1, .int .i64 a.2.2], .agg #[.int .u64 b.1, .int .i64 b.2.1, .int .i64 b.2.2]] w fun e w' => e = .returned (.bool (meetB a b)) ∧ Below w.heap.size w w' := by
  obtain ⟨a1, a2, a3, a4⟩ := ha
  obtain ⟨b1, b2, b3, b4⟩ := hb
  by_cases h : a.2.1 < b.2.1 + b.2.2
  · go_enter Try.func50, Try.ntmps50
    go_wp2
    go_ret
    exact ⟨bool_ (by unfold meetB; simp; try omega), below2 _ _ _⟩
  · have h' : b.2.1 + b.2.2 ≤ a.2.1 := by omega
    clear h
    go_enter Try.func50, Try.ntmps50
    go_wp2
    go_ret
    exact ⟨bool_ (by unfold meetB; simp; try omega), below2 _ _ _⟩
def clash (e x : Ext) : Bool := decide (x.1 = e.1) || meetB x e
theorem clash_any (e x : Ext) (be : Nat) (w : World) (hbe : w.heap[be]? = some (.cells #[.int .u64 e.1, .int .i64 e.2.1, .int .i64 e.2.2] 26 (0, 0))) (hx : Small x) (he : Small e) :
    Calls Try.prog 49 #[.agg #[.int .u64 x.1, .int .i64 x.2.1, .int .i64 x.2.2], .pointer (some ⟨be, 0, none⟩)] w fun e' w' => e' = .returned (.bool (clash e x)) ∧ Below w.heap.size w w' := by
  have hlt := (Array.getElem?_eq_some_iff.1 hbe).1
  have hc := fun i => (Below.cell (below1 w (.cells #[.int .u64 x.1, .int .i64 x.2.1, .int .i64 x.2.2] 26)) (p := ⟨be, i, none⟩) hlt).trans (cell_of_row w be i _ _ _ hbe)
  have C := Lib.hid (fun w1 => meet_any x e w1 hx he)
  clear hx he hbe
  by_cases h : x.1 = e.1
  · have q : (x.1 == e.1) = true := by simpa using h
    have HP : Hid (clash e x = true) := Lib.hid (by simp [clash, h])
    clear h C
    go_enter Try.func49, Try.ntmps49
    go_wp2
    go_ret
    exact ⟨by rw [HP.out]; rfl, below1 _ _⟩
  · have q : (x.1 == e.1) = false := by simpa using h
    have HP : Hid (clash e x = meetB x e) := Lib.hid (by simp [clash, h])
    clear h
    go_enter Try.func49, Try.ntmps49
    go_wp2_with fail
    refine (C.out _).mono ?_
    rintro e' w1 ⟨rfl, hb1⟩
    have HB := Lib.hid ((below1 w _).trans (hb1.mono (by simp)))
    clear hb1
    go_wp2
    go_ret
    exact ⟨by rw [HP.out]; rfl, HB.out⟩
def idxE (p : Ext → Bool) (xs : List Ext) : Int := match xs.findIdx? p with
  | some i => (i : Int)
  | none => -1
set_option maxRecDepth 100000 in
set_option maxHeartbeats 1000000 in
theorem indexf_any (g : Nat) (cb : Value) (p : Ext → Bool) (he : ∀ args (w1 : World), (callFunc g args).run Try.prog w1 = .ok (.enter g args) w1) (A : Option Addr) (n c : Nat) (xs : List Ext) (w : World) (hn : xs.length = n) (h : Rd w A ((xs.map rowExt).flatten)) (hcap : n ≤ 5864062014700)
    (hp : ∀ x ∈ xs, ∀ w1, Below w.heap.size w w1 → Calls Try.prog g #[.agg #[.int .u64 x.1, .int .i64 x.2.1, .int .i64 x.2.2], cb] w1 fun e w' => e = .returned (.bool (p x)) ∧ Below w1.heap.size w1 w') :
    Calls Try.prog 55 #[.slice A n c, .func (.func g) #[] #[cb]] w fun e w' => e = .returned (.int .i64 (idxE p xs)) ∧ Below w.heap.size w w' := by
  have HN := Lib.hid hn
  have HR := Lib.hid h
  have HP := Lib.hid hp
  clear hn h hp
  go_enter Try.func55, Try.ntmps55
  go_wp2_with fail
  go_loopw [8] (fun i wr => ∃ k : Nat, k ≤ n ∧ i = .int .i64 k ∧ Hid (∀ x ∈ xs.take k, p x = false) ∧ Hid (Below w.heap.size w wr)) (fun i _ => n - (intOf i).toNat)
  case atStart => exact ⟨0, by omega, rfl, Lib.hid (by simp), Lib.hid (Below.refl _ _)⟩
  case round =>
    obtain ⟨k, hk, rfl, HF, HB⟩ := hrel
    by_cases hlt : k < n
    · have hkx : k < xs.length := by have := HN.out; omega
      obtain ⟨b, o, rfl, hrow⟩ := (HR.out.kept HB.out).at_row (extRow_len xs) (by decide) (i := k) (r := rowExt xs[k]) (by simp [List.getElem?_eq_getElem hkx])
      have hz := HB.out.size
      have CP := Lib.hid (HP.out xs[k] (List.getElem_mem hkx) wr HB.out)
      have HT : Hid (xs.take (k + 1) = xs.take k ++ [xs[k]]) := Lib.hid (by rw [List.take_add_one, List.getElem?_eq_getElem hkx]; rfl)
      have HX : Hid (p xs[k] = true → xs.findIdx? p = some k) := Lib.hid (fun hpx => by
        rw [List.findIdx?_eq_some_iff_getElem]
        refine ⟨hkx, hpx, fun j hj => ?_⟩
        have := HF.out xs[j] (by rw [List.mem_take_iff_getElem]; exact ⟨j, by omega, rfl⟩)
        simp [this])
      have c0 := hrow 0 _ rfl
      have c1 := hrow 1 _ rfl
      have c2 := hrow 2 _ rfl
      simp only [Nat.add_zero] at c0
      have b1 : (0 : Int) ≤ (k : Int) ∧ (k : Int) < (n : Int) := by omega
      clear hrow
      generalize xs[k] = x at *
      cases hpx : p x with
      | true =>
        rw [hpx] at CP
        have HPX := Lib.hid hpx
        clear hpx
        go_wp2_with fail
        refine CP.out.mono ?_
        rintro e w1 ⟨rfl, hb1⟩
        have HB1 := Lib.hid (HB.out.trans (hb1.mono hz))
        clear hb1
        go_wp2
        go_ret
        exact ⟨by unfold idxE; rw [HX.out HPX.out]; rfl, HB1.out⟩
      | false =>
        rw [hpx] at CP
        have HPX := Lib.hid hpx
        clear hpx
        go_wp2_with fail
        refine CP.out.mono ?_
        rintro e w1 ⟨rfl, hb1⟩
        have HB1 := Lib.hid (HB.out.trans (hb1.mono hz))
        clear hb1
        go_wp2
        go_roundw
        case rel => exact ⟨k + 1, by omega, by go_num, Lib.hid (by rw [HT.out]; intro y hy; rcases List.mem_append.1 hy with hy | hy; exact HF.out y hy; simp at hy; rw [hy]; exact HPX.out), HB1⟩
        case measure => simp [intOf]; omega
    · obtain rfl : k = n := by omega
      have HX : Hid (xs.findIdx? p = none) := Lib.hid (by
        rw [List.findIdx?_eq_none_iff]
        intro x hx
        exact HF.out x (by rw [List.take_of_length_le (by have := HN.out; omega)]; exact hx))
      go_wp2
      go_ret
      exact ⟨by unfold idxE; rw [HX.out]; rfl, HB.out⟩
theorem idxE_any (p : Ext → Bool) (xs : List Ext) : decide (0 ≤ idxE p xs) = xs.any p := by
  unfold idxE
  cases h : xs.findIdx? p with
  | none =>
    rw [List.findIdx?_eq_none_iff] at h
    have : xs.any p = false := by simpa [List.any_eq_false] using h
    rw [this]; rfl
  | some i =>
    obtain ⟨hi, hp, _⟩ := List.findIdx?_eq_some_iff_getElem.1 h
    have : xs.any p = true := List.any_eq_true.2 ⟨_, List.getElem_mem hi, hp⟩
    rw [this]; simp
theorem containsf_any (g : Nat) (cb : Value) (p : Ext → Bool) (he : ∀ args (w1 : World), (callFunc g args).run Try.prog w1 = .ok (.enter g args) w1) (A : Option Addr) (n c : Nat) (xs : List Ext) (w : World) (hn : xs.length = n) (h : Rd w A ((xs.map rowExt).flatten)) (hcap : n ≤ 5864062014700)
    (hp : ∀ x ∈ xs, ∀ w1, Below w.heap.size w w1 → Calls Try.prog g #[.agg #[.int .u64 x.1, .int .i64 x.2.1, .int .i64 x.2.2], cb] w1 fun e w' => e = .returned (.bool (p x)) ∧ Below w1.heap.size w1 w') :
    Calls Try.prog 48 #[.slice A n c, .func (.func g) #[] #[cb]] w fun e w' => e = .returned (.bool (xs.any p)) ∧ Below w.heap.size w w' := by
  have C := Lib.hid (indexf_any g cb p he A n c xs w hn h hcap hp)
  have HE := Lib.hid (idxE_any p xs)
  clear hn h hp he
  generalize idxE p xs = i at *
  generalize xs.any p = r at *
  go_enter Try.func48, Try.ntmps48
  go_wp2_with fail
  refine C.out.mono ?_
  rintro e w1 ⟨rfl, hb1⟩
  have HB := Lib.hid hb1
  clear hb1
  go_wp2
  go_ret
  exact ⟨by rw [← HE.out]; rfl, HB.out⟩
theorem infoE : (Try.prog.info? 26).map (fun i => (i.zero, i.size, i.bytes)) = some (some (.agg #[.int .u64 0, .int .i64 0, .int .i64 0]), 3, 24) := by kernel_rfl
theorem extRows_one (xs : List Ext) : ∀ u ∈ (xs.map rowExt).flatten, u.oneCell' = true := by
  intro u hu
  obtain ⟨r, hr, hu⟩ := List.mem_flatten.1 hu
  obtain ⟨y, _, rfl⟩ := List.mem_map.1 hr
  exact rowExt_one y u hu
theorem extRows_len (xs : List Ext) : ((xs.map rowExt).flatten).length = xs.length * 3 := by
  rw [flat_len 3 _ (extRow_len xs)]; simp
set_option maxHeartbeats 1000000 in
theorem cloneE_any (A : Option Addr) (n c : Nat) (xs : List Ext) (w : World) (hn : xs.length = n) (hA : A = none → n = 0 ∧ c = 0) (h : Rd w A ((xs.map rowExt).flatten)) (hcap : n ≤ 5864062014700) :
    Calls Try.prog 51 #[.slice A n c] w fun e w' => ∃ v', e = .returned v' ∧ w'.ownsRow w.heap.size 26 3 v' n ((xs.map rowExt).flatten) ∧ Below w.heap.size w w' := by
  have qn : ∀ (w : World) (a : Option Addr) (n c n' c' : Nat), (binOp .eql 22 (.slice a n c) (.slice none n' c')).run Try.prog w = .ok (.bool a.isNone) w := fun w a n c n' c' => Lib.run_eql_slice_nil w _ _ a n c n' c' Try.underlying22
  cases A with
  | none =>
    obtain ⟨rfl, rfl⟩ := hA rfl
    obtain rfl : xs = [] := List.eq_nil_of_length_eq_zero hn
    clear h hA
    go_enter Try.func51, Try.ntmps51
    go_wp2
    go_ret
    exact ⟨_, rfl, World.ownsRow_nil _ _ _ _, Below.refl _ _⟩
  | some ad =>
    have HR := Lib.hid h
    have HL := Lib.hid (show ((xs.map rowExt).flatten).length = n * 3 by rw [extRows_len, hn])
    have H1 := Lib.hid (extRows_one xs)
    clear h hA hn
    generalize (xs.map rowExt).flatten = M at *
    go_enter Try.func51, Try.ntmps51
    go_wp2_with (at_builtin; go_must (refine wpList_append_rd rfl _ _ 22 rfl w.heap.size 26 (.agg #[.int .u64 0, .int .i64 0, .int .i64 0]) 3 24 Try.underlying22 infoE rfl (by decide) _ 0 [] rfl (World.ownsRow_made w #[] 0 (Nat.le_refl _) (Nat.zero_le _) rfl) _ n c M rfl (by simp) HL.out (HR.out.kept ((Below.refl _ _).alloc (Nat.le_refl _) _)) H1.out (by unfold maxLen; omega) (by omega) (by simp) ?_))
    intro v' w' hown hg
    go_wp2
    go_ret
    exact ⟨v', rfl, by simpa using hown, (((Below.refl _ _).alloc (Nat.le_refl _) _).grown hg (by simp) (by simp [Value.ownBlock]))⟩
end Go.Proofs.Ytmipfmeafbeegaa
