/- Contracts: slices.Clone of a queue's things, Fork. -/
import Derived.Test.YtmanjeolhifhiaaQLNil
import Derived.Deep.RegionHeld3
namespace Go.Proofs.Ytmanjeolhifhiaa
open Go.RowKit
set_option linter.unusedVariables false

set_option maxHeartbeats 1000000 in
theorem cloneT_any (base : Nat) (v : Value) (n : Nat) (xs : List Value) (w : World) (h : w.ownsRow base 98 3 v n xs) (hn : n ≤ 4000000000) (h1 : ∀ u ∈ xs, u.oneCell' = true) :
    Calls Try.prog 45 #[v] w fun e w' => ∃ v', e = .returned v' ∧ w'.ownsRow w.heap.size 98 3 v' n xs ∧ Below w.heap.size w w' := by
  have qn : ∀ (w : World) (a : Option Addr) (n c n' c' : Nat), (binOp .eql 84 (.slice a n c) (.slice none n' c')).run Try.prog w = .ok (.bool a.isNone) w := fun w a n c n' c' => Lib.run_eql_slice_nil w _ _ a n c n' c' Try.underlying84
  obtain ⟨A, c, rfl, hnc, hcm, hrd, hlen⟩ := own_rd h
  cases A with
  | none =>
    obtain ⟨rfl, rfl⟩ : n = 0 ∧ c = 0 := by
      rcases h.2 with ⟨h1, _⟩ | ⟨g, cap, cur, h1, _⟩
      · simp at h1; exact h1
      · simp at h1
    obtain rfl : xs = [] := List.eq_nil_of_length_eq_zero (by omega)
    clear h hrd hlen
    go_enter Try.func45, Try.ntmps45
    go_wp2
    go_ret
    exact ⟨_, rfl, World.ownsRow_nil _ _ _ _, Below.refl _ _⟩
  | some ad =>
    have HR := Lib.hid hrd
    have HL := Lib.hid hlen
    clear h hrd hlen
    go_enter Try.func45, Try.ntmps45
    go_wp2_with (at_builtin; go_must (refine wpList_append_rd rfl _ _ 84 rfl w.heap.size 98 (.agg #[.int .i64 0, .string ⟨#[]⟩, .int .i64 0]) 3 32 Try.underlying84 infoItm rfl (by decide) _ 0 [] rfl (World.ownsRow_made w #[] 0 (Nat.le_refl _) (Nat.zero_le _) rfl) _ n c xs rfl (by simp) HL.out (HR.out.kept ((Below.refl _ _).alloc (Nat.le_refl _) _)) h1 (by unfold maxLen; omega) (by omega) (by simp) ?_))
    intro v' w' hown hg
    go_wp2
    go_ret
    exact ⟨v', rfl, by simpa using hown, (((Below.refl _ _).alloc (Nat.le_refl _) _).grown hg (by simp) (by simp [Value.ownBlock]))⟩
set_option maxRecDepth 100000 in
set_option maxHeartbeats 2000000 in
theorem qItm_fork (base : Nat) (less : Itm → Itm → Bool) (fn : Nat) (w : World) (q : Nat) (v : Value) (S : List (Itm × Nat)) (tn : Nat) (h : QIsItm base less fn q v S tn w) (hS : S.length ≤ 4000000000) :
    Calls Try.prog 31 #[.pointer (some ⟨q, 0, none⟩)] w fun e w' => ∃ q' v', e = .returned (.pointer (some ⟨q', 0, none⟩)) ∧ QIsItm w.heap.size less fn q' v' S tn w' ∧ Below w.heap.size w w' := by
  obtain ⟨⟨l, hq, hs⟩, ht⟩ := h
  have hlq := hq.lt
  have hone : ∀ u ∈ (l.map thItm).flatten, u.oneCell' = true := by
    intro u hu
    obtain ⟨r, hr, hu⟩ := List.mem_flatten.1 hu
    obtain ⟨y, _, rfl⟩ := List.mem_map.1 hr
    exact thItm_one y u hu
  have C := Lib.hid (fun (w1 : World) (hb : Below w.heap.size w w1) => cloneT_any base v l.length _ w1 (own_kept hq.own hb) (by rw [hs.len]; exact hS) hone)
  have HK := Lib.hid (fun (w1 : World) (hb : Below w.heap.size w w1) => show w1.cell? ⟨q, 0, none⟩ = some v ∧ w1.cell? ⟨q, 1, none⟩ = some (.func (.func fn) #[] #[]) ∧ w1.cell? ⟨q, 2, none⟩ = some (.int .i64 (tn : Int)) from by
    have hb1 := (hq.kept hb).blk
    exact ⟨by rw [cell_of_row w1 q 0 _ _ _ hb1]; rfl, by rw [cell_of_row w1 q 1 _ _ _ hb1]; rfl, by rw [cell_of_row w1 q 2 _ _ _ hb1]; rfl⟩)
  have HS := Lib.hid hs
  have HT := Lib.hid ht
  obtain ⟨k0, k1, k2⟩ := HK.out w (Below.refl _ _)
  obtain ⟨A0, c0, rfl, _⟩ := own_sh hq.own
  clear hq hs ht hone
  go_enter Try.func31, Try.ntmps31
  go_upto_region 3 with fail
  go_region_held3 (fun w' => w'.cell? ⟨q, 0, none⟩ = some (.slice A0 l.length c0) ∧ w'.cell? ⟨q, 1, none⟩ = some (.func (.func fn) #[] #[]) ∧ w'.cell? ⟨q, 2, none⟩ = some (.int .i64 (tn : Int)))
    (first
      | exact ⟨k0, k1, k2⟩
      | exact HK1.out
      | exact HK.out _ (HB1.out.alloc HB1.out.size _))
    (first
      | (go_at_call 45; refine (C.out _ (Below.refl _ _).drew).mono ?_; rintro e w1 ⟨v1, rfl, hown1, hb1⟩; obtain ⟨A1, c1, rfl, _⟩ := own_sh hown1; have HB1 := Lib.hid ((Below.refl w.heap.size w).drew.trans hb1); have HO1 := Lib.hid hown1; have HK1 := Lib.hid (HK.out w1 HB1.out); clear hown1 hb1))
  go_wp2
  go_ret
  have hz1 := HB1.out.size
  have hO : w1.ownsRow w.heap.size 98 3 (.slice A1 l.length c1) l.length ((l.map thItm).flatten) := HO1.out
  refine ⟨_, _, rfl, ⟨⟨l, ⟨heap_alloc_new _ _, hO.alloc _, hz1, fun j hj => ?_⟩, HS.out⟩, HT.out⟩, HB1.out.alloc hz1 _⟩
  have := hO.lt j hj
  omega
end Go.Proofs.Ytmanjeolhifhiaa
