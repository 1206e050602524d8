/- Plain laws of extents that stand one behind the other, and of what lies between them. -/
import Derived.Test.YtmipfmeafbeegaaSpCheck
namespace Go.Proofs.Ytmipfmeafbeegaa
open Go.RowKit
set_option linter.unusedVariables false

/-- One behind the other, from place en on. -/
def Chain : Int → List Ext → Prop
  | _, [] => True
  | en, x :: r => en ≤ x.2.1 ∧ 1 ≤ x.2.2 ∧ x.2.2 ≤ 9 ∧ x.2.1 + x.2.2 ≤ 65536 ∧ Chain (x.2.1 + x.2.2) r
theorem chain_of {C : Int} (hC : C ≤ 65536) : ∀ (xs : List Ext) (en : Int) (ss : List Int), rightF C en ss xs = true → Chain en xs
  | [], _, _, _ => trivial
  | x :: r, en, ss, h => by
    simp only [rightF, Bool.and_eq_true, decide_eq_true_eq] at h
    obtain ⟨⟨⟨h1, h2⟩, _⟩, h4⟩ := h
    have h1 := (oneB_iff _ _ _ _).1 h1
    exact ⟨h2, by omega, by omega, by omega, chain_of hC r _ _ h4⟩
theorem chainE {C : Int} {xs : List Ext} (h : checkE C xs = true) : Chain 0 xs := by
  simp only [checkE, Bool.and_eq_true, decide_eq_true_eq] at h
  exact chain_of h.1.2 xs _ _ h.2
def gapsF : Int → List Ext → List Ext
  | _, [] => []
  | en, x :: r => (if en < x.2.1 then [(0, en, x.2.1 - en)] else []) ++ gapsF (x.2.1 + x.2.2) r
def endF : Int → List Ext → Int
  | en, [] => en
  | _, x :: r => endF (x.2.1 + x.2.2) r
def sumN : List Ext → Int
  | [] => 0
  | x :: r => x.2.2 + sumN r
/-- 1 where at_ lies from a on, below b. -/
def inn (at_ a b : Int) : Int := if a ≤ at_ ∧ at_ < b then 1 else 0
theorem inn_nil (at_ a : Int) : inn at_ a a = 0 := by
  unfold inn; rw [if_neg (by omega)]
theorem inn_two (at_ a b c : Int) (h1 : a ≤ b) (h2 : b ≤ c) : inn at_ a c = inn at_ a b + inn at_ b c := by
  unfold inn
  by_cases q1 : a ≤ at_ <;> by_cases q2 : at_ < b <;> by_cases q3 : at_ < c <;> by_cases q4 : b ≤ at_ <;> simp [q1, q2, q3, q4] <;> omega
theorem inn_bound (at_ a b : Int) : 0 ≤ inn at_ a b ∧ inn at_ a b ≤ 1 := by
  unfold inn
  by_cases q : a ≤ at_ ∧ at_ < b <;> simp [q]
def hits (at_ : Int) : List Ext → Int
  | [] => 0
  | x :: r => inn at_ x.2.1 (x.2.1 + x.2.2) + hits at_ r
theorem endF_ge : ∀ (xs : List Ext) (en : Int), en ≤ 65536 → Chain en xs → en ≤ endF en xs ∧ endF en xs ≤ 65536
  | [], en, h, _ => by simp [endF]; exact h
  | x :: r, en, h0, h => by
    obtain ⟨h1, h2, h3, h4, h5⟩ := h
    have := endF_ge r _ h4 h5
    simp only [endF]; omega
theorem tail_chain : ∀ (xs : List Ext) (en : Int), 0 ≤ en → Chain en xs → xs.foldl (fun m x => max m (wrap64 (x.2.1 + x.2.2))) en = endF en xs
  | [], _, _, _ => rfl
  | x :: r, en, h0, h => by
    obtain ⟨h1, h2, h3, h4, h5⟩ := h
    have e : max en (wrap64 (x.2.1 + x.2.2)) = x.2.1 + x.2.2 := by
      have : wrap64 (x.2.1 + x.2.2) = x.2.1 + x.2.2 := by unfold wrap64; omega
      rw [this]; omega
    simp only [List.foldl_cons, endF]
    rw [e]
    exact tail_chain r _ (by omega) h5
theorem sumN_ge : ∀ (xs : List Ext) (en : Int), Chain en xs → 0 ≤ sumN xs ∧ sumN xs ≤ endF en xs - en
  | [], _, _ => by simp [sumN, endF]
  | x :: r, en, h => by
    obtain ⟨h1, h2, h3, h4, h5⟩ := h
    have := sumN_ge r _ h5
    simp only [sumN, endF]; omega
theorem live_chain : ∀ (xs : List Ext) (en a : Int), 0 ≤ a → a ≤ en → en ≤ 65536 → Chain en xs → xs.foldl (fun n x => wrap64 (n + x.2.2)) a = a + sumN xs
  | [], _, _, _, _, _, _ => by simp [sumN]
  | x :: r, en, a, h0, h00, h01, h => by
    obtain ⟨h1, h2, h3, h4, h5⟩ := h
    have e : wrap64 (a + x.2.2) = a + x.2.2 := by unfold wrap64; omega
    simp only [List.foldl_cons, sumN]
    rw [e, live_chain r _ (a + x.2.2) (by omega) (by omega) h4 h5]
    omega
theorem tailE_chain {xs : List Ext} (h : Chain 0 xs) : tailE xs = endF 0 xs := tail_chain xs 0 (by omega) h
theorem liveE_chain {xs : List Ext} (h : Chain 0 xs) : liveE xs = sumN xs := by
  have := live_chain xs 0 0 (by omega) (by omega) (by omega) h
  unfold liveE; rw [this]; omega
theorem hits_append (at_ : Int) : ∀ (a b : List Ext), hits at_ (a ++ b) = hits at_ a + hits at_ b
  | [], b => by simp [hits]
  | x :: a, b => by simp only [List.cons_append, hits]; rw [hits_append at_ a b]; omega
theorem sumN_append : ∀ (a b : List Ext), sumN (a ++ b) = sumN a + sumN b
  | [], b => by simp [sumN]
  | x :: a, b => by simp only [List.cons_append, sumN]; rw [sumN_append a b]; omega
theorem gaps_sum : ∀ (xs : List Ext) (en : Int), Chain en xs → sumN xs + sumN (gapsF en xs) = endF en xs - en
  | [], _, _ => by simp [sumN, gapsF, endF]
  | x :: r, en, h => by
    obtain ⟨h1, h2, h3, h4, h5⟩ := h
    have := gaps_sum r _ h5
    simp only [sumN, gapsF, endF]
    rw [sumN_append]
    split <;> simp only [sumN] <;> omega
theorem gaps_hits (at_ : Int) : ∀ (xs : List Ext) (en : Int), en ≤ 65536 → Chain en xs → hits at_ xs + hits at_ (gapsF en xs) = inn at_ en (endF en xs)
  | [], en, _, _ => by simp only [hits, gapsF, endF]; rw [inn_nil]; rfl
  | x :: r, en, h0, h => by
    obtain ⟨h1, h2, h3, h4, h5⟩ := h
    have ih := gaps_hits at_ r _ h4 h5
    have hg := (endF_ge r _ h4 h5).1
    simp only [hits, gapsF, endF]
    rw [hits_append]
    have e1 := inn_two at_ en x.2.1 (endF (x.2.1 + x.2.2) r) h1 (by omega)
    have e2 := inn_two at_ x.2.1 (x.2.1 + x.2.2) (endF (x.2.1 + x.2.2) r) (by omega) hg
    by_cases c1 : en < x.2.1
    · rw [if_pos c1]
      simp only [hits]
      have e3 : en + (x.2.1 - en) = x.2.1 := by omega
      rw [e3]
      omega
    · rw [if_neg c1]
      simp only [hits]
      have e4 : en = x.2.1 := by omega
      rw [e4, inn_nil] at e1
      rw [e4]
      omega
/-- What gaps are like: each behind the one before it, and not next to it. -/
def GC : Int → List Ext → Prop
  | _, [] => True
  | lo, g :: r => lo < g.2.1 ∧ 1 ≤ g.2.2 ∧ g.1 = 0 ∧ g.2.1 + g.2.2 ≤ 65536 ∧ GC (g.2.1 + g.2.2) r
theorem GC.mono : ∀ {gs : List Ext} {a b : Int}, b ≤ a → GC a gs → GC b gs
  | [], _, _, _, _ => trivial
  | g :: r, a, b, h, hg => by
    obtain ⟨h1, h2⟩ := hg
    exact ⟨by omega, h2⟩
theorem gaps_gc : ∀ (xs : List Ext) (en : Int), Chain en xs → GC (en - 1) (gapsF en xs)
  | [], _, _ => trivial
  | x :: r, en, h => by
    obtain ⟨h1, h2, h3, h4, h5⟩ := h
    have ih := gaps_gc r _ h5
    simp only [gapsF]
    split
    · refine ⟨by show en - 1 < en; omega, by show 1 ≤ x.2.1 - en; omega, rfl, by show en + (x.2.1 - en) ≤ 65536; omega, ?_⟩
      exact ih.mono (by show en + (x.2.1 - en) ≤ _; omega)
    · exact ih.mono (by omega)
theorem GC.at_ : ∀ {gs : List Ext} {lo : Int}, GC lo gs → ∀ (i : Nat) (h : i < gs.length), lo < gs[i].2.1 ∧ 1 ≤ gs[i].2.2 ∧ gs[i].1 = 0 ∧ gs[i].2.1 + gs[i].2.2 ≤ 65536
  | [], _, _, i, h => by simp at h
  | g :: r, lo, hg, 0, h => ⟨hg.1, hg.2.1, hg.2.2.1, hg.2.2.2.1⟩
  | g :: r, lo, hg, i + 1, h => by
    have h' : i < r.length := by simpa using h
    have ih := GC.at_ hg.2.2.2.2 i h'
    have := hg.1
    have := hg.2.1
    simp only [List.getElem_cons_succ]
    exact ⟨by omega, ih.2⟩
theorem GC.next : ∀ {gs : List Ext} {lo : Int}, GC lo gs → ∀ (i : Nat) (h : i + 1 < gs.length), gs[i].2.1 + gs[i].2.2 < gs[i + 1].2.1
  | [], _, _, i, h => by simp at h
  | g :: r, lo, hg, 0, h => by
    have h' : 0 < r.length := by simpa using h
    exact (GC.at_ hg.2.2.2.2 0 h').1
  | g :: r, lo, hg, i + 1, h => by
    have h' : i + 1 < r.length := by simpa using h
    exact GC.next hg.2.2.2.2 i h'
theorem GC.sum : ∀ {gs : List Ext} {lo : Int}, GC lo gs → (gs.length : Int) ≤ sumN gs
  | [], _, _ => by simp [sumN]
  | g :: r, lo, hg => by
    have := GC.sum hg.2.2.2.2
    have := hg.2.1
    simp only [sumN, List.length_cons]; omega
theorem gaps_none {xs : List Ext} (h : Chain 0 xs) : decide (tailE xs = liveE xs) = decide ((gapsF 0 xs).length = 0) := by
  rw [tailE_chain h, liveE_chain h]
  have h1 := gaps_sum xs 0 h
  have h2 := (gaps_gc xs 0 h).sum
  by_cases e : (gapsF 0 xs).length = 0
  · have e0 : gapsF 0 xs = [] := List.eq_nil_of_length_eq_zero e
    rw [e0] at h1
    simp only [sumN] at h1
    simp [e]; omega
  · simp [e]; omega
theorem gapsF_len : ∀ (xs : List Ext) (en : Int), (gapsF en xs).length ≤ xs.length
  | [], _ => by simp [gapsF]
  | x :: r, en => by
    have := gapsF_len r (x.2.1 + x.2.2)
    simp only [gapsF, List.length_append, List.length_cons]
    split <;> simp <;> omega
end Go.Proofs.Ytmipfmeafbeegaa
