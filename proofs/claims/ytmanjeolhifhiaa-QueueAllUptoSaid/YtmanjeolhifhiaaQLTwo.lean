/- Words for two queues side by side; a row of the call's own that others do not touch; plain laws of ranks. -/
import Derived.Test.YtmanjeolhifhiaaQLDrainsWalk2
import Derived.Test.YtmanjeolhifhiaaMarks
namespace Go.Proofs.Ytmanjeolhifhiaa
open Go.RowKit
set_option linter.unusedVariables false

theorem qItm_pop3 (base : Nat) (less : Itm → Itm → Bool) (hsw : Swo less) (fn : Nat) (R : RanksItm less fn) (w : World) (q : Nat) (v : Value) (s : Itm × Nat) (S : List (Itm × Nat)) (tn : Nat) (h : QIsItm base less fn q v (s :: S) tn w) (hcap : S.length + 1 ≤ 4000000000) :
    Calls Try.prog 21 #[.pointer (some ⟨q, 0, none⟩)] w fun e w' => e = .returned (.tuple #[.agg #[.int .i64 s.1.1, .string s.1.2], .bool true]) ∧ ∃ v', QIsItm base less fn q v' S tn w' ∧ Chg (QBlk q v) w w' ∧ v'.ownBlock = v.ownBlock := by
  obtain ⟨⟨l, hq, hs⟩, ht2⟩ := h
  have hl : l.length = S.length + 1 := hs.len
  have hown := hq.own
  rw [hl] at hown
  obtain ⟨g, c, rfl⟩ := ownsRow_succ hown
  obtain ⟨h1, h2, h3, h4⟩ := hs.pop hsw
  have e : l.length - 1 = S.length := by omega
  rw [e] at h3 h4
  refine (qItm_pop base less fn R w q g c S.length l tn hq hl (by omega)).mono ?_
  rw [h3]
  rintro e w' ⟨rfl, hq', hc⟩
  exact ⟨rfl, _, ⟨⟨_, hq', h4⟩, fun y hy => ht2 y (by simp [hy])⟩, hc, rfl⟩
theorem own_chg {P : Nat → Prop} {w w' : World} {base e size n : Nat} {v : Value} {xs : List Value} (h : w.ownsRow base e size v n xs) (hc : Chg P w w') (hP : ∀ j, v.ownBlock = some j → ¬ P j) : w'.ownsRow base e size v n xs := by
  obtain ⟨hl, h⟩ := h
  refine ⟨hl, ?_⟩
  rcases h with h | ⟨g, cap, cur, rfl, h1, h2, h3⟩
  · exact .inl h
  · exact .inr ⟨g, cap, cur, rfl, h1, (hc.block g (Array.getElem?_eq_some_iff.1 h2).1 (hP g (by simp [Value.ownBlock]))).trans h2, h3⟩
theorem QIsItm.lower {base base' : Nat} {less : Itm → Itm → Bool} {fn q : Nat} {v : Value} {S : List (Itm × Nat)} {tn : Nat} {W : World} (h : QIsItm base less fn q v S tn W) (hb : base' ≤ base) : QIsItm base' less fn q v S tn W := by
  obtain ⟨⟨l, hq, hs⟩, ht⟩ := h
  exact ⟨⟨l, ⟨hq.blk, own_mono hq.own hb, Nat.le_trans hb hq.ge, hq.ne⟩, hs⟩, ht⟩
/-- Two queues, apart from each other and from block bo. -/
structure Two (base q p : Nat) (bo : Option Nat) (vq vp : Value) (S T : List (Itm × Nat)) (a b : Nat) (W : World) : Prop where
  hq : QIsItm base lessI 22 q vq S a W
  hp : QIsItm base lessI 22 p vp T b W
  ap : ∀ j, QBlk q vq j → ¬ QBlk p vp j
  qo : ∀ j, QBlk q vq j → bo ≠ some j
  po : ∀ j, QBlk p vp j → bo ≠ some j
theorem Two.kept {base q p : Nat} {bo : Option Nat} {vq vp : Value} {S T : List (Itm × Nat)} {a b : Nat} {W W' : World} (h : Two base q p bo vq vp S T a b W) (hb : Below W.heap.size W W') : Two base q p bo vq vp S T a b W' :=
  ⟨h.hq.kept hb, h.hp.kept hb, h.ap, h.qo, h.po⟩
theorem Two.first {base q p : Nat} {bo : Option Nat} {vq vp vq' : Value} {S T S' : List (Itm × Nat)} {a a' b : Nat} {W W' : World} (h : Two base q p bo vq vp S T a b W) (hbo : ∀ j, bo = some j → j < W.heap.size) (hq : QIsItm base lessI 22 q vq' S' a' W') (hc : Chg (QBlk q vq) W W') (hf : FreshItm W vq vq') : Two base q p bo vq' vp S' T a' b W' := by
  refine ⟨hq, h.hp.chg hc (fun j hj hq => h.ap j hq hj), ?_, ?_, h.po⟩
  · rintro j (rfl | hj) hp
    · exact h.ap _ (.inl rfl) hp
    · rcases hf j hj with e | e
      · exact h.ap _ (.inr e) hp
      · have := (h.hp.lt j hp).2; omega
  · rintro j (rfl | hj)
    · exact h.qo _ (.inl rfl)
    · rcases hf j hj with e | e
      · exact h.qo _ (.inr e)
      · intro e2; have := hbo j e2; omega
theorem Two.second {base q p : Nat} {bo : Option Nat} {vq vp vp' : Value} {S T T' : List (Itm × Nat)} {a b b' : Nat} {W W' : World} (h : Two base q p bo vq vp S T a b W) (hbo : ∀ j, bo = some j → j < W.heap.size) (hp : QIsItm base lessI 22 p vp' T' b' W') (hc : Chg (QBlk p vp) W W') (hf : FreshItm W vp vp') : Two base q p bo vq vp' S T' a b' W' := by
  refine ⟨h.hq.chg hc (fun j hj hp => h.ap j hj hp), hp, ?_, h.qo, ?_⟩
  · rintro j hq (rfl | hj)
    · exact h.ap _ hq (.inl rfl)
    · rcases hf j hj with e | e
      · exact h.ap _ hq (.inr e)
      · have := (h.hq.lt j hq).2; omega
  · rintro j (rfl | hj)
    · exact h.po _ (.inl rfl)
    · rcases hf j hj with e | e
      · exact h.po _ (.inr e)
      · intro e2; have := hbo j e2; omega
/-- In whatever order they were pushed the ranks come in the same order. -/
theorem ranks_same {xs ys : List Itm} (h : ys.Perm xs) : (sortV lessI ys).map (·.1) = (sortV lessI xs).map (·.1) := by
  have h1 := sortV_ran swoI xs
  have h2 := sortV_ran swoI ys
  have hp : ((sortV lessI ys).map (·.1)).Perm ((sortV lessI xs).map (·.1)) := (((sortV_perm ys).trans h).trans (sortV_perm xs).symm).map _
  have key : ∀ {l : List Itm}, Ran lessI l → (l.map (·.1)).Pairwise (fun a b : Int => a ≤ b) := by
    intro l hl
    rw [List.pairwise_map]
    exact hl.imp (fun {a b} hab => by simp [lessI] at hab; exact hab)
  exact List.Perm.eq_of_pairwise (le := fun a b : Int => a ≤ b) (fun a b _ _ h1 h2 => Int.le_antisymm h1 h2) (key h2) (key h1) hp
theorem swap_perm {α : Type} (l : List α) (a b : Nat) (ha : a < l.length) (hb : b < l.length) : ((l.set a l[b]).set b l[a]).Perm l := List.set_set_perm ha hb
end Go.Proofs.Ytmanjeolhifhiaa
