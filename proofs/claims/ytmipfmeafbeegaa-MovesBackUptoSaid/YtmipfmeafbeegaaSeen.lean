/- A map[uint64]bool of the call's own that tells which numbers have come. Plain lemmas over this program; no condition. -/
import Derived.Test.YtmipfmeafbeegaaVoc
import Derived.Test.YtmipfmeafbeegaaProg
import Derived.Maps.OwnSet
namespace Go.Proofs.Ytmipfmeafbeegaa
open Go.RowKit Go.Maps
set_option linter.unusedVariables false

/-- Block b holds a map of at most n entries that says true of the numbers ss and of no other. -/
def Seen (w : World) (b n : Nat) (ss : List Int) : Prop :=
  ∃ D : DataW Unit, w.ownsMap Try.prog 24 (plainElem Try.prog 4) b n D ∧ ∀ s, (Lit.int .u64 s).wf = true → D.atKey (.int .u64 s) (.lit (.bool false)) = .lit (.bool (decide (s ∈ ss)))
theorem Seen.made (w : World) : Seen (w.alloc (.map #[] 0)) w.heap.size 0 [] :=
  ⟨_, World.ownsMap_made w _ _ _, fun s hs => by simp [DataW.atKey]⟩
theorem Seen.kept {w w' : World} {b n : Nat} {ss : List Int} (h : Seen w b n ss) (hb : Below w.heap.size w w') : Seen w' b n ss := by
  obtain ⟨D, h1, h2⟩ := h
  exact ⟨D, h1.kept (row := none) ⟨hb.os, hb.tape, hb.output, hb.size, fun k hk _ => hb.block k hk⟩ (by simp), h2⟩
theorem Seen.lt {w : World} {b n : Nat} {ss : List Int} (h : Seen w b n ss) : b < w.heap.size := by
  obtain ⟨D, h1, h2⟩ := h
  exact h1.lt
theorem Seen.look {w : World} {b n : Nat} {ss : List Int} (h : Seen w b n ss) (s : Int) (hs : (Lit.int .u64 s).wf = true) : (Instr.lookup 67 (.map (some b)) (.int .u64 s) false).run Try.prog w = .ok (.bool (decide (s ∈ ss))) w := by
  obtain ⟨D, h1, h2⟩ := h
  have hz : (zeroValue 4).run Try.prog w = .ok (.bool false) w := by kernel_rfl
  obtain ⟨v, ps, hrun, hv⟩ := h1.lookup (int_keyed Try.underlying24) Try.underlying67 hz (plainElem_bool Try.underlying4 false) (keyOf_int_mk Try.underlying24 hs)
  rw [h2 s hs] at hv
  rw [hrun]
  have : v = .bool (decide (s ∈ ss)) := by
    simp only [plainElem, Try.underlying4] at hv
    cases v <;> simp at hv
    rw [hv.1]
  rw [this]
theorem Seen.put {w : World} {b n : Nat} {ss : List Int} (h : Seen w b n ss) (hn : n < maxLen) (s : Int) (hs : (Lit.int .u64 s).wf = true) : ∃ w', (Instr.mapUpdate 67 (.map (some b)) (.int .u64 s) (.bool true)).run Try.prog w = .ok () w' ∧ Seen w' b (n + 1) (s :: ss) ∧ w.grownBy w' (some b) := by
  obtain ⟨D, h1, h2⟩ := h
  obtain ⟨w', hrun, ho, hg⟩ := h1.update (int_keyed Try.underlying24) Try.underlying67 hn (keyOf_int_mk Try.underlying24 hs) (plainElem_bool Try.underlying4 true)
  refine ⟨w', hrun, ⟨_, ho, fun s' hs' => ?_⟩, hg⟩
  by_cases e : s' = s
  · subst e
    rw [Maps.atKey_put_same h1.isMap (show WideAt.IsKeyLit (.int .u64 s') from trivial)]
    simp
  · rw [Maps.atKey_put_other (by intro h; injection h with _ h; exact e h), h2 s' hs']
    simp [e]
end Go.Proofs.Ytmipfmeafbeegaa
