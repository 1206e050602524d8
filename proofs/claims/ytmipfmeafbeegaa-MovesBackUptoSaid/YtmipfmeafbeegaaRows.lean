/-
  No cell of these rows narrows 'for every input' (looked for: loops, veiled, ifaces, maps, wideKeys, modest, calm, conditions, laid).
  DERIVED. THE GIVEN ROWS OF THIS SEAT. 5 by the template 'for every input the law returns true; each argument reads behind the call as it read before'; 0 by the template 'total and deterministic' (their statements: YtmipfmeafbeegaaTotals.lean).
  GIVEN WITH THE SEED: the statements are not yours to turn. If you find one false, say at which input.
  Laid BY PROGRAM, IN A SANDBOX (cutbox-rows.mjs): the forced cells as the released guide's own fill.sh prints them over the translation 89bd75f6ae6364a8… (all of the seat's roots in one cut). By AI agents, Wed Nov 11 2026. No macro, syntax, notation, axiom, sorry.
-/
import Derived.Test.YtmipfmeafbeegaaChecked
import GoSem.Claim
import GoSem.ClaimJoined
import GoSem.ClaimMapViews
import Derived.JoinedTies
import Derived.KernelRfl
namespace Go.Proofs.Ytmipfmeafbeegaa
/- THE CELL 'sum', in the pinned program and in every row, IS THE sha256 OF THE DUMP (.gsa) THAT YtmipfmeafbeegaaProg.lean LOADS. Nothing in Lean hashes anything: it is a label: what it is worth is what the hold of that sum in a sandbox is worth. -/
noncomputable def Try.pinned : Pinned := { name := "ytmipfmeafbeegaa", sum := "89bd75f6ae6364a845221803b8d46e7e6ea95fa3046261eedb6c6bc4d0c2cce7", checked := Try.checked }
namespace Rows
def none {H : Type} : Left H := { results := [], args := [] }

/-- 'dunnagelaw24.MovesPlan': WHATEVER THE INPUT: true; the input reads as it did. -/
def movesPlanSpec : ChangeSpec := { name := "movesPlan", fn := fun _ => fun
  | [d1, d2] => { results := [.lit (.bool true)], args := [d1, d2] }
  | _ => none }
def movesPlanRow : OpenClaim := { program := "ytmipfmeafbeegaa", sum := "89bd75f6ae6364a845221803b8d46e7e6ea95fa3046261eedb6c6bc4d0c2cce7", func := "dunnage/dunnagelaw24.MovesPlan", spec := "movesPlan", unfollowed := true, recurses := true, apart := false }
def MovesPlanSaid : Prop := movesPlanRow.holds Try.pinned (OpenSpec.ofChange movesPlanSpec)

/-- ITS FALSE NEIGHBOUR: 'it returns false'. Refute it at one input. -/
def movesPlanWrong : ChangeSpec := { name := "movesPlan", fn := fun _ => fun
  | [d1, d2] => { results := [.lit (.bool false)], args := [d1, d2] }
  | _ => none }
def MovesPlanWrongFalsely : Prop := movesPlanRow.holds Try.pinned (OpenSpec.ofChange movesPlanWrong)

/-- 'dunnagelaw24.MovesDo': WHATEVER THE INPUT: true; the input reads as it did. -/
def movesDoSpec : ChangeSpec := { name := "movesDo", fn := fun _ => fun
  | [d1, d2, d3] => { results := [.lit (.bool true)], args := [d1, d2, d3] }
  | _ => none }
def movesDoRow : OpenClaim := { program := "ytmipfmeafbeegaa", sum := "89bd75f6ae6364a845221803b8d46e7e6ea95fa3046261eedb6c6bc4d0c2cce7", func := "dunnage/dunnagelaw24.MovesDo", spec := "movesDo", unfollowed := true, recurses := true, apart := false }
def MovesDoSaid : Prop := movesDoRow.holds Try.pinned (OpenSpec.ofChange movesDoSpec)

/-- ITS FALSE NEIGHBOUR: 'it returns false'. Refute it at one input. -/
def movesDoWrong : ChangeSpec := { name := "movesDo", fn := fun _ => fun
  | [d1, d2, d3] => { results := [.lit (.bool false)], args := [d1, d2, d3] }
  | _ => none }
def MovesDoWrongFalsely : Prop := movesDoRow.holds Try.pinned (OpenSpec.ofChange movesDoWrong)

/-- 'dunnagelaw24.MovesBack': WHATEVER THE INPUT: true; the input reads as it did. -/
def movesBackSpec : ChangeSpec := { name := "movesBack", fn := fun _ => fun
  | [d1, d2, d3] => { results := [.lit (.bool true)], args := [d1, d2, d3] }
  | _ => none }
def movesBackRow : OpenClaim := { program := "ytmipfmeafbeegaa", sum := "89bd75f6ae6364a845221803b8d46e7e6ea95fa3046261eedb6c6bc4d0c2cce7", func := "dunnage/dunnagelaw24.MovesBack", spec := "movesBack", unfollowed := true, recurses := true, apart := false }
def MovesBackSaid : Prop := movesBackRow.holds Try.pinned (OpenSpec.ofChange movesBackSpec)

/-- ITS FALSE NEIGHBOUR: 'it returns false'. Refute it at one input. -/
def movesBackWrong : ChangeSpec := { name := "movesBack", fn := fun _ => fun
  | [d1, d2, d3] => { results := [.lit (.bool false)], args := [d1, d2, d3] }
  | _ => none }
def MovesBackWrongFalsely : Prop := movesBackRow.holds Try.pinned (OpenSpec.ofChange movesBackWrong)

/-- 'dunnagelaw24.MovesAgain': WHATEVER THE INPUT: true; the input reads as it did. -/
def movesAgainSpec : ChangeSpec := { name := "movesAgain", fn := fun _ => fun
  | [d1, d2, d3, d4] => { results := [.lit (.bool true)], args := [d1, d2, d3, d4] }
  | _ => none }
def movesAgainRow : OpenClaim := { program := "ytmipfmeafbeegaa", sum := "89bd75f6ae6364a845221803b8d46e7e6ea95fa3046261eedb6c6bc4d0c2cce7", func := "dunnage/dunnagelaw24.MovesAgain", spec := "movesAgain", unfollowed := true, recurses := true, apart := false }
def MovesAgainSaid : Prop := movesAgainRow.holds Try.pinned (OpenSpec.ofChange movesAgainSpec)

/-- ITS FALSE NEIGHBOUR: 'it returns false'. Refute it at one input. -/
def movesAgainWrong : ChangeSpec := { name := "movesAgain", fn := fun _ => fun
  | [d1, d2, d3, d4] => { results := [.lit (.bool false)], args := [d1, d2, d3, d4] }
  | _ => none }
def MovesAgainWrongFalsely : Prop := movesAgainRow.holds Try.pinned (OpenSpec.ofChange movesAgainWrong)

/-- 'dunnagelaw24.MovesTogether': WHATEVER THE INPUT: true; the input reads as it did. -/
def movesTogetherSpec : ChangeSpec := { name := "movesTogether", fn := fun _ => fun
  | [d1, d2] => { results := [.lit (.bool true)], args := [d1, d2] }
  | _ => none }
def movesTogetherRow : OpenClaim := { program := "ytmipfmeafbeegaa", sum := "89bd75f6ae6364a845221803b8d46e7e6ea95fa3046261eedb6c6bc4d0c2cce7", func := "dunnage/dunnagelaw24.MovesTogether", spec := "movesTogether", unfollowed := true, recurses := true, apart := false }
def MovesTogetherSaid : Prop := movesTogetherRow.holds Try.pinned (OpenSpec.ofChange movesTogetherSpec)

/-- ITS FALSE NEIGHBOUR: 'it returns false'. Refute it at one input. -/
def movesTogetherWrong : ChangeSpec := { name := "movesTogether", fn := fun _ => fun
  | [d1, d2] => { results := [.lit (.bool false)], args := [d1, d2] }
  | _ => none }
def MovesTogetherWrongFalsely : Prop := movesTogetherRow.holds Try.pinned (OpenSpec.ofChange movesTogetherWrong)

/- THE SECOND FORM. 'bulk': how many values and letters a reading holds, each counted each time it is reached (what is shared counts as often as it is met; a slice's spare places count too). A statement '..UptoSaid' is the law's where the arguments, and the package variables that the reading takes, are together of bulk at most 1048576: NARROWER than '..Said'. Prove '..Said' where nothing that the law and all that it calls make is longer than what came in: it says more and counts as full. Else prove '..UptoSaid'. A law counts once. -/
mutual
def uptoBulk {H : Type} : DataW H → Nat
  | .lit (.string bytes) => bytes.length + 1
  | .lit _ => 1
  | .nil => 1
  | .ptr d => uptoBulk d + 1
  | .slice elems spare => uptoBulkAll elems + uptoBulkAll spare + 1
  | .agg parts => uptoBulkAll parts + 1
  | .iface _ d => uptoBulk d + 1
  | .map entries => uptoBulkEntries entries + 1
  | .held _ => 1
def uptoBulkAll {H : Type} : List (DataW H) → Nat
  | [] => 0
  | d :: r => uptoBulk d + uptoBulkAll r
def uptoBulkEntries {H : Type} : List (Lit × DataW H) → Nat
  | [] => 0
  | x :: r => uptoBulkEntry x + uptoBulkEntries r
def uptoBulkEntry {H : Type} : Lit × DataW H → Nat
  | (.string bytes, d) => bytes.length + uptoBulk d + 1
  | (_, d) => uptoBulk d + 1
 end
def uptoSmall : (H : Type) → List (DataW H) → Bool := fun _ ds => decide (uptoBulkAll ds ≤ 1048576)
def OpenSpec.upto (s : _root_.Go.ChangeSpec) : _root_.Go.OpenSpec := { _root_.Go.OpenSpec.ofChange s with cond := some uptoSmall }

/-- 'dunnagelaw24.MovesPlan', WHERE WHAT IT READS IS OF BULK AT MOST 1048576: true; the input reads as it did. -/
def movesPlanUptoRow : OpenClaim := { program := "ytmipfmeafbeegaa", sum := "89bd75f6ae6364a845221803b8d46e7e6ea95fa3046261eedb6c6bc4d0c2cce7", func := "dunnage/dunnagelaw24.MovesPlan", spec := "movesPlan", unfollowed := true, recurses := true, apart := false, narrowed := true }
def MovesPlanUptoSaid : Prop := movesPlanUptoRow.holds Try.pinned (OpenSpec.upto movesPlanSpec)

/-- 'dunnagelaw24.MovesDo', WHERE WHAT IT READS IS OF BULK AT MOST 1048576: true; the input reads as it did. -/
def movesDoUptoRow : OpenClaim := { program := "ytmipfmeafbeegaa", sum := "89bd75f6ae6364a845221803b8d46e7e6ea95fa3046261eedb6c6bc4d0c2cce7", func := "dunnage/dunnagelaw24.MovesDo", spec := "movesDo", unfollowed := true, recurses := true, apart := false, narrowed := true }
def MovesDoUptoSaid : Prop := movesDoUptoRow.holds Try.pinned (OpenSpec.upto movesDoSpec)

/-- 'dunnagelaw24.MovesBack', WHERE WHAT IT READS IS OF BULK AT MOST 1048576: true; the input reads as it did. -/
def movesBackUptoRow : OpenClaim := { program := "ytmipfmeafbeegaa", sum := "89bd75f6ae6364a845221803b8d46e7e6ea95fa3046261eedb6c6bc4d0c2cce7", func := "dunnage/dunnagelaw24.MovesBack", spec := "movesBack", unfollowed := true, recurses := true, apart := false, narrowed := true }
def MovesBackUptoSaid : Prop := movesBackUptoRow.holds Try.pinned (OpenSpec.upto movesBackSpec)

/-- 'dunnagelaw24.MovesAgain', WHERE WHAT IT READS IS OF BULK AT MOST 1048576: true; the input reads as it did. -/
def movesAgainUptoRow : OpenClaim := { program := "ytmipfmeafbeegaa", sum := "89bd75f6ae6364a845221803b8d46e7e6ea95fa3046261eedb6c6bc4d0c2cce7", func := "dunnage/dunnagelaw24.MovesAgain", spec := "movesAgain", unfollowed := true, recurses := true, apart := false, narrowed := true }
def MovesAgainUptoSaid : Prop := movesAgainUptoRow.holds Try.pinned (OpenSpec.upto movesAgainSpec)

/-- 'dunnagelaw24.MovesTogether', WHERE WHAT IT READS IS OF BULK AT MOST 1048576: true; the input reads as it did. -/
def movesTogetherUptoRow : OpenClaim := { program := "ytmipfmeafbeegaa", sum := "89bd75f6ae6364a845221803b8d46e7e6ea95fa3046261eedb6c6bc4d0c2cce7", func := "dunnage/dunnagelaw24.MovesTogether", spec := "movesTogether", unfollowed := true, recurses := true, apart := false, narrowed := true }
def MovesTogetherUptoSaid : Prop := movesTogetherUptoRow.holds Try.pinned (OpenSpec.upto movesTogetherSpec)

end Rows
end Go.Proofs.Ytmipfmeafbeegaa
