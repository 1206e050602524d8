/-
  No cell of these rows narrows 'for every input' (looked for: loops, veiled, ifaces, maps, wideKeys, modest, calm, conditions, laid).
  DERIVED. THE GIVEN ROWS OF THIS SEAT. 7 by the template 'for every input the law returns true; each argument reads behind the call as it read before'; 0 by the template 'total and deterministic' (their statements: YtilmlblejopbmaaTotals.lean).
  GIVEN WITH THE SEED: the statements are not yours to turn. If you find one false, say at which input.
  Laid BY PROGRAM, IN A SANDBOX (cutbox-rows.mjs): the forced cells as the released guide's own fill.sh prints them over the translation d8e434d7ae213f2a… (all of the seat's roots in one cut). By AI agents, Wed Nov 11 2026. No macro, syntax, notation, axiom, sorry.
-/
import Derived.Test.YtilmlblejopbmaaChecked
import GoSem.Claim
import GoSem.ClaimJoined
import GoSem.ClaimMapViews
import Derived.JoinedTies
import Derived.KernelRfl
namespace Go.Proofs.Ytilmlblejopbmaa
/- THE CELL 'sum', in the pinned program and in every row, IS THE sha256 OF THE DUMP (.gsa) THAT YtilmlblejopbmaaProg.lean LOADS. Nothing in Lean hashes anything: it is a label: what it is worth is what the hold of that sum in a sandbox is worth. -/
noncomputable def Try.pinned : Pinned := { name := "ytilmlblejopbmaa", sum := "d8e434d7ae213f2aa2fcbea24d46245a25cbe66d9de2f0fa09f46256ec77df20", checked := Try.checked }
namespace Rows
def none {H : Type} : Left H := { results := [], args := [] }

/-- 'dunnagelaw22.SpaceSorts': WHATEVER THE INPUT: true; the input reads as it did. -/
def spaceSortsSpec : ChangeSpec := { name := "spaceSorts", fn := fun _ => fun
  | [d] => { results := [.lit (.bool true)], args := [d] }
  | _ => none }
def spaceSortsRow : OpenClaim := { program := "ytilmlblejopbmaa", sum := "d8e434d7ae213f2aa2fcbea24d46245a25cbe66d9de2f0fa09f46256ec77df20", func := "dunnage/dunnagelaw22.SpaceSorts", spec := "spaceSorts", unfollowed := true, recurses := true, apart := false }
def SpaceSortsSaid : Prop := spaceSortsRow.holds Try.pinned (OpenSpec.ofChange spaceSortsSpec)

/-- ITS FALSE NEIGHBOUR: 'it returns false'. Refute it at one input. -/
def spaceSortsWrong : ChangeSpec := { name := "spaceSorts", fn := fun _ => fun
  | [d] => { results := [.lit (.bool false)], args := [d] }
  | _ => none }
def SpaceSortsWrongFalsely : Prop := spaceSortsRow.holds Try.pinned (OpenSpec.ofChange spaceSortsWrong)

/-- 'dunnagelaw22.SpaceGaps': WHATEVER THE INPUT: true; the input reads as it did. -/
def spaceGapsSpec : ChangeSpec := { name := "spaceGaps", fn := fun _ => fun
  | [d1, d2] => { results := [.lit (.bool true)], args := [d1, d2] }
  | _ => none }
def spaceGapsRow : OpenClaim := { program := "ytilmlblejopbmaa", sum := "d8e434d7ae213f2aa2fcbea24d46245a25cbe66d9de2f0fa09f46256ec77df20", func := "dunnage/dunnagelaw22.SpaceGaps", spec := "spaceGaps", unfollowed := true, recurses := true, apart := false }
def SpaceGapsSaid : Prop := spaceGapsRow.holds Try.pinned (OpenSpec.ofChange spaceGapsSpec)

/-- ITS FALSE NEIGHBOUR: 'it returns false'. Refute it at one input. -/
def spaceGapsWrong : ChangeSpec := { name := "spaceGaps", fn := fun _ => fun
  | [d1, d2] => { results := [.lit (.bool false)], args := [d1, d2] }
  | _ => none }
def SpaceGapsWrongFalsely : Prop := spaceGapsRow.holds Try.pinned (OpenSpec.ofChange spaceGapsWrong)

/-- 'dunnagelaw22.SpaceSegments': WHATEVER THE INPUT: true; the input reads as it did. -/
def spaceSegmentsSpec : ChangeSpec := { name := "spaceSegments", fn := fun _ => fun
  | [d1, d2] => { results := [.lit (.bool true)], args := [d1, d2] }
  | _ => none }
def spaceSegmentsRow : OpenClaim := { program := "ytilmlblejopbmaa", sum := "d8e434d7ae213f2aa2fcbea24d46245a25cbe66d9de2f0fa09f46256ec77df20", func := "dunnage/dunnagelaw22.SpaceSegments", spec := "spaceSegments", unfollowed := true, recurses := true, apart := false }
def SpaceSegmentsSaid : Prop := spaceSegmentsRow.holds Try.pinned (OpenSpec.ofChange spaceSegmentsSpec)

/-- ITS FALSE NEIGHBOUR: 'it returns false'. Refute it at one input. -/
def spaceSegmentsWrong : ChangeSpec := { name := "spaceSegments", fn := fun _ => fun
  | [d1, d2] => { results := [.lit (.bool false)], args := [d1, d2] }
  | _ => none }
def SpaceSegmentsWrongFalsely : Prop := spaceSegmentsRow.holds Try.pinned (OpenSpec.ofChange spaceSegmentsWrong)

/-- 'dunnagelaw22.SpaceBack': WHATEVER THE INPUT: true; the input reads as it did. -/
def spaceBackSpec : ChangeSpec := { name := "spaceBack", fn := fun _ => fun
  | [d1, d2, d3, d4] => { results := [.lit (.bool true)], args := [d1, d2, d3, d4] }
  | _ => none }
def spaceBackRow : OpenClaim := { program := "ytilmlblejopbmaa", sum := "d8e434d7ae213f2aa2fcbea24d46245a25cbe66d9de2f0fa09f46256ec77df20", func := "dunnage/dunnagelaw22.SpaceBack", spec := "spaceBack", unfollowed := true, recurses := true, apart := false }
def SpaceBackSaid : Prop := spaceBackRow.holds Try.pinned (OpenSpec.ofChange spaceBackSpec)

/-- ITS FALSE NEIGHBOUR: 'it returns false'. Refute it at one input. -/
def spaceBackWrong : ChangeSpec := { name := "spaceBack", fn := fun _ => fun
  | [d1, d2, d3, d4] => { results := [.lit (.bool false)], args := [d1, d2, d3, d4] }
  | _ => none }
def SpaceBackWrongFalsely : Prop := spaceBackRow.holds Try.pinned (OpenSpec.ofChange spaceBackWrong)

/-- 'dunnagelaw22.SpaceChanges': WHATEVER THE INPUT: true; the input reads as it did. -/
def spaceChangesSpec : ChangeSpec := { name := "spaceChanges", fn := fun _ => fun
  | [d1, d2, d3, d4, d5] => { results := [.lit (.bool true)], args := [d1, d2, d3, d4, d5] }
  | _ => none }
def spaceChangesRow : OpenClaim := { program := "ytilmlblejopbmaa", sum := "d8e434d7ae213f2aa2fcbea24d46245a25cbe66d9de2f0fa09f46256ec77df20", func := "dunnage/dunnagelaw22.SpaceChanges", spec := "spaceChanges", unfollowed := true, recurses := true, apart := false }
def SpaceChangesSaid : Prop := spaceChangesRow.holds Try.pinned (OpenSpec.ofChange spaceChangesSpec)

/-- ITS FALSE NEIGHBOUR: 'it returns false'. Refute it at one input. -/
def spaceChangesWrong : ChangeSpec := { name := "spaceChanges", fn := fun _ => fun
  | [d1, d2, d3, d4, d5] => { results := [.lit (.bool false)], args := [d1, d2, d3, d4, d5] }
  | _ => none }
def SpaceChangesWrongFalsely : Prop := spaceChangesRow.holds Try.pinned (OpenSpec.ofChange spaceChangesWrong)

/-- 'dunnagelaw22.SpaceFills': WHATEVER THE INPUT: true; the input reads as it did. -/
def spaceFillsSpec : ChangeSpec := { name := "spaceFills", fn := fun _ => fun
  | [d1, d2] => { results := [.lit (.bool true)], args := [d1, d2] }
  | _ => none }
def spaceFillsRow : OpenClaim := { program := "ytilmlblejopbmaa", sum := "d8e434d7ae213f2aa2fcbea24d46245a25cbe66d9de2f0fa09f46256ec77df20", func := "dunnage/dunnagelaw22.SpaceFills", spec := "spaceFills", unfollowed := true, recurses := true, apart := false }
def SpaceFillsSaid : Prop := spaceFillsRow.holds Try.pinned (OpenSpec.ofChange spaceFillsSpec)

/-- ITS FALSE NEIGHBOUR: 'it returns false'. Refute it at one input. -/
def spaceFillsWrong : ChangeSpec := { name := "spaceFills", fn := fun _ => fun
  | [d1, d2] => { results := [.lit (.bool false)], args := [d1, d2] }
  | _ => none }
def SpaceFillsWrongFalsely : Prop := spaceFillsRow.holds Try.pinned (OpenSpec.ofChange spaceFillsWrong)

/-- 'dunnagelaw22.SpaceTells': WHATEVER THE INPUT: true; the input reads as it did. -/
def spaceTellsSpec : ChangeSpec := { name := "spaceTells", fn := fun _ => fun
  | [d1, d2, d3, d4] => { results := [.lit (.bool true)], args := [d1, d2, d3, d4] }
  | _ => none }
def spaceTellsRow : OpenClaim := { program := "ytilmlblejopbmaa", sum := "d8e434d7ae213f2aa2fcbea24d46245a25cbe66d9de2f0fa09f46256ec77df20", func := "dunnage/dunnagelaw22.SpaceTells", spec := "spaceTells", unfollowed := true, recurses := true, apart := false }
def SpaceTellsSaid : Prop := spaceTellsRow.holds Try.pinned (OpenSpec.ofChange spaceTellsSpec)

/-- ITS FALSE NEIGHBOUR: 'it returns false'. Refute it at one input. -/
def spaceTellsWrong : ChangeSpec := { name := "spaceTells", fn := fun _ => fun
  | [d1, d2, d3, d4] => { results := [.lit (.bool false)], args := [d1, d2, d3, d4] }
  | _ => none }
def SpaceTellsWrongFalsely : Prop := spaceTellsRow.holds Try.pinned (OpenSpec.ofChange spaceTellsWrong)

/- THE SECOND FORM. 'bulk': how many values and letters a reading holds, each counted each time it is reached (what is shared counts as often as it is met; a slice's spare places count too). A statement '..UptoSaid' is the law's where the arguments, and the package variables that the reading takes, are together of bulk at most 1048576: NARROWER than '..Said'. Prove '..Said' where nothing that the law and all that it calls make is longer than what came in: it says more and counts as full. Else prove '..UptoSaid'. A law counts once. -/
mutual
def uptoBulk {H : Type} : DataW H → Nat
  | .lit (.string bytes) => bytes.length + 1
  | .lit _ => 1
  | .nil => 1
  | .ptr d => uptoBulk d + 1
  | .slice elems spare => uptoBulkAll elems + uptoBulkAll spare + 1
  | .agg parts => uptoBulkAll parts + 1
  | .iface _ d => uptoBulk d + 1
  | .map entries => uptoBulkEntries entries + 1
  | .held _ => 1
def uptoBulkAll {H : Type} : List (DataW H) → Nat
  | [] => 0
  | d :: r => uptoBulk d + uptoBulkAll r
def uptoBulkEntries {H : Type} : List (Lit × DataW H) → Nat
  | [] => 0
  | x :: r => uptoBulkEntry x + uptoBulkEntries r
def uptoBulkEntry {H : Type} : Lit × DataW H → Nat
  | (.string bytes, d) => bytes.length + uptoBulk d + 1
  | (_, d) => uptoBulk d + 1
 end
def uptoSmall : (H : Type) → List (DataW H) → Bool := fun _ ds => decide (uptoBulkAll ds ≤ 1048576)
def OpenSpec.upto (s : _root_.Go.ChangeSpec) : _root_.Go.OpenSpec := { _root_.Go.OpenSpec.ofChange s with cond := some uptoSmall }

/-- 'dunnagelaw22.SpaceSorts', WHERE WHAT IT READS IS OF BULK AT MOST 1048576: true; the input reads as it did. -/
def spaceSortsUptoRow : OpenClaim := { program := "ytilmlblejopbmaa", sum := "d8e434d7ae213f2aa2fcbea24d46245a25cbe66d9de2f0fa09f46256ec77df20", func := "dunnage/dunnagelaw22.SpaceSorts", spec := "spaceSorts", unfollowed := true, recurses := true, apart := false, narrowed := true }
def SpaceSortsUptoSaid : Prop := spaceSortsUptoRow.holds Try.pinned (OpenSpec.upto spaceSortsSpec)

/-- 'dunnagelaw22.SpaceGaps', WHERE WHAT IT READS IS OF BULK AT MOST 1048576: true; the input reads as it did. -/
def spaceGapsUptoRow : OpenClaim := { program := "ytilmlblejopbmaa", sum := "d8e434d7ae213f2aa2fcbea24d46245a25cbe66d9de2f0fa09f46256ec77df20", func := "dunnage/dunnagelaw22.SpaceGaps", spec := "spaceGaps", unfollowed := true, recurses := true, apart := false, narrowed := true }
def SpaceGapsUptoSaid : Prop := spaceGapsUptoRow.holds Try.pinned (OpenSpec.upto spaceGapsSpec)

/-- 'dunnagelaw22.SpaceSegments', WHERE WHAT IT READS IS OF BULK AT MOST 1048576: true; the input reads as it did. -/
def spaceSegmentsUptoRow : OpenClaim := { program := "ytilmlblejopbmaa", sum := "d8e434d7ae213f2aa2fcbea24d46245a25cbe66d9de2f0fa09f46256ec77df20", func := "dunnage/dunnagelaw22.SpaceSegments", spec := "spaceSegments", unfollowed := true, recurses := true, apart := false, narrowed := true }
def SpaceSegmentsUptoSaid : Prop := spaceSegmentsUptoRow.holds Try.pinned (OpenSpec.upto spaceSegmentsSpec)

/-- 'dunnagelaw22.SpaceBack', WHERE WHAT IT READS IS OF BULK AT MOST 1048576: true; the input reads as it did. -/
def spaceBackUptoRow : OpenClaim := { program := "ytilmlblejopbmaa", sum := "d8e434d7ae213f2aa2fcbea24d46245a25cbe66d9de2f0fa09f46256ec77df20", func := "dunnage/dunnagelaw22.SpaceBack", spec := "spaceBack", unfollowed := true, recurses := true, apart := false, narrowed := true }
def SpaceBackUptoSaid : Prop := spaceBackUptoRow.holds Try.pinned (OpenSpec.upto spaceBackSpec)

/-- 'dunnagelaw22.SpaceChanges', WHERE WHAT IT READS IS OF BULK AT MOST 1048576: true; the input reads as it did. -/
def spaceChangesUptoRow : OpenClaim := { program := "ytilmlblejopbmaa", sum := "d8e434d7ae213f2aa2fcbea24d46245a25cbe66d9de2f0fa09f46256ec77df20", func := "dunnage/dunnagelaw22.SpaceChanges", spec := "spaceChanges", unfollowed := true, recurses := true, apart := false, narrowed := true }
def SpaceChangesUptoSaid : Prop := spaceChangesUptoRow.holds Try.pinned (OpenSpec.upto spaceChangesSpec)

/-- 'dunnagelaw22.SpaceFills', WHERE WHAT IT READS IS OF BULK AT MOST 1048576: true; the input reads as it did. -/
def spaceFillsUptoRow : OpenClaim := { program := "ytilmlblejopbmaa", sum := "d8e434d7ae213f2aa2fcbea24d46245a25cbe66d9de2f0fa09f46256ec77df20", func := "dunnage/dunnagelaw22.SpaceFills", spec := "spaceFills", unfollowed := true, recurses := true, apart := false, narrowed := true }
def SpaceFillsUptoSaid : Prop := spaceFillsUptoRow.holds Try.pinned (OpenSpec.upto spaceFillsSpec)

/-- 'dunnagelaw22.SpaceTells', WHERE WHAT IT READS IS OF BULK AT MOST 1048576: true; the input reads as it did. -/
def spaceTellsUptoRow : OpenClaim := { program := "ytilmlblejopbmaa", sum := "d8e434d7ae213f2aa2fcbea24d46245a25cbe66d9de2f0fa09f46256ec77df20", func := "dunnage/dunnagelaw22.SpaceTells", spec := "spaceTells", unfollowed := true, recurses := true, apart := false, narrowed := true }
def SpaceTellsUptoSaid : Prop := spaceTellsUptoRow.holds Try.pinned (OpenSpec.upto spaceTellsSpec)

end Rows
end Go.Proofs.Ytilmlblejopbmaa
