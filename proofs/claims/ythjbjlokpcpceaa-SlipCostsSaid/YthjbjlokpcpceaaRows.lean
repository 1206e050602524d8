/-
  No cell of these rows narrows 'for every input' (looked for: loops, veiled, ifaces, maps, wideKeys, modest, calm, conditions, laid).
  DERIVED. THE GIVEN ROWS OF THIS SEAT. 3 by the template 'for every input the law returns true; each argument reads behind the call as it read before'; 0 by the template 'total and deterministic' (their statements: YthjbjlokpcpceaaTotals.lean).
  GIVEN WITH THE SEED: the statements are not yours to turn. If you find one false, say at which input.
  Laid BY PROGRAM, IN A SANDBOX (cutbox-rows.mjs): the forced cells as the released guide's own fill.sh prints them over the translation a283ebb59f65515e… (all of the seat's roots in one cut). By AI agents, Wed Nov 11 2026. No macro, syntax, notation, axiom, sorry.
-/
import Derived.Test.YthjbjlokpcpceaaChecked
import GoSem.Claim
import GoSem.ClaimJoined
import GoSem.ClaimMapViews
import Derived.JoinedTies
import Derived.KernelRfl
namespace Go.Proofs.Ythjbjlokpcpceaa
/- THE CELL 'sum', in the pinned program and in every row, IS THE sha256 OF THE DUMP (.gsa) THAT YthjbjlokpcpceaaProg.lean LOADS. Nothing in Lean hashes anything: it is a label: what it is worth is what the hold of that sum in a sandbox is worth. -/
noncomputable def Try.pinned : Pinned := { name := "ythjbjlokpcpceaa", sum := "a283ebb59f65515e34a53d6baac85041962ebdeefc7d8eabf9a2631540282895", checked := Try.checked }
namespace Rows
def none {H : Type} : Left H := { results := [], args := [] }

/-- 'dunnagelaw25.SlipActs': WHATEVER THE INPUT: true; the input reads as it did. -/
def slipActsSpec : ChangeSpec := { name := "slipActs", fn := fun _ => fun
  | [d1, d2, d3] => { results := [.lit (.bool true)], args := [d1, d2, d3] }
  | _ => none }
def slipActsRow : OpenClaim := { program := "ythjbjlokpcpceaa", sum := "a283ebb59f65515e34a53d6baac85041962ebdeefc7d8eabf9a2631540282895", func := "dunnage/dunnagelaw25.SlipActs", spec := "slipActs", unfollowed := true, recurses := true, apart := false }
def SlipActsSaid : Prop := slipActsRow.holds Try.pinned (OpenSpec.ofChange slipActsSpec)

/-- ITS FALSE NEIGHBOUR: 'it returns false'. Refute it at one input. -/
def slipActsWrong : ChangeSpec := { name := "slipActs", fn := fun _ => fun
  | [d1, d2, d3] => { results := [.lit (.bool false)], args := [d1, d2, d3] }
  | _ => none }
def SlipActsWrongFalsely : Prop := slipActsRow.holds Try.pinned (OpenSpec.ofChange slipActsWrong)

/-- 'dunnagelaw25.SlipCosts': WHATEVER THE INPUT: true; the input reads as it did. -/
def slipCostsSpec : ChangeSpec := { name := "slipCosts", fn := fun _ => fun
  | [d1, d2] => { results := [.lit (.bool true)], args := [d1, d2] }
  | _ => none }
def slipCostsRow : OpenClaim := { program := "ythjbjlokpcpceaa", sum := "a283ebb59f65515e34a53d6baac85041962ebdeefc7d8eabf9a2631540282895", func := "dunnage/dunnagelaw25.SlipCosts", spec := "slipCosts", apart := false }
def SlipCostsSaid : Prop := slipCostsRow.holds Try.pinned (OpenSpec.ofChange slipCostsSpec)

/-- ITS FALSE NEIGHBOUR: 'it returns false'. Refute it at one input. -/
def slipCostsWrong : ChangeSpec := { name := "slipCosts", fn := fun _ => fun
  | [d1, d2] => { results := [.lit (.bool false)], args := [d1, d2] }
  | _ => none }
def SlipCostsWrongFalsely : Prop := slipCostsRow.holds Try.pinned (OpenSpec.ofChange slipCostsWrong)

/-- 'dunnagelaw25.SlipWrites': WHATEVER THE INPUT: true; the input reads as it did. -/
def slipWritesSpec : ChangeSpec := { name := "slipWrites", fn := fun _ => fun
  | [d1, d2, d3] => { results := [.lit (.bool true)], args := [d1, d2, d3] }
  | _ => none }
def slipWritesRow : OpenClaim := { program := "ythjbjlokpcpceaa", sum := "a283ebb59f65515e34a53d6baac85041962ebdeefc7d8eabf9a2631540282895", func := "dunnage/dunnagelaw25.SlipWrites", spec := "slipWrites", unfollowed := true, recurses := true, apart := false }
def SlipWritesSaid : Prop := slipWritesRow.holds Try.pinned (OpenSpec.ofChange slipWritesSpec)

/-- ITS FALSE NEIGHBOUR: 'it returns false'. Refute it at one input. -/
def slipWritesWrong : ChangeSpec := { name := "slipWrites", fn := fun _ => fun
  | [d1, d2, d3] => { results := [.lit (.bool false)], args := [d1, d2, d3] }
  | _ => none }
def SlipWritesWrongFalsely : Prop := slipWritesRow.holds Try.pinned (OpenSpec.ofChange slipWritesWrong)

/- THE SECOND FORM. 'bulk': how many values and letters a reading holds, each counted each time it is reached (what is shared counts as often as it is met; a slice's spare places count too). A statement '..UptoSaid' is the law's where the arguments, and the package variables that the reading takes, are together of bulk at most 1048576: NARROWER than '..Said'. Prove '..Said' where nothing that the law and all that it calls make is longer than what came in: it says more and counts as full. Else prove '..UptoSaid'. A law counts once. -/
mutual
def uptoBulk {H : Type} : DataW H → Nat
  | .lit (.string bytes) => bytes.length + 1
  | .lit _ => 1
  | .nil => 1
  | .ptr d => uptoBulk d + 1
  | .slice elems spare => uptoBulkAll elems + uptoBulkAll spare + 1
  | .agg parts => uptoBulkAll parts + 1
  | .iface _ d => uptoBulk d + 1
  | .map entries => uptoBulkEntries entries + 1
  | .held _ => 1
def uptoBulkAll {H : Type} : List (DataW H) → Nat
  | [] => 0
  | d :: r => uptoBulk d + uptoBulkAll r
def uptoBulkEntries {H : Type} : List (Lit × DataW H) → Nat
  | [] => 0
  | x :: r => uptoBulkEntry x + uptoBulkEntries r
def uptoBulkEntry {H : Type} : Lit × DataW H → Nat
  | (.string bytes, d) => bytes.length + uptoBulk d + 1
  | (_, d) => uptoBulk d + 1
 end
def uptoSmall : (H : Type) → List (DataW H) → Bool := fun _ ds => decide (uptoBulkAll ds ≤ 1048576)
def OpenSpec.upto (s : _root_.Go.ChangeSpec) : _root_.Go.OpenSpec := { _root_.Go.OpenSpec.ofChange s with cond := some uptoSmall }

/-- 'dunnagelaw25.SlipActs', WHERE WHAT IT READS IS OF BULK AT MOST 1048576: true; the input reads as it did. -/
def slipActsUptoRow : OpenClaim := { program := "ythjbjlokpcpceaa", sum := "a283ebb59f65515e34a53d6baac85041962ebdeefc7d8eabf9a2631540282895", func := "dunnage/dunnagelaw25.SlipActs", spec := "slipActs", unfollowed := true, recurses := true, apart := false, narrowed := true }
def SlipActsUptoSaid : Prop := slipActsUptoRow.holds Try.pinned (OpenSpec.upto slipActsSpec)

/-- 'dunnagelaw25.SlipCosts', WHERE WHAT IT READS IS OF BULK AT MOST 1048576: true; the input reads as it did. -/
def slipCostsUptoRow : OpenClaim := { program := "ythjbjlokpcpceaa", sum := "a283ebb59f65515e34a53d6baac85041962ebdeefc7d8eabf9a2631540282895", func := "dunnage/dunnagelaw25.SlipCosts", spec := "slipCosts", apart := false, narrowed := true }
def SlipCostsUptoSaid : Prop := slipCostsUptoRow.holds Try.pinned (OpenSpec.upto slipCostsSpec)

/-- 'dunnagelaw25.SlipWrites', WHERE WHAT IT READS IS OF BULK AT MOST 1048576: true; the input reads as it did. -/
def slipWritesUptoRow : OpenClaim := { program := "ythjbjlokpcpceaa", sum := "a283ebb59f65515e34a53d6baac85041962ebdeefc7d8eabf9a2631540282895", func := "dunnage/dunnagelaw25.SlipWrites", spec := "slipWrites", unfollowed := true, recurses := true, apart := false, narrowed := true }
def SlipWritesUptoSaid : Prop := slipWritesUptoRow.holds Try.pinned (OpenSpec.upto slipWritesSpec)

end Rows
end Go.Proofs.Ythjbjlokpcpceaa
