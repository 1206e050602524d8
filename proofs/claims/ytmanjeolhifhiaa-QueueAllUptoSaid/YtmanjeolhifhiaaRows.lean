/-
  No cell of these rows narrows 'for every input' (looked for: loops, veiled, ifaces, maps, wideKeys, modest, calm, conditions, laid).
  DERIVED. THE GIVEN ROWS OF THIS SEAT. 7 by the template 'for every input the law returns true; each argument reads behind the call as it read before'; 0 by the template 'total and deterministic' (their statements: YtmanjeolhifhiaaTotals.lean).
  GIVEN WITH THE SEED: the statements are not yours to turn. If you find one false, say at which input.
  Laid BY PROGRAM, IN A SANDBOX (cutbox-rows.mjs): the forced cells as the released guide's own fill.sh prints them over the translation 415545fdde7e086a… (all of the seat's roots in one cut). By AI agents, Wed Nov 11 2026. No macro, syntax, notation, axiom, sorry.
-/
import Derived.Test.YtmanjeolhifhiaaChecked
import GoSem.Claim
import GoSem.ClaimJoined
import GoSem.ClaimMapViews
import Derived.JoinedTies
import Derived.KernelRfl
namespace Go.Proofs.Ytmanjeolhifhiaa
/- THE CELL 'sum', in the pinned program and in every row, IS THE sha256 OF THE DUMP (.gsa) THAT YtmanjeolhifhiaaProg.lean LOADS. Nothing in Lean hashes anything: it is a label: what it is worth is what the hold of that sum in a sandbox is worth. -/
noncomputable def Try.pinned : Pinned := { name := "ytmanjeolhifhiaa", sum := "415545fdde7e086adc310d837d656ce6ceda42eb07b8c7933bf2137fb5832c21", checked := Try.checked }
namespace Rows
def none {H : Type} : Left H := { results := [], args := [] }

/-- 'dunnagelaw08.QueueKinds': WHATEVER THE INPUT: true; the input reads as it did. -/
def queueKindsSpec : ChangeSpec := { name := "queueKinds", fn := fun _ => fun
  | [d1, d2] => { results := [.lit (.bool true)], args := [d1, d2] }
  | _ => none }
def queueKindsRow : OpenClaim := { program := "ytmanjeolhifhiaa", sum := "415545fdde7e086adc310d837d656ce6ceda42eb07b8c7933bf2137fb5832c21", func := "dunnage/dunnagelaw08.QueueKinds", spec := "queueKinds", unfollowed := true, recurses := true, apart := false }
def QueueKindsSaid : Prop := queueKindsRow.holds Try.pinned (OpenSpec.ofChange queueKindsSpec)

/-- ITS FALSE NEIGHBOUR: 'it returns false'. Refute it at one input. -/
def queueKindsWrong : ChangeSpec := { name := "queueKinds", fn := fun _ => fun
  | [d1, d2] => { results := [.lit (.bool false)], args := [d1, d2] }
  | _ => none }
def QueueKindsWrongFalsely : Prop := queueKindsRow.holds Try.pinned (OpenSpec.ofChange queueKindsWrong)

/-- 'dunnagelaw08.QueueAll': WHATEVER THE INPUT: true; the input reads as it did. -/
def queueAllSpec : ChangeSpec := { name := "queueAll", fn := fun _ => fun
  | [d1, d2] => { results := [.lit (.bool true)], args := [d1, d2] }
  | _ => none }
def queueAllRow : OpenClaim := { program := "ytmanjeolhifhiaa", sum := "415545fdde7e086adc310d837d656ce6ceda42eb07b8c7933bf2137fb5832c21", func := "dunnage/dunnagelaw08.QueueAll", spec := "queueAll", unfollowed := true, recurses := true, apart := false }
def QueueAllSaid : Prop := queueAllRow.holds Try.pinned (OpenSpec.ofChange queueAllSpec)

/-- ITS FALSE NEIGHBOUR: 'it returns false'. Refute it at one input. -/
def queueAllWrong : ChangeSpec := { name := "queueAll", fn := fun _ => fun
  | [d1, d2] => { results := [.lit (.bool false)], args := [d1, d2] }
  | _ => none }
def QueueAllWrongFalsely : Prop := queueAllRow.holds Try.pinned (OpenSpec.ofChange queueAllWrong)

/-- 'dunnagelaw08.QueueDrains': WHATEVER THE INPUT: true; the input reads as it did. -/
def queueDrainsSpec : ChangeSpec := { name := "queueDrains", fn := fun _ => fun
  | [d1, d2] => { results := [.lit (.bool true)], args := [d1, d2] }
  | _ => none }
def queueDrainsRow : OpenClaim := { program := "ytmanjeolhifhiaa", sum := "415545fdde7e086adc310d837d656ce6ceda42eb07b8c7933bf2137fb5832c21", func := "dunnage/dunnagelaw08.QueueDrains", spec := "queueDrains", unfollowed := true, recurses := true, apart := false }
def QueueDrainsSaid : Prop := queueDrainsRow.holds Try.pinned (OpenSpec.ofChange queueDrainsSpec)

/-- ITS FALSE NEIGHBOUR: 'it returns false'. Refute it at one input. -/
def queueDrainsWrong : ChangeSpec := { name := "queueDrains", fn := fun _ => fun
  | [d1, d2] => { results := [.lit (.bool false)], args := [d1, d2] }
  | _ => none }
def QueueDrainsWrongFalsely : Prop := queueDrainsRow.holds Try.pinned (OpenSpec.ofChange queueDrainsWrong)

/-- 'dunnagelaw08.QueueSorts': WHATEVER THE INPUT: true; the input reads as it did. -/
def queueSortsSpec : ChangeSpec := { name := "queueSorts", fn := fun _ => fun
  | [d] => { results := [.lit (.bool true)], args := [d] }
  | _ => none }
def queueSortsRow : OpenClaim := { program := "ytmanjeolhifhiaa", sum := "415545fdde7e086adc310d837d656ce6ceda42eb07b8c7933bf2137fb5832c21", func := "dunnage/dunnagelaw08.QueueSorts", spec := "queueSorts", unfollowed := true, recurses := true, apart := false }
def QueueSortsSaid : Prop := queueSortsRow.holds Try.pinned (OpenSpec.ofChange queueSortsSpec)

/-- ITS FALSE NEIGHBOUR: 'it returns false'. Refute it at one input. -/
def queueSortsWrong : ChangeSpec := { name := "queueSorts", fn := fun _ => fun
  | [d] => { results := [.lit (.bool false)], args := [d] }
  | _ => none }
def QueueSortsWrongFalsely : Prop := queueSortsRow.holds Try.pinned (OpenSpec.ofChange queueSortsWrong)

/-- 'dunnagelaw08.QueuePlays': WHATEVER THE INPUT: true; the input reads as it did. -/
def queuePlaysSpec : ChangeSpec := { name := "queuePlays", fn := fun _ => fun
  | [d] => { results := [.lit (.bool true)], args := [d] }
  | _ => none }
def queuePlaysRow : OpenClaim := { program := "ytmanjeolhifhiaa", sum := "415545fdde7e086adc310d837d656ce6ceda42eb07b8c7933bf2137fb5832c21", func := "dunnage/dunnagelaw08.QueuePlays", spec := "queuePlays", unfollowed := true, recurses := true, apart := false }
def QueuePlaysSaid : Prop := queuePlaysRow.holds Try.pinned (OpenSpec.ofChange queuePlaysSpec)

/-- ITS FALSE NEIGHBOUR: 'it returns false'. Refute it at one input. -/
def queuePlaysWrong : ChangeSpec := { name := "queuePlays", fn := fun _ => fun
  | [d] => { results := [.lit (.bool false)], args := [d] }
  | _ => none }
def QueuePlaysWrongFalsely : Prop := queuePlaysRow.holds Try.pinned (OpenSpec.ofChange queuePlaysWrong)

/-- 'dunnagelaw08.QueueForks': WHATEVER THE INPUT: true; the input reads as it did. -/
def queueForksSpec : ChangeSpec := { name := "queueForks", fn := fun _ => fun
  | [d1, d2, d3] => { results := [.lit (.bool true)], args := [d1, d2, d3] }
  | _ => none }
def queueForksRow : OpenClaim := { program := "ytmanjeolhifhiaa", sum := "415545fdde7e086adc310d837d656ce6ceda42eb07b8c7933bf2137fb5832c21", func := "dunnage/dunnagelaw08.QueueForks", spec := "queueForks", unfollowed := true, recurses := true, apart := false }
def QueueForksSaid : Prop := queueForksRow.holds Try.pinned (OpenSpec.ofChange queueForksSpec)

/-- ITS FALSE NEIGHBOUR: 'it returns false'. Refute it at one input. -/
def queueForksWrong : ChangeSpec := { name := "queueForks", fn := fun _ => fun
  | [d1, d2, d3] => { results := [.lit (.bool false)], args := [d1, d2, d3] }
  | _ => none }
def QueueForksWrongFalsely : Prop := queueForksRow.holds Try.pinned (OpenSpec.ofChange queueForksWrong)

/-- 'dunnagelaw08.QueueNil': WHATEVER THE INPUT: true; the input reads as it did. -/
def queueNilSpec : ChangeSpec := { name := "queueNil", fn := fun _ => fun
  | [d] => { results := [.lit (.bool true)], args := [d] }
  | _ => none }
def queueNilRow : OpenClaim := { program := "ytmanjeolhifhiaa", sum := "415545fdde7e086adc310d837d656ce6ceda42eb07b8c7933bf2137fb5832c21", func := "dunnage/dunnagelaw08.QueueNil", spec := "queueNil", unfollowed := true, recurses := true, apart := false }
def QueueNilSaid : Prop := queueNilRow.holds Try.pinned (OpenSpec.ofChange queueNilSpec)

/-- ITS FALSE NEIGHBOUR: 'it returns false'. Refute it at one input. -/
def queueNilWrong : ChangeSpec := { name := "queueNil", fn := fun _ => fun
  | [d] => { results := [.lit (.bool false)], args := [d] }
  | _ => none }
def QueueNilWrongFalsely : Prop := queueNilRow.holds Try.pinned (OpenSpec.ofChange queueNilWrong)

/- THE SECOND FORM. 'bulk': how many values and letters a reading holds, each counted each time it is reached (what is shared counts as often as it is met; a slice's spare places count too). A statement '..UptoSaid' is the law's where the arguments, and the package variables that the reading takes, are together of bulk at most 1048576: NARROWER than '..Said'. Prove '..Said' where nothing that the law and all that it calls make is longer than what came in: it says more and counts as full. Else prove '..UptoSaid'. A law counts once. -/
mutual
def uptoBulk {H : Type} : DataW H → Nat
  | .lit (.string bytes) => bytes.length + 1
  | .lit _ => 1
  | .nil => 1
  | .ptr d => uptoBulk d + 1
  | .slice elems spare => uptoBulkAll elems + uptoBulkAll spare + 1
  | .agg parts => uptoBulkAll parts + 1
  | .iface _ d => uptoBulk d + 1
  | .map entries => uptoBulkEntries entries + 1
  | .held _ => 1
def uptoBulkAll {H : Type} : List (DataW H) → Nat
  | [] => 0
  | d :: r => uptoBulk d + uptoBulkAll r
def uptoBulkEntries {H : Type} : List (Lit × DataW H) → Nat
  | [] => 0
  | x :: r => uptoBulkEntry x + uptoBulkEntries r
def uptoBulkEntry {H : Type} : Lit × DataW H → Nat
  | (.string bytes, d) => bytes.length + uptoBulk d + 1
  | (_, d) => uptoBulk d + 1
 end
def uptoSmall : (H : Type) → List (DataW H) → Bool := fun _ ds => decide (uptoBulkAll ds ≤ 1048576)
def OpenSpec.upto (s : _root_.Go.ChangeSpec) : _root_.Go.OpenSpec := { _root_.Go.OpenSpec.ofChange s with cond := some uptoSmall }

/-- 'dunnagelaw08.QueueKinds', WHERE WHAT IT READS IS OF BULK AT MOST 1048576: true; the input reads as it did. -/
def queueKindsUptoRow : OpenClaim := { program := "ytmanjeolhifhiaa", sum := "415545fdde7e086adc310d837d656ce6ceda42eb07b8c7933bf2137fb5832c21", func := "dunnage/dunnagelaw08.QueueKinds", spec := "queueKinds", unfollowed := true, recurses := true, apart := false, narrowed := true }
def QueueKindsUptoSaid : Prop := queueKindsUptoRow.holds Try.pinned (OpenSpec.upto queueKindsSpec)

/-- 'dunnagelaw08.QueueAll', WHERE WHAT IT READS IS OF BULK AT MOST 1048576: true; the input reads as it did. -/
def queueAllUptoRow : OpenClaim := { program := "ytmanjeolhifhiaa", sum := "415545fdde7e086adc310d837d656ce6ceda42eb07b8c7933bf2137fb5832c21", func := "dunnage/dunnagelaw08.QueueAll", spec := "queueAll", unfollowed := true, recurses := true, apart := false, narrowed := true }
def QueueAllUptoSaid : Prop := queueAllUptoRow.holds Try.pinned (OpenSpec.upto queueAllSpec)

/-- 'dunnagelaw08.QueueDrains', WHERE WHAT IT READS IS OF BULK AT MOST 1048576: true; the input reads as it did. -/
def queueDrainsUptoRow : OpenClaim := { program := "ytmanjeolhifhiaa", sum := "415545fdde7e086adc310d837d656ce6ceda42eb07b8c7933bf2137fb5832c21", func := "dunnage/dunnagelaw08.QueueDrains", spec := "queueDrains", unfollowed := true, recurses := true, apart := false, narrowed := true }
def QueueDrainsUptoSaid : Prop := queueDrainsUptoRow.holds Try.pinned (OpenSpec.upto queueDrainsSpec)

/-- 'dunnagelaw08.QueueSorts', WHERE WHAT IT READS IS OF BULK AT MOST 1048576: true; the input reads as it did. -/
def queueSortsUptoRow : OpenClaim := { program := "ytmanjeolhifhiaa", sum := "415545fdde7e086adc310d837d656ce6ceda42eb07b8c7933bf2137fb5832c21", func := "dunnage/dunnagelaw08.QueueSorts", spec := "queueSorts", unfollowed := true, recurses := true, apart := false, narrowed := true }
def QueueSortsUptoSaid : Prop := queueSortsUptoRow.holds Try.pinned (OpenSpec.upto queueSortsSpec)

/-- 'dunnagelaw08.QueuePlays', WHERE WHAT IT READS IS OF BULK AT MOST 1048576: true; the input reads as it did. -/
def queuePlaysUptoRow : OpenClaim := { program := "ytmanjeolhifhiaa", sum := "415545fdde7e086adc310d837d656ce6ceda42eb07b8c7933bf2137fb5832c21", func := "dunnage/dunnagelaw08.QueuePlays", spec := "queuePlays", unfollowed := true, recurses := true, apart := false, narrowed := true }
def QueuePlaysUptoSaid : Prop := queuePlaysUptoRow.holds Try.pinned (OpenSpec.upto queuePlaysSpec)

/-- 'dunnagelaw08.QueueForks', WHERE WHAT IT READS IS OF BULK AT MOST 1048576: true; the input reads as it did. -/
def queueForksUptoRow : OpenClaim := { program := "ytmanjeolhifhiaa", sum := "415545fdde7e086adc310d837d656ce6ceda42eb07b8c7933bf2137fb5832c21", func := "dunnage/dunnagelaw08.QueueForks", spec := "queueForks", unfollowed := true, recurses := true, apart := false, narrowed := true }
def QueueForksUptoSaid : Prop := queueForksUptoRow.holds Try.pinned (OpenSpec.upto queueForksSpec)

/-- 'dunnagelaw08.QueueNil', WHERE WHAT IT READS IS OF BULK AT MOST 1048576: true; the input reads as it did. -/
def queueNilUptoRow : OpenClaim := { program := "ytmanjeolhifhiaa", sum := "415545fdde7e086adc310d837d656ce6ceda42eb07b8c7933bf2137fb5832c21", func := "dunnage/dunnagelaw08.QueueNil", spec := "queueNil", unfollowed := true, recurses := true, apart := false, narrowed := true }
def QueueNilUptoSaid : Prop := queueNilUptoRow.holds Try.pinned (OpenSpec.upto queueNilSpec)

end Rows
end Go.Proofs.Ytmanjeolhifhiaa
