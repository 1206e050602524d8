/-
  No cell of these rows narrows 'for every input' (looked for: loops, veiled, ifaces, maps, wideKeys, modest, calm, conditions, laid).
  DERIVED. THE GIVEN ROWS OF THIS SEAT. 5 by the template 'for every input the law returns true; each argument reads behind the call as it read before'; 0 by the template 'total and deterministic' (their statements: YtchiopfanplebaaTotals.lean).
  GIVEN WITH THE SEED: the statements are not yours to turn. If you find one false, say at which input.
  Laid BY PROGRAM, IN A SANDBOX (cutbox-rows.mjs): the forced cells as the released guide's own fill.sh prints them over the translation 590644b1179ff811… (all of the seat's roots in one cut). By AI agents, Wed Nov 11 2026. No macro, syntax, notation, axiom, sorry.
-/
import Derived.Test.YtchiopfanplebaaChecked
import GoSem.Claim
import GoSem.ClaimJoined
import GoSem.ClaimMapViews
import Derived.JoinedTies
import Derived.KernelRfl
namespace Go.Proofs.Ytchiopfanplebaa
/- THE CELL 'sum', in the pinned program and in every row, IS THE sha256 OF THE DUMP (.gsa) THAT YtchiopfanplebaaProg.lean LOADS. Nothing in Lean hashes anything: it is a label: what it is worth is what the hold of that sum in a sandbox is worth. -/
noncomputable def Try.pinned : Pinned := { name := "ytchiopfanplebaa", sum := "590644b1179ff8119487b32acfe6679dfcd0327a7e6e6a9960cf663311e75b90", checked := Try.checked }
namespace Rows
def none {H : Type} : Left H := { results := [], args := [] }

/-- 'dunnagelaw03.SectorSeals': WHATEVER THE INPUT: true; the input reads as it did. -/
def sectorSealsSpec : ChangeSpec := { name := "sectorSeals", fn := fun _ => fun
  | [d1, d2, d3] => { results := [.lit (.bool true)], args := [d1, d2, d3] }
  | _ => none }
def sectorSealsRow : OpenClaim := { program := "ytchiopfanplebaa", sum := "590644b1179ff8119487b32acfe6679dfcd0327a7e6e6a9960cf663311e75b90", func := "dunnage/dunnagelaw03.SectorSeals", spec := "sectorSeals", unfollowed := true, recurses := true, apart := false }
def SectorSealsSaid : Prop := sectorSealsRow.holds Try.pinned (OpenSpec.ofChange sectorSealsSpec)

/-- ITS FALSE NEIGHBOUR: 'it returns false'. Refute it at one input. -/
def sectorSealsWrong : ChangeSpec := { name := "sectorSeals", fn := fun _ => fun
  | [d1, d2, d3] => { results := [.lit (.bool false)], args := [d1, d2, d3] }
  | _ => none }
def SectorSealsWrongFalsely : Prop := sectorSealsRow.holds Try.pinned (OpenSpec.ofChange sectorSealsWrong)

/-- 'dunnagelaw03.SectorTwo': WHATEVER THE INPUT: true; the input reads as it did. -/
def sectorTwoSpec : ChangeSpec := { name := "sectorTwo", fn := fun _ => fun
  | [d1, d2, d3, d4, d5, d6] => { results := [.lit (.bool true)], args := [d1, d2, d3, d4, d5, d6] }
  | _ => none }
def sectorTwoRow : OpenClaim := { program := "ytchiopfanplebaa", sum := "590644b1179ff8119487b32acfe6679dfcd0327a7e6e6a9960cf663311e75b90", func := "dunnage/dunnagelaw03.SectorTwo", spec := "sectorTwo", apart := false }
def SectorTwoSaid : Prop := sectorTwoRow.holds Try.pinned (OpenSpec.ofChange sectorTwoSpec)

/-- ITS FALSE NEIGHBOUR: 'it returns false'. Refute it at one input. -/
def sectorTwoWrong : ChangeSpec := { name := "sectorTwo", fn := fun _ => fun
  | [d1, d2, d3, d4, d5, d6] => { results := [.lit (.bool false)], args := [d1, d2, d3, d4, d5, d6] }
  | _ => none }
def SectorTwoWrongFalsely : Prop := sectorTwoRow.holds Try.pinned (OpenSpec.ofChange sectorTwoWrong)

/-- 'dunnagelaw03.SectorBack': WHATEVER THE INPUT: true; the input reads as it did. -/
def sectorBackSpec : ChangeSpec := { name := "sectorBack", fn := fun _ => fun
  | [d1, d2, d3, d4] => { results := [.lit (.bool true)], args := [d1, d2, d3, d4] }
  | _ => none }
def sectorBackRow : OpenClaim := { program := "ytchiopfanplebaa", sum := "590644b1179ff8119487b32acfe6679dfcd0327a7e6e6a9960cf663311e75b90", func := "dunnage/dunnagelaw03.SectorBack", spec := "sectorBack", unfollowed := true, recurses := true, apart := false }
def SectorBackSaid : Prop := sectorBackRow.holds Try.pinned (OpenSpec.ofChange sectorBackSpec)

/-- ITS FALSE NEIGHBOUR: 'it returns false'. Refute it at one input. -/
def sectorBackWrong : ChangeSpec := { name := "sectorBack", fn := fun _ => fun
  | [d1, d2, d3, d4] => { results := [.lit (.bool false)], args := [d1, d2, d3, d4] }
  | _ => none }
def SectorBackWrongFalsely : Prop := sectorBackRow.holds Try.pinned (OpenSpec.ofChange sectorBackWrong)

/-- 'dunnagelaw03.SectorTurned': WHATEVER THE INPUT: true; the input reads as it did. -/
def sectorTurnedSpec : ChangeSpec := { name := "sectorTurned", fn := fun _ => fun
  | [d1, d2, d3, d4, d5, d6] => { results := [.lit (.bool true)], args := [d1, d2, d3, d4, d5, d6] }
  | _ => none }
def sectorTurnedRow : OpenClaim := { program := "ytchiopfanplebaa", sum := "590644b1179ff8119487b32acfe6679dfcd0327a7e6e6a9960cf663311e75b90", func := "dunnage/dunnagelaw03.SectorTurned", spec := "sectorTurned", unfollowed := true, recurses := true, apart := false }
def SectorTurnedSaid : Prop := sectorTurnedRow.holds Try.pinned (OpenSpec.ofChange sectorTurnedSpec)

/-- ITS FALSE NEIGHBOUR: 'it returns false'. Refute it at one input. -/
def sectorTurnedWrong : ChangeSpec := { name := "sectorTurned", fn := fun _ => fun
  | [d1, d2, d3, d4, d5, d6] => { results := [.lit (.bool false)], args := [d1, d2, d3, d4, d5, d6] }
  | _ => none }
def SectorTurnedWrongFalsely : Prop := sectorTurnedRow.holds Try.pinned (OpenSpec.ofChange sectorTurnedWrong)

/-- 'dunnagelaw03.SectorOpens': WHATEVER THE INPUT: true; the input reads as it did. -/
def sectorOpensSpec : ChangeSpec := { name := "sectorOpens", fn := fun _ => fun
  | [d] => { results := [.lit (.bool true)], args := [d] }
  | _ => none }
def sectorOpensRow : OpenClaim := { program := "ytchiopfanplebaa", sum := "590644b1179ff8119487b32acfe6679dfcd0327a7e6e6a9960cf663311e75b90", func := "dunnage/dunnagelaw03.SectorOpens", spec := "sectorOpens", unfollowed := true, recurses := true, apart := false }
def SectorOpensSaid : Prop := sectorOpensRow.holds Try.pinned (OpenSpec.ofChange sectorOpensSpec)

/-- ITS FALSE NEIGHBOUR: 'it returns false'. Refute it at one input. -/
def sectorOpensWrong : ChangeSpec := { name := "sectorOpens", fn := fun _ => fun
  | [d] => { results := [.lit (.bool false)], args := [d] }
  | _ => none }
def SectorOpensWrongFalsely : Prop := sectorOpensRow.holds Try.pinned (OpenSpec.ofChange sectorOpensWrong)

/- THE SECOND FORM. 'bulk': how many values and letters a reading holds, each counted each time it is reached (what is shared counts as often as it is met; a slice's spare places count too). A statement '..UptoSaid' is the law's where the arguments, and the package variables that the reading takes, are together of bulk at most 1048576: NARROWER than '..Said'. Prove '..Said' where nothing that the law and all that it calls make is longer than what came in: it says more and counts as full. Else prove '..UptoSaid'. A law counts once. -/
mutual
def uptoBulk {H : Type} : DataW H → Nat
  | .lit (.string bytes) => bytes.length + 1
  | .lit _ => 1
  | .nil => 1
  | .ptr d => uptoBulk d + 1
  | .slice elems spare => uptoBulkAll elems + uptoBulkAll spare + 1
  | .agg parts => uptoBulkAll parts + 1
  | .iface _ d => uptoBulk d + 1
  | .map entries => uptoBulkEntries entries + 1
  | .held _ => 1
def uptoBulkAll {H : Type} : List (DataW H) → Nat
  | [] => 0
  | d :: r => uptoBulk d + uptoBulkAll r
def uptoBulkEntries {H : Type} : List (Lit × DataW H) → Nat
  | [] => 0
  | x :: r => uptoBulkEntry x + uptoBulkEntries r
def uptoBulkEntry {H : Type} : Lit × DataW H → Nat
  | (.string bytes, d) => bytes.length + uptoBulk d + 1
  | (_, d) => uptoBulk d + 1
 end
def uptoSmall : (H : Type) → List (DataW H) → Bool := fun _ ds => decide (uptoBulkAll ds ≤ 1048576)
def OpenSpec.upto (s : _root_.Go.ChangeSpec) : _root_.Go.OpenSpec := { _root_.Go.OpenSpec.ofChange s with cond := some uptoSmall }

/-- 'dunnagelaw03.SectorSeals', WHERE WHAT IT READS IS OF BULK AT MOST 1048576: true; the input reads as it did. -/
def sectorSealsUptoRow : OpenClaim := { program := "ytchiopfanplebaa", sum := "590644b1179ff8119487b32acfe6679dfcd0327a7e6e6a9960cf663311e75b90", func := "dunnage/dunnagelaw03.SectorSeals", spec := "sectorSeals", unfollowed := true, recurses := true, apart := false, narrowed := true }
def SectorSealsUptoSaid : Prop := sectorSealsUptoRow.holds Try.pinned (OpenSpec.upto sectorSealsSpec)

/-- 'dunnagelaw03.SectorTwo', WHERE WHAT IT READS IS OF BULK AT MOST 1048576: true; the input reads as it did. -/
def sectorTwoUptoRow : OpenClaim := { program := "ytchiopfanplebaa", sum := "590644b1179ff8119487b32acfe6679dfcd0327a7e6e6a9960cf663311e75b90", func := "dunnage/dunnagelaw03.SectorTwo", spec := "sectorTwo", apart := false, narrowed := true }
def SectorTwoUptoSaid : Prop := sectorTwoUptoRow.holds Try.pinned (OpenSpec.upto sectorTwoSpec)

/-- 'dunnagelaw03.SectorBack', WHERE WHAT IT READS IS OF BULK AT MOST 1048576: true; the input reads as it did. -/
def sectorBackUptoRow : OpenClaim := { program := "ytchiopfanplebaa", sum := "590644b1179ff8119487b32acfe6679dfcd0327a7e6e6a9960cf663311e75b90", func := "dunnage/dunnagelaw03.SectorBack", spec := "sectorBack", unfollowed := true, recurses := true, apart := false, narrowed := true }
def SectorBackUptoSaid : Prop := sectorBackUptoRow.holds Try.pinned (OpenSpec.upto sectorBackSpec)

/-- 'dunnagelaw03.SectorTurned', WHERE WHAT IT READS IS OF BULK AT MOST 1048576: true; the input reads as it did. -/
def sectorTurnedUptoRow : OpenClaim := { program := "ytchiopfanplebaa", sum := "590644b1179ff8119487b32acfe6679dfcd0327a7e6e6a9960cf663311e75b90", func := "dunnage/dunnagelaw03.SectorTurned", spec := "sectorTurned", unfollowed := true, recurses := true, apart := false, narrowed := true }
def SectorTurnedUptoSaid : Prop := sectorTurnedUptoRow.holds Try.pinned (OpenSpec.upto sectorTurnedSpec)

/-- 'dunnagelaw03.SectorOpens', WHERE WHAT IT READS IS OF BULK AT MOST 1048576: true; the input reads as it did. -/
def sectorOpensUptoRow : OpenClaim := { program := "ytchiopfanplebaa", sum := "590644b1179ff8119487b32acfe6679dfcd0327a7e6e6a9960cf663311e75b90", func := "dunnage/dunnagelaw03.SectorOpens", spec := "sectorOpens", unfollowed := true, recurses := true, apart := false, narrowed := true }
def SectorOpensUptoSaid : Prop := sectorOpensUptoRow.holds Try.pinned (OpenSpec.upto sectorOpensSpec)

end Rows
end Go.Proofs.Ytchiopfanplebaa
