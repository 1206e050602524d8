/- What the bound on the bulk says of a slice and of a text. -/
import Derived.Test.YtmipfmeafbeegaaRows
namespace Go.Proofs.Ytmipfmeafbeegaa.bulk
theorem one {H : Type} (d : DataW H) : 1 ≤ Rows.uptoBulk d := by
  cases d with
  | lit l => cases l <;> simp [Rows.uptoBulk]
  | _ => simp [Rows.uptoBulk]
theorem len {H : Type} : ∀ l : List (DataW H), l.length ≤ Rows.uptoBulkAll l
  | [] => by simp [Rows.uptoBulkAll]
  | d :: l => by have h1 := one d; have h2 := len l; simp only [Rows.uptoBulkAll, List.length_cons]; omega
theorem slice {H : Type} (E S : List (DataW H)) : E.length + S.length + 1 ≤ Rows.uptoBulk (.slice E S) := by
  have h1 := len E
  have h2 := len S
  simp only [Rows.uptoBulk]; omega
end Go.Proofs.Ytmipfmeafbeegaa.bulk
