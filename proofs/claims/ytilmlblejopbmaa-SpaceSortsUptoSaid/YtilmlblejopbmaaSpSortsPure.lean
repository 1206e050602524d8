/- Plain laws of sums over extents in any order. -/
import Derived.Test.YtilmlblejopbmaaSpCom
namespace Go.Proofs.Ytilmlblejopbmaa
open Go.RowKit
set_option linter.unusedVariables false
theorem wrap64_add (a b : Int) : wrap64 (wrap64 a + b) = wrap64 (a + b) := by
  unfold wrap64; omega
theorem liveE_perm {xs ys : List Ext} (h : xs.Perm ys) : liveE xs = liveE ys := by
  unfold liveE
  refine h.foldl_eq' (fun x _ y _ z => ?_) 0
  rw [wrap64_add, wrap64_add]
  congr 1; omega
theorem tailE_perm {xs ys : List Ext} (h : xs.Perm ys) : tailE xs = tailE ys := by
  unfold tailE
  refine h.foldl_eq' (fun x _ y _ z => ?_) 0
  omega
end Go.Proofs.Ytilmlblejopbmaa
