/- Contracts: disk.New: a device of its own. -/
import Derived.Test.YthjbjlokpcpceaaLay
namespace Go.Proofs.Ythjbjlokpcpceaa
open Go.RowKit
set_option linter.unusedVariables false

theorem infoContent : (Try.prog.info? 125).map (fun i => (i.zero, i.size, i.bytes)) = some (some (.agg (zeros 512).toArray), 512, 512) := by kernel_rfl
/-- A device of n blank sectors, its own. -/
def DiskNew (n : Nat) (w : World) (e : Ending) (w' : World) : Prop := ∃ g, e = .returned (.tuple #[.pointer (some ⟨g, 0, none⟩), .int .i64 0]) ∧ w.heap.size ≤ g ∧ w'.heap[g]? = some (.cells #[.slice (some ⟨w.heap.size, 0, none⟩) n n, .slice none 0 0, .bool false, .int .i64 0, .int .i64 0] 105 (0, 0)) ∧ g ≠ w.heap.size ∧ w'.ownsRow w.heap.size 125 512 (.slice (some ⟨w.heap.size, 0, none⟩) n n) n (madeCells (zeros 512).toArray (n * 512)).toList ∧ Below w.heap.size w w'
set_option maxRecDepth 100000 in
set_option maxHeartbeats 1000000 in
theorem new_ok (n : Nat) (w : World) (h1 : 1 ≤ n) (h2 : n ≤ 65536) :
    Calls Try.prog 52 #[.int .i64 n] w fun e w' => DiskNew n w e w' := by
  obtain ⟨i, hi, hz, hs, hb⟩ := info_parts infoContent
  have HI := Lib.hid hi
  have HZ := Lib.hid hz
  have HS := Lib.hid hs
  have HB := Lib.hid hb
  clear hi hz hs hb
  go_enter Try.func52, Try.ntmps52
  go_wp2_with (with_reducible refine wpList_make_full _ rfl _ _ 102 rfl w.heap.size 125 i (.agg (zeros 512).toArray) 512 Try.underlying102 HI.out HZ.out HS.out .i64 .i64 _ _ n rfl rfl rfl rfl (by rw [HB.out]; omega) (by unfold maxLen; omega) (Nat.le_refl _) ?_)
  intro w' hown hg
  have HO := Lib.hid hown
  have HG := Lib.hid (below_app (Below.refl _ w) (Nat.le_refl _) (World.ownsRow_nil w w.heap.size 125 512) hg)
  have hlt := (own_base' hown _ rfl).2
  clear hown hg
  go_wp2
  go_ret2
  refine ⟨_, rfl, HG.out.size, heap_alloc_new _ _, by omega, (HO.out.alloc _), HG.out.alloc HG.out.size _⟩
end Go.Proofs.Ythjbjlokpcpceaa
