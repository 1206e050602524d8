/- Contracts: a nil queue. -/
import Derived.Test.YtmanjeolhifhiaaQLCom
namespace Go.Proofs.Ytmanjeolhifhiaa
open Go.RowKit Go.Shelf
set_option linter.unusedVariables false
attribute [local go_sem] Oper.semAt_some

theorem eql_func_nil {P : Program} {t : TypeId} {ps r : Array TypeId} {va : Bool} (h : P.underlying t = some (.func ps r va)) (f : Fn) (x y : Array Value) (w : World) : (binOp .eql t (.func f x y) .nilFunc).run P w = .ok (.bool false) w := by
  have hd : ∀ d : Nat, (Op.equalIn (d + 1) t (.func f x y) .nilFunc).run P w = .ok false w := fun d => by simp [Op.equalIn, run_underlying h]
  simp only [binOp]
  simp [Op.equal, Op.maxDepth, hd 9999]
theorem push_nil (x : Itm) (w : World) :
    Calls Try.prog 18 #[.pointer none, .agg #[.int .i64 x.1, .string x.2]] w fun e w' => e = .returned (.int .i64 2) ∧ Below w.heap.size w w' := by
  go_enter Try.func18, Try.ntmps18
  go_wp2
  go_ret
  exact ⟨rfl, below1 _ _⟩
theorem fork_nil (w : World) :
    Calls Try.prog 31 #[.pointer none] w fun e w' => e = .returned (.pointer none) ∧ w = w' := by
  go_enter Try.func31, Try.ntmps31
  go_wp2
  go_ret
  exact ⟨rfl, rfl⟩
theorem pop_nil (w : World) :
    Calls Try.prog 21 #[.pointer none] w fun e w' => e = .returned (.tuple #[.agg #[.int .i64 0, .string ⟨#[]⟩], .bool false]) ∧ Below w.heap.size w w' :=
  qItm_pop0 _ w (fun w1 _ => qItm_qlen_nil w1)
theorem peek_nil (w : World) :
    Calls Try.prog 32 #[.pointer none] w fun e w' => e = .returned (.tuple #[.agg #[.int .i64 0, .string ⟨#[]⟩], .bool false]) ∧ Below w.heap.size w w' :=
  qItm_peek0 _ w (fun w1 _ => qItm_qlen_nil w1)
theorem drain_nil (w : World) :
    Calls Try.prog 33 #[.pointer none] w fun e w' => e = .returned (.func (.func 46) #[] #[.pointer (some ⟨w.heap.size, 0, none⟩)]) ∧ w' = w.alloc (.cells #[.pointer none] 30) := by
  go_enter Try.func33, Try.ntmps33
  go_wp2
  go_ret
  exact ⟨rfl, rfl⟩
def NilBox (Bx : Nat) (pre : List Itm) (W : World) : Prop := pre = [] ∧ W.heap[Bx]? = some (.cells #[.pointer none] 30 (0, 0))
set_option maxRecDepth 100000 in
set_option maxHeartbeats 2000000 in
theorem drain1_nil (n Bx : Nat) (hn : 1 ≤ n) :
    SeqW Fence.wide n Try.prog 46 #[.pointer (some ⟨Bx, 0, none⟩)] (fun x : Itm => #[.agg #[.int .i64 x.1, .string x.2]]) (fun k => k = Bx) (NilBox Bx) (fun xs => xs = []) := by
  intro l J Jx W hJ hJx hY h0 hR0
  refine callsIn_of_wp Try.func46 rfl trivial ?_ rfl
  simp only [Try.ntmps46, List.size_toArray, List.length_cons, List.length_nil, Nat.reduceAdd, Nat.reduceSub, Array.replicate_succ, Array.replicate_zero, List.push_toArray, List.append_toArray, List.nil_append, List.cons_append]
  have hcb : W.cell? ⟨Bx, 0, none⟩ = some (.pointer none) := by rw [cell_of_row W Bx 0 _ _ _ hR0.2]; rfl
  have C1 := Lib.hid (qItm_qlen_nil W)
  have H0 := Lib.hid h0
  have HR := Lib.hid hR0
  clear hJ hJx hY h0 hR0
  gi_wp2
  gi_loopw [4] (fun s4 wr => wr = W) (fun _ wr => 0)
  case atStart => rfl
  case round =>
    subst hrel
    gi_wp2_with fail
    refine ⟨trivial, ?_⟩
    refine (callsIn_wide.2 C1.out).mono ?_
    rintro e w1 ⟨rfl, rfl⟩
    gi_wp2
    go_end0
    exact ⟨⟨_, rfl⟩, .inl ⟨[], rfl, H0.out, HR.out⟩⟩
end Go.Proofs.Ytmanjeolhifhiaa
