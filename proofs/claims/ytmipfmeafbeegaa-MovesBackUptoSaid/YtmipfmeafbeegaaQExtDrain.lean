/- Contracts: the queue's Drain, as an iterator that writes its own memory between two rounds. -/
import Derived.Test.YtmipfmeafbeegaaQExtQueue
import Derived.Test.YtmipfmeafbeegaaRangeW
import Derived.RangeFuncBound
import Derived.Shelf.Abstract
import Derived.Shelf.RegionOpen
import Derived.WalkKit
import Derived.OwnWalkIn
import Derived.TacticsInMore
import Derived.LoopNIn
import Derived.LoopIn
namespace Go.Proofs.Ytmipfmeafbeegaa
open Go.RowKit Go.Shelf
set_option linter.unusedVariables false
attribute [local go_sem] Oper.semAt_some

/-- The queue when these have come: what is left of S0. -/
def DrnExt (base : Nat) (less : Ext → Ext → Bool) (fn : Nat) (q Bx : Nat) (v0 : Value) (tn : Nat) (S0 : List (Ext × Nat)) (pre : List Ext) (W : World) : Prop :=
  W.heap[Bx]? = some (.cells #[.pointer (some ⟨q, 0, none⟩)] 52 (0, 0)) ∧ ∃ v l T P0, QAtExt base W q v (.func (.func fn) #[] #[]) l tn ∧ v.ownBlock = v0.ownBlock ∧ QS zeroExt less l T ∧ S0 = P0 ++ T ∧ pre = P0.map (·.1)
def DBlk (q Bx : Nat) (v : Value) (k : Nat) : Prop := QBlk q v k ∨ k = Bx
theorem drnExt_kept {base : Nat} {less : Ext → Ext → Bool} {fn q Bx : Nat} {v0 : Value} {tn : Nat} {S0 : List (Ext × Nat)} (pre : List Ext) (A C : World) (h : DrnExt base less fn q Bx v0 tn S0 pre A) (hk : ∀ k, DBlk q Bx v0 k → C.heap[k]? = A.heap[k]?) (hs : A.heap.size ≤ C.heap.size) : DrnExt base less fn q Bx v0 tn S0 pre C := by
  obtain ⟨hb, v, l, T, P0, hq, hv, hQ, h1, h2⟩ := h
  refine ⟨(hk Bx (.inr rfl)).trans hb, v, l, T, P0, ⟨(hk q (.inl (.inl rfl))).trans hq.blk, ?_, hq.ge, hq.ne⟩, hv, hQ, h1, h2⟩
  obtain ⟨h3, h4⟩ := hq.own
  refine ⟨h3, ?_⟩
  rcases h4 with h4 | ⟨g, cap, cur, rfl, h5, h6, h7⟩
  · exact .inl h4
  · exact .inr ⟨g, cap, cur, rfl, h5, (hk g (.inl (.inr (by rw [← hv]; simp [Value.ownBlock])))).trans h6, h7⟩
def qlenAt (q : Nat) (W : World) : Nat := match W.cell? ⟨q, 0, none⟩ with
  | some (.slice _ n _) => n
  | _ => 0
theorem qlenAt_own {w : World} {base q : Nat} {e size n t : Nat} {v lf tn : Value} {xs : List Value} (hb : w.heap[q]? = some (.cells #[v, lf, tn] t (0, 0))) (h : w.ownsRow base e size v n xs) : qlenAt q w = n := by
  obtain ⟨A, c, rfl, _⟩ := own_sh h
  unfold qlenAt
  rw [cell_of_row w q 0 _ _ _ hb]
  rfl
set_option maxRecDepth 100000 in
set_option maxHeartbeats 4000000 in
theorem qExt_drain1 (n base : Nat) (less : Ext → Ext → Bool) (hsw : Swo less) (fn : Nat) (R : RanksExt less fn) (q Bx : Nat) (v0 : Value) (tn : Nat) (S0 : List (Ext × Nat)) (hcap : S0.length ≤ 4000000000) (hn : 1 ≤ n) (hBq : Bx ≠ q) (hBv : ∀ j, v0.ownBlock = some j → j ≠ Bx) :
    SeqW Fence.wide n Try.prog 45 #[.pointer (some ⟨Bx, 0, none⟩)] (fun x : Ext => #[.agg #[.int .u64 x.1, .int .i64 x.2.1, .int .i64 x.2.2]]) (DBlk q Bx v0) (DrnExt base less fn q Bx v0 tn S0) (fun xs => xs = S0.map (·.1)) := by
  intro l J Jx W hJ hJx hY h0 hR0
  refine callsIn_of_wp Try.func45 rfl trivial ?_ rfl
  simp only [Try.ntmps45, List.size_toArray, List.length_cons, List.length_nil, Nat.reduceAdd, Nat.reduceSub, Array.replicate_succ, Array.replicate_zero, List.push_toArray, List.append_toArray, List.nil_append, List.cons_append]
  gi_wp2
  gi_loopw [4] (fun s4 wr => ∃ pre, J pre wr ∧ DrnExt base less fn q Bx v0 tn S0 pre wr) (fun _ wr => qlenAt q wr)
  case atStart => exact ⟨[], h0, hR0⟩
  case round =>
    obtain ⟨pre, hj, hd⟩ := hrel
    obtain ⟨hb, v, m, T, P0, hq, hv, hQ, hS, hpre⟩ := hd
    have hcb : wr.cell? ⟨Bx, 0, none⟩ = some (.pointer (some ⟨q, 0, none⟩)) := by rw [cell_of_row wr Bx 0 _ _ _ hb]; rfl
    have C1 := Lib.hid (qExt_qlen base wr q v _ m tn hq)
    cases T with
    | nil =>
      have hm : m = [] := hQ.nil_iff
      subst hm
      have HD := Lib.hid (show DrnExt base less fn q Bx v0 tn S0 pre wr from ⟨hb, v, [], [], P0, hq, hv, hQ, hS, hpre⟩)
      have HF : Hid (pre = S0.map (·.1)) := Lib.hid (by rw [hS, hpre]; simp)
      have HJ := Lib.hid hj
      clear hb hq hv hQ hS hpre hj hJ hJx hY h0 hR0
      gi_wp2_with fail
      refine ⟨trivial, ?_⟩
      refine (callsIn_wide.2 C1.out).mono ?_
      rintro e w1 ⟨rfl, rfl⟩
      gi_wp2
      go_end0
      exact ⟨⟨_, rfl⟩, .inl ⟨_, HF.out, HJ.out, HD.out⟩⟩
    | cons s T =>
      have hml : m.length = T.length + 1 := hQ.len
      have hmne : m ≠ [] := by rintro rfl; simp at hml
      obtain ⟨g, c, cur, hveq, hg, _⟩ := ownExt_at hq.own hmne
      subst hveq
      rw [hml] at hq C1 hv
      obtain ⟨p1, p2, p3, p4⟩ := hQ.pop hsw
      rw [hml] at p3 p4
      simp only [Nat.add_sub_cancel] at p3 p4
      have hTcap : T.length + 1 ≤ 4000000000 := by
        have : S0.length = P0.length + (T.length + 1) := by rw [hS]; simp
        omega
      have C2 := Lib.hid (by have := qExt_pop base less fn R wr q g c T.length m tn hq hml (by omega); rw [p3] at this; exact this)
      have HQL : Hid (qlenAt q wr = T.length + 1) := Lib.hid (qlenAt_own hq.blk (by have := hq.own; rw [hml] at this; exact this))
      have b1 : 0 < (T.length : Int) + 1 := by omega
      have HB := Lib.hid hb
      have HV := Lib.hid hv
      have HQ4 := Lib.hid p4
      have HS := Lib.hid hS
      have HPRE := Lib.hid hpre
      have HJJ := Lib.hid hJ
      have HJX := Lib.hid hJx
      have HY := Lib.hid hY
      have HJ := Lib.hid hj
      have hltB := (Array.getElem?_eq_some_iff.1 hb).1
      clear hb hq hv hQ hS hpre hj hJ hJx hY h0 hR0 p1 p2 p3 p4 hml hmne
      gi_wp2_with fail
      refine ⟨trivial, ?_⟩
      refine (callsIn_wide.2 C1.out).mono ?_
      rintro e w1 ⟨rfl, rfl⟩
      gi_wp2_with fail
      refine ⟨trivial, ?_⟩
      refine (callsIn_wide.2 C2.out).mono ?_
      rintro e w2 ⟨rfl, hq2, hc2⟩
      have hBx2 : w2.heap[Bx]? = some (.cells #[.pointer (some ⟨q, 0, none⟩)] 52 (0, 0)) := (hc2.block Bx hltB (by
        intro hq'
        rcases hq' with e | e
        · exact hBq e
        · exact hBv Bx (by rw [← HV.out]; exact e) rfl)).trans HB.out
      have hch : Chg (DBlk q Bx v0) wr w2 := hc2.mono (fun i _ hq' => by
        rcases hq' with e | e
        · exact .inl (.inl e)
        · exact .inl (.inr (by rw [← HV.out]; exact e)))
      have hJ1 := HJJ.out _ _ _ HJ.out (hch.alloc (.cells #[.int .u64 s.1.1, .int .i64 s.1.2.1, .int .i64 s.1.2.2] 26))
      have hR1 : DrnExt base less fn q Bx v0 tn S0 (pre ++ [s.1]) (w2.alloc (.cells #[.int .u64 s.1.1, .int .i64 s.1.2.1, .int .i64 s.1.2.2] 26)) :=
        ⟨(Below.heap_alloc w2 _ Bx (Array.getElem?_eq_some_iff.1 hBx2).1).trans hBx2, _, _, T, P0 ++ [s], hq2.alloc _, by rw [← HV.out]; simp [Value.ownBlock], HQ4.out, by rw [HS.out]; simp, by rw [HPRE.out]; simp⟩
      have hcb2 : w2.cell? ⟨Bx, 0, none⟩ = some (.pointer (some ⟨q, 0, none⟩)) := by rw [cell_of_row w2 Bx 0 _ _ _ hBx2]; rfl
      obtain ⟨fy, tmps, assign, body, hy, hRd⟩ := HY.out pre s.1 _ hJ1 hR1
      have HRd := Lib.hid hRd
      clear hq2 hc2 hBx2 hch hJ1 hR1 hRd
      gi_wp2
      refine HRd.out.mono ?_
      rintro e W3 (⟨rfl, hJ3, hR3⟩ | ⟨rfl, hJx3, hR3⟩)
      · have HJ3 := Lib.hid hJ3
        have HR3 := Lib.hid hR3
        clear hJ3 hR3
        gi_wp2
        go_roundw
        case rel => exact ⟨_, HJ3.out, HR3.out⟩
        case measure =>
          obtain ⟨_, v3, l3, T3, P3, hq3, _, hQ3, hS3, hp3⟩ := HR3.out
          rw [HQL.out, qlenAt_own hq3.blk hq3.own, hQ3.len]
          have e1 := congrArg List.length hS3
          have e2 := congrArg List.length hp3
          have e3 := congrArg List.length HS.out
          have e4 := congrArg List.length HPRE.out
          simp at e1 e2 e3 e4
          omega
      · have HJ3 := Lib.hid hJx3
        have HR3 := Lib.hid hR3
        clear hJx3 hR3
        gi_wp2
        refine bodyPost_ret (results_none rfl _ _ _) rfl ?_
        exact ⟨⟨_, rfl⟩, .inr ⟨_, HJ3.out, HR3.out⟩⟩
end Go.Proofs.Ytmipfmeafbeegaa
