/- What all laws over records use: law.awake answers true; a slice of integers that came in, as a slice that is read. -/
import Derived.Test.YtdgciajdnmgcnaaRecLists
import Derived.Carry
import Derived.Lib.SlBytesConst
namespace Go.Proofs.Ytdgciajdnmgcnaa
open Go.RowKit
set_option linter.unusedVariables false

theorem cells1 {base : Nat} {w : World} {gs : List Nat} {L : List Int} (h : Secs base w gs [L]) : ∃ g, gs = [g] ∧ w.heap[g]? = some (.cells (bys L).toArray 63 (0, 0)) ∧ base ≤ g := by
  have hl := h.len
  match gs, hl with
  | [g], _ => obtain ⟨h1, h2⟩ := h.at_ 0 g L rfl rfl; exact ⟨g, rfl, h2, h1⟩
set_option maxHeartbeats 1000000 in
theorem awake_any (w : World) : Calls Try.prog 12 #[] w fun e w' => e = .returned (.bool true) ∧ Below w.heap.size w w' := by
  have hr : Rd (w.alloc (.cells #[.int .u8 97, .int .u8 98] 5 (2, 3))) (some ⟨w.heap.size, 0, none⟩) (bys [97, 98]) := rd_block (L := bys [97, 98]) (heap_alloc_new w _)
  have hB : IsB [97, 98] := by intro x hx; simp at hx; omega
  have C1 := Lib.hid (fun c (hc : 2 ≤ c) => write_ok 9 (some ⟨w.heap.size, 0, none⟩) 2 c [97, 98] _ (by decide) rfl (by decide) hc (fun e => by cases e) hr hB)
  have C2 := Lib.hid (fun w2 => count_any 481 w2)
  have h481 : cntI 481 = 2 := by decide
  have hc2 : cnt 2 = 1 := by decide
  rw [h481] at C2
  rw [hc2] at C1
  have hb0 := Lib.hid ((Below.refl w.heap.size w).alloc (Nat.le_refl _) (.cells #[.int .u8 97, .int .u8 98] 5 (2, 3)))
  clear hr h481 hc2
  have kc := fun (w : World) (C : Array Value) (n c : Nat) => Lib.run_convert_bytes_const (P := Try.prog) w 23 5 C n c Try.underlying23 Try.underlying5
  go_enter Try.func12, Try.ntmps12
  go_wp2_with fail
  refine (C1.out _ (by decide)).mono ?_
  rintro e w1 ⟨v, gs, rfl, hown, hS, hb⟩
  obtain ⟨A, c, rfl, hc1, _, hrd, _⟩ := own_rd hown
  obtain ⟨g, rfl, hg, hbg⟩ := cells1 (L := sealed 113 9 (partL [97, 98] 1 0)) hS
  obtain ⟨b, o, hA, hcell⟩ := hrd.at_ (j := 0) (by simp)
  subst hA
  simp only [List.map_cons, List.map_nil, List.getElem_cons_zero, secV, Nat.add_zero] at hcell
  have HB := Lib.hid (hb0.out.trans (hb.mono (by simp)))
  clear hown hS hb hrd hg
  go_wp2_with fail
  refine (C2.out _).mono ?_
  rintro e w2 ⟨rfl, rfl⟩
  go_wp2
  go_ret
  exact ⟨rfl, HB.out⟩

theorem wf_u8b {k : Int} (h : (Lit.int .u8 k).wf = true) : 0 ≤ k ∧ k < 256 := by
  simp only [Lit.wf, Bool.and_eq_true, decide_eq_true_eq] at h
  have hmin : IntKind.u8.min = 0 := rfl
  have hmax : IntKind.u8.max = 255 := rfl
  omega
theorem wf_u64b {k : Int} (h : (Lit.int .u64 k).wf = true) : 0 ≤ k ∧ k < 18446744073709551616 := by
  simp only [Lit.wf, Bool.and_eq_true, decide_eq_true_eq] at h
  have hmin : IntKind.u64.min = 0 := rfl
  have hmax : IntKind.u64.max = 18446744073709551615 := rfl
  omega
theorem wf_i64b {k : Int} (h : (Lit.int .i64 k).wf = true) : -9223372036854775808 ≤ k ∧ k < 9223372036854775808 := by
  simp only [Lit.wf, Bool.and_eq_true, decide_eq_true_eq] at h
  have hmin : IntKind.i64.min = -9223372036854775808 := rfl
  have hmax : IntKind.i64.max = 9223372036854775807 := rfl
  omega
/-- A slice of integers that came in. -/
def IsRow (k : IntKind) (w : World) (a : Option Addr) (len cap : Nat) (zs : List Int) : Prop :=
  (a = none ∧ len = 0 ∧ cap = 0 ∧ zs = []) ∨
  ∃ x, a = some x ∧ len ≤ cap ∧ cap ≤ maxLen ∧ zs.length = cap ∧ (∀ i, i < zs.length → w.cell? (x.add i) = some (.int k (zs.getD i 0))) ∧ ∀ n ∈ zs, (Lit.int k n).wf = true
theorem row_rd {w : World} {a : Option Addr} {len cap : Nat} {zs : List Int} (h : IsRow .u8 w a len cap zs) :
    ∃ l, l.length = len ∧ Rd w a (bys l) ∧ IsB l ∧ len ≤ maxLen ∧ (a = none → len = 0 ∧ cap = 0) ∧ len ≤ cap := by
  rcases h with ⟨rfl, rfl, rfl, rfl⟩ | ⟨x, rfl, h1, h2, h3, h4, h5⟩
  · exact ⟨[], rfl, Rd.nil _ _, fun x hx => by simp at hx, by simp, fun _ => ⟨rfl, rfl⟩, Nat.le_refl _⟩
  · refine ⟨zs.take len, by simp; omega, ?_, ?_, Nat.le_trans h1 h2, (fun e => by cases e), h1⟩
    · intro j u hj
      have hjl : j < zs.length := by
        rw [bys_getElem?] at hj
        cases hz : (zs.take len)[j]? with
        | none => rw [hz] at hj; simp at hj
        | some y => have := (List.getElem?_eq_some_iff.1 hz).1; simp at this; omega
      have h0 := h4 0 (by omega)
      have hx0 : x.add 0 = x := by simp [Addr.add]
      rw [hx0] at h0
      have hs : x.spot = none := by
        cases hs : x.spot with
        | none => rfl
        | some s => simp [World.cell?, hs] at h0; split at h0 <;> simp at h0
      obtain ⟨b, o, s⟩ := x
      simp at hs
      subst hs
      refine ⟨b, o, rfl, ?_⟩
      have := h4 j hjl
      rw [add_at] at this
      rw [this, ← hj, bys_getElem?, List.getElem?_take]
      split
      · simp [List.getD_eq_getElem?_getD, List.getElem?_eq_getElem hjl]
      · rename_i hh; rw [bys_getElem?, List.getElem?_take, if_neg hh] at hj; cases hj
    · intro y hy
      have := h5 y (List.mem_of_mem_take hy)
      simp only [Lit.wf, Bool.and_eq_true, decide_eq_true_eq] at this
      have hmin : IntKind.u8.min = 0 := rfl
      have hmax : IntKind.u8.max = 255 := rfl
      omega
end Go.Proofs.Ytdgciajdnmgcnaa
