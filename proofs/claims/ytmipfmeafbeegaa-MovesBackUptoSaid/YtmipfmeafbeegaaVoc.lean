/- Words and small laws that all of this seat's contracts use: a slice that reads as a list, new memory, a row of the call's own. Plain lemmas over any program; no condition. -/
import Derived.Below
import Derived.OwnWalk
import Derived.WalkKit
import Derived.WalkSpells
import Derived.KernelRfl
import Derived.Lib.Hide
import Derived.Lib.SliceRun
import Derived.Maps.AppendAt
import Derived.Laws.AppendOwnNone
import Derived.Laws.CopyOwn
import Derived.Laws.IdiomCopy
import Derived.Deep.QuietTactic
import Derived.BigQuiet
import Derived.Deep.DeepFit
import Derived.Laws.BytesArg
import Derived.Laws.IdiomStrings
import Derived.Lib.ConvBytes
namespace Go.Proofs.Ytmipfmeafbeegaa
open Go.RowKit

/-- The cells from A on read xs. -/
def Rd (w : World) (A : Option Addr) (xs : List Value) : Prop :=
  ∀ j u, xs[j]? = some u → ∃ b o, A = some ⟨b, o, none⟩ ∧ w.cell? ⟨b, o + j, none⟩ = some u

theorem add_at (b o j : Nat) : (⟨b, o, none⟩ : Addr).add j = ⟨b, o + j, none⟩ := by
  unfold Addr.add; split <;> simp_all

theorem Rd.nil (w : World) (A : Option Addr) : Rd w A [] := fun j u h => by simp at h

theorem Rd.below {B : Nat} {w w' : World} {A : Option Addr} {xs : List Value} (h : Rd w A xs) (hb : Below B w w') (hB : ∀ a, A = some a → xs ≠ [] → a.block < B) : Rd w' A xs := by
  intro j u hj
  obtain ⟨b, o, rfl, hc⟩ := h j u hj
  exact ⟨b, o, rfl, (hb.cell (p := ⟨b, o + j, none⟩) (hB ⟨b, o, none⟩ rfl (by rintro rfl; simp at hj) : b < B)).trans hc⟩

theorem Rd.lt {w : World} {A : Option Addr} {xs : List Value} (h : Rd w A xs) : ∀ a, A = some a → xs ≠ [] → a.block < w.heap.size := by
  intro a ha hne
  cases xs with
  | nil => exact absurd rfl hne
  | cons x xs =>
    obtain ⟨b, o, h1, hc⟩ := h 0 x rfl
    obtain rfl : a = ⟨b, o, none⟩ := by rw [ha] at h1; exact Option.some.inj h1
    exact World.block_lt_of_cell? w ⟨b, o + 0, none⟩ hc

theorem Rd.kept {w w' : World} {A : Option Addr} {xs : List Value} (h : Rd w A xs) (hb : Below w.heap.size w w') : Rd w' A xs :=
  h.below hb h.lt

/-- Only block g has been written. -/
theorem Rd.grown {w w' : World} {A : Option Addr} {xs : List Value} {row : Option Nat} (h : Rd w A xs) (hg : w.grownBy w' row) (hB : ∀ a, A = some a → xs ≠ [] → some a.block ≠ row) : Rd w' A xs := by
  intro j u hj
  obtain ⟨b, o, rfl, hc⟩ := h j u hj
  exact ⟨b, o, rfl, hg.cell (a := ⟨b, o + j, none⟩) hc (hB ⟨b, o, none⟩ rfl (by rintro rfl; simp at hj) : some b ≠ row)⟩

theorem Rd.at_ {w : World} {A : Option Addr} {xs : List Value} (h : Rd w A xs) {j : Nat} (hj : j < xs.length) : ∃ b o, A = some ⟨b, o, none⟩ ∧ w.cell? ⟨b, o + j, none⟩ = some xs[j] :=
  h j _ (List.getElem?_eq_getElem hj)

theorem Rd.addr {w : World} {ad : Addr} {xs : List Value} (h : Rd w (some ad) xs) : ∀ j u, xs[j]? = some u → w.cell? (ad.add j) = some u := by
  intro j u hj
  obtain ⟨b, o, h1, hc⟩ := h j u hj
  obtain rfl := Option.some.inj h1
  rw [add_at]; exact hc

theorem Rd.of_addr {w : World} {b o : Nat} {xs : List Value} (h : ∀ j u, xs[j]? = some u → w.cell? ⟨b, o + j, none⟩ = some u) : Rd w (some ⟨b, o, none⟩) xs :=
  fun j u hj => ⟨b, o, rfl, h j u hj⟩

theorem Rd.some_of {w : World} {A : Option Addr} {xs : List Value} (h : Rd w A xs) (hne : xs ≠ []) : ∃ b o, A = some ⟨b, o, none⟩ := by
  cases xs with
  | nil => exact absurd rfl hne
  | cons x xs => obtain ⟨b, o, h1, _⟩ := h 0 x rfl; exact ⟨b, o, h1⟩

/-- A part of what is read. -/
theorem Rd.part {w : World} {b o : Nat} {xs : List Value} (h : Rd w (some ⟨b, o, none⟩) xs) (lo n : Nat) : Rd w (some ⟨b, o + lo, none⟩) ((xs.drop lo).take n) := by
  intro j u hj
  rw [List.getElem?_take] at hj
  split at hj
  · rw [List.getElem?_drop] at hj
    obtain ⟨b', o', h1, hc⟩ := h _ _ hj
    obtain ⟨rfl, rfl⟩ : b = b' ∧ o = o' := by simpa using h1
    exact ⟨b, o + lo, rfl, by rw [Nat.add_assoc]; exact hc⟩
  · cases hj

theorem Rd.take {w : World} {A : Option Addr} {xs : List Value} (h : Rd w A xs) (n : Nat) : Rd w A (xs.take n) := by
  intro j u hj
  rw [List.getElem?_take] at hj
  split at hj
  · exact h _ _ hj
  · cases hj

/-- What a row of the call's own is, as a slice that is read. -/
theorem own_rd {w : World} {base e size n : Nat} {v : Value} {xs : List Value} (h : w.ownsRow base e size v n xs) :
    ∃ A c, v = .slice A n c ∧ n ≤ c ∧ c ≤ maxLen ∧ Rd w A xs ∧ xs.length = n * size := by
  obtain ⟨hl, h⟩ := h
  rcases h with ⟨rfl, rfl⟩ | ⟨g, cap, cur, rfl, _, hh, hn, hm, hs, rfl⟩
  · refine ⟨none, 0, rfl, Nat.le_refl _, Nat.zero_le _, ?_, hl⟩
    have : xs = [] := by cases xs with
      | nil => rfl
      | cons => simp at hl
    subst this; exact Rd.nil _ _
  · refine ⟨_, cap, rfl, hn, hm, ?_, hl⟩
    intro j u hj
    refine ⟨g, 0, rfl, ?_⟩
    rw [List.getElem?_take] at hj
    split at hj
    · simp only [World.cell?, hh, Option.isSome_none, Bool.false_eq_true, if_false, Nat.zero_add]
      simpa using hj
    · cases hj

theorem own_sh {w : World} {base e size n : Nat} {v : Value} {xs : List Value} (h : w.ownsRow base e size v n xs) : ∃ A c, v = .slice A n c ∧ n ≤ c := by
  obtain ⟨A, c, h1, h2, _⟩ := own_rd h
  exact ⟨A, c, h1, h2⟩
theorem own_base' {w : World} {base e size n : Nat} {A : Option Addr} {c : Nat} {xs : List Value} (h : w.ownsRow base e size (.slice A n c) n xs) : ∀ a, A = some a → base ≤ a.block ∧ a.block < w.heap.size := by
  intro a ha
  exact h.lt a.block (by simp [Value.ownBlock, ha])

/-- More of the world: what is owned stays so where nothing below the heap's size has turned. -/
theorem own_kept {w w' : World} {base e size n : Nat} {v : Value} {xs : List Value} (h : w.ownsRow base e size v n xs) (hb : Below w.heap.size w w') : w'.ownsRow base e size v n xs :=
  h.kept (row := none) ⟨hb.os, hb.tape, hb.output, hb.size, fun k hk _ => hb.block k hk⟩ (by
    cases hv : v.ownBlock with
    | none => exact .inl rfl
    | some k => exact .inr (by simp))

theorem own_mono {w : World} {base base' e size n : Nat} {v : Value} {xs : List Value} (h : w.ownsRow base e size v n xs) (hb : base' ≤ base) : w.ownsRow base' e size v n xs := by
  refine ⟨h.1, ?_⟩
  rcases h.2 with h | ⟨g, cap, cur, h1, h2, r⟩
  · exact .inl h
  · exact .inr ⟨g, cap, cur, h1, Nat.le_trans hb h2, r⟩

/-- 'append(buf, xs...)', xs whatever is read: nil, empty or not. -/
theorem wpList_append_rd {P : Program} {w : World} {ops : Array Oper} {rest : List Oper} {o : Oper} {a : Act} {Q : Exit → Act → World → Prop} (hgd : o.guard = none) (s x : Operand) (t : TypeId)
    (ho : o.op = .call { callee := .builtin .append, args := #[s, x], argTypes := #[t, t] })
    (base : Nat) (e : TypeId) (z : Value) (size bytes : Nat) (ht : P.underlying t = some (.slice e)) (hinfo : (P.info? e).map (fun i => (i.zero, i.size, i.bytes)) = some (some z, size, bytes))
    (hzs : z.cells.size = size) (hsz : 0 < size)
    (v : Value) (n : Nat) (xs : List Value) (hs : a.eval s = v) (hown : w.ownsRow base e size v n xs)
    (A : Option Addr) (m c : Nat) (news : List Value) (hx : a.eval x = .slice A m c) (hc0 : A = none → m = 0 ∧ c = 0) (hl : news.length = m * size) (hnews : Rd w A news) (h1 : ∀ u ∈ news, u.oneCell' = true)
    (h63 : n + m ≤ maxLen) (hbytes : (n + m) * bytes ≤ 140737488355328) (hbase : base ≤ w.heap.size)
    (h : ∀ v' w', w'.ownsRow base e size v' (n + m) (xs ++ news) → w.grownBy w' v.ownBlock → wpList P ops Q rest (a.put o.dst v') w') : wpList P ops Q (o :: rest) a w := by
  obtain ⟨i0, hi, hz0, hz1, hz2⟩ := info_parts hinfo
  cases A with
  | none =>
    obtain ⟨rfl, rfl⟩ := hc0 rfl
    obtain rfl : news = [] := List.eq_nil_of_length_eq_zero (by omega)
    refine wpList_append_own_none hgd s x t ho base e i0 size ht hi v n xs hs hown hx ?_
    have := h v w (by simpa using hown) ⟨rfl, rfl, rfl, Nat.le_refl _, fun _ _ _ => rfl⟩
    exact this
  | some ad =>
    exact wpList_append_own w hgd s x t ho base e i0 z size bytes ht hi hz0 hz1 hz2 hzs hsz v n xs hs hown ad m c news hx hl hnews.addr h1 h63 hbytes hbase fun v' w' h2 h3 _ => h v' w' h2 h3

/-- The same inside a region that draws its order. -/
theorem step_append_sh {P : Program} {w : World} {ops : Array Oper} {o : Oper} {a : Act} {K : Act → World → Prop} {Q : Exit → Act → World → Prop} {E : Prop} (hgd : o.guard = none) (s x : Operand) (t : TypeId)
    (ho : o.op = .call { callee := .builtin .append, args := #[s, x], argTypes := #[t, t] })
    (base : Nat) (e : TypeId) (z : Value) (size bytes : Nat) (ht : P.underlying t = some (.slice e)) (hinfo : (P.info? e).map (fun i => (i.zero, i.size, i.bytes)) = some (some z, size, bytes))
    (hzs : z.cells.size = size) (hsz : 0 < size)
    (v : Value) (n : Nat) (xs : List Value) (hs : a.eval s = v) (hown : w.ownsRow base e size v n xs)
    (A : Option Addr) (m c : Nat) (news : List Value) (hx : a.eval x = .slice A m c) (hc0 : A = none → m = 0 ∧ c = 0) (hl : news.length = m * size) (hnews : Rd w A news) (h1 : ∀ u ∈ news, u.oneCell' = true)
    (h63 : n + m ≤ maxLen) (hbytes : (n + m) * bytes ≤ 140737488355328) (hbase : base ≤ w.heap.size)
    (h : ∀ A' c' w', w'.ownsRow base e size (.slice A' (n + m) c') (n + m) (xs ++ news) → w.grownBy w' v.ownBlock → K (a.put o.dst (.slice A' (n + m) c')) w') :
    if Region.wanted o (yielded ops a.tmps) = true then Oper.wp P o a w K Q else E := by
  have hw : Region.wanted o (yielded ops a.tmps) = true := by simp [Region.wanted, hgd]
  rw [if_pos hw]
  obtain ⟨i0, hi, hz0, hz1, hz2⟩ := info_parts hinfo
  cases A with
  | none =>
    obtain ⟨rfl, rfl⟩ := hc0 rfl
    obtain rfl : news = [] := List.eq_nil_of_length_eq_zero (by omega)
    obtain ⟨A', c', rfl, _⟩ := own_sh hown
    have hrun := run_append_owned_none (P := P) (w := w) base t o.type e i0 size ht hi _ n xs hown
    unfold Oper.wp
    simp [execOp, ho, resolve, invoke, builtin, hs, hx, hrun, Result.andThen]
    exact h A' c' w (by simpa using hown) ⟨rfl, rfl, rfl, Nat.le_refl _, fun _ _ _ => rfl⟩
  | some ad =>
    refine wp_append_own w s x t ho base e i0 z size bytes ht hi hz0 hz1 hz2 hzs hsz v n xs hs hown ad m c news hx hl hnews.addr h1 h63 hbytes hbase fun v' w' h2 h3 _ => ?_
    obtain ⟨A', c', rfl, _⟩ := own_sh h2
    exact h A' c' w' h2 h3
theorem rd_new1 (w : World) (x : Value) (e : Nat) : Rd (w.alloc (.cells #[x] e)) (some ⟨w.heap.size, 0, none⟩) [x] := by
  intro j u hj
  match j, hj with
  | 0, hj => simp at hj; subst hj; exact ⟨_, _, rfl, cell_one_new _ _ _ 0 x rfl⟩

theorem below_push {B : Nat} {w wr w' : World} {o : Obj} {e size n : Nat} {v : Value} {xs : List Value} (hb : Below B w wr) (hB : B ≤ wr.heap.size) (hown : wr.ownsRow B e size v n xs) (hg : (wr.alloc o).grownBy w' v.ownBlock) : Below B w w' :=
  (hb.alloc hB o).grown hg (by simp; omega) (fun j e => (hown.lt j e).1)
theorem below_app {B : Nat} {w wr w' : World} {e size n : Nat} {v : Value} {xs : List Value} (hb : Below B w wr) (hB : B ≤ wr.heap.size) (hown : wr.ownsRow B e size v n xs) (hg : wr.grownBy w' v.ownBlock) : Below B w w' :=
  hb.grown hg hB (fun j e => (hown.lt j e).1)

theorem u64w {n : Nat} (h : n < 18446744073709551616) : IntKind.u64.wrap (n : Int) = (n : Int) := by
  simp only [IntKind.wrap, IntKind.bits, IntKind.signed]; simp; omega
/-- A callee that leaves the world alone, inside a region that only reads. -/
theorem qsame {P : Program} {f : FuncId} {args : Array Value} {w : World} {n : Nat} {v : Value}
    (h : Calls P f args (w.drewN n) fun e w' => e = .returned v ∧ w.drewN n = w') : Calls P f args (w.drewN n) fun e w'' => e = .returned v ∧ ∃ m, w'' = w.drewN m :=
  h.mono fun _ _ ⟨he, hm⟩ => ⟨he, n, hm.symm⟩
theorem below_drewN (B : Nat) {w : World} (n : Nat) : Below B w (w.drewN n) := ⟨rfl, rfl, rfl, Nat.le_refl _, fun _ _ => rfl⟩
/-- The world is as it was, but for the blocks of S, new blocks and what has been drawn. -/
structure Chg (S : Nat → Prop) (w w' : World) : Prop where
  os : w'.os = w.os
  tape : w'.tape = w.tape
  output : w'.output = w.output
  size : w.heap.size ≤ w'.heap.size
  block : ∀ k, k < w.heap.size → ¬ S k → w'.heap[k]? = w.heap[k]?
theorem Chg.refl (S : Nat → Prop) (w : World) : Chg S w w := ⟨rfl, rfl, rfl, Nat.le_refl _, fun _ _ _ => rfl⟩
theorem Chg.trans {S : Nat → Prop} {a b c : World} (h : Chg S a b) (k : Chg S b c) : Chg S a c :=
  ⟨k.os.trans h.os, k.tape.trans h.tape, k.output.trans h.output, Nat.le_trans h.size k.size, fun i hi hn => (k.block i (Nat.lt_of_lt_of_le hi h.size) hn).trans (h.block i hi hn)⟩
/-- What is written in blocks that were not there at first counts for nothing. -/
theorem Chg.trans' {S T : Nat → Prop} {a b c : World} (h : Chg S a b) (k : Chg T b c) (hT : ∀ i, i < a.heap.size → T i → S i) : Chg S a c :=
  ⟨k.os.trans h.os, k.tape.trans h.tape, k.output.trans h.output, Nat.le_trans h.size k.size, fun i hi hn => (k.block i (Nat.lt_of_lt_of_le hi h.size) (fun t => hn (hT i hi t))).trans (h.block i hi hn)⟩
theorem Chg.mono {S T : Nat → Prop} {w w' : World} (h : Chg S w w') (hT : ∀ i, i < w.heap.size → S i → T i) : Chg T w w' :=
  ⟨h.os, h.tape, h.output, h.size, fun i hi hn => h.block i hi (fun s => hn (hT i hi s))⟩
theorem Chg.drew {S : Nat → Prop} {a w : World} (h : Chg S a w) : Chg S a w.drew := ⟨h.os, h.tape, h.output, h.size, h.block⟩
theorem Chg.drewN {S : Nat → Prop} {a w : World} (h : Chg S a w) (n : Nat) : Chg S a (w.drewN n) := ⟨h.os, h.tape, h.output, h.size, h.block⟩
theorem Chg.alloc {S : Nat → Prop} {a w : World} (h : Chg S a w) (o : Obj) : Chg S a (w.alloc o) :=
  ⟨h.os, h.tape, h.output, by simp; have := h.size; omega, fun k hk hn => (Below.heap_alloc _ _ _ (Nat.lt_of_lt_of_le hk h.size)).trans (h.block k hk hn)⟩
theorem Chg.setCell {S : Nat → Prop} {a w : World} (h : Chg S a w) {p : Addr} (hp : p.block < a.heap.size → S p.block) (u : Value) : Chg S a (w.setCell p u) :=
  ⟨h.os, h.tape, h.output, by simp [World.setCell]; exact h.size, fun k hk hn => (Below.heap_setCell _ _ _ _ (fun e => hn (by subst e; exact hp hk))).trans (h.block k hk hn)⟩
theorem Chg.of_below {B : Nat} {w w' : World} (h : Below B w w') : Chg (fun k => B ≤ k) w w' := ⟨h.os, h.tape, h.output, h.size, fun k _ hn => h.block k (by omega)⟩
theorem Chg.below {S : Nat → Prop} {B : Nat} {w w' : World} (h : Chg S w w') (hS : ∀ k, k < B → ¬ S k) (hB : B ≤ w.heap.size) : Below B w w' := ⟨h.os, h.tape, h.output, h.size, fun k hk => h.block k (by omega) (hS k hk)⟩
theorem Chg.cell {S : Nat → Prop} {w w' : World} (h : Chg S w w') {p : Addr} {v : Value} (hc : w.cell? p = some v) (hn : ¬ S p.block) : w'.cell? p = some v :=
  (World.cell?_of_block (w := w) (h.block p.block (World.block_lt_of_cell? w p hc) hn)).trans hc
theorem Rd.chg {S : Nat → Prop} {w w' : World} {A : Option Addr} {xs : List Value} (h : Rd w A xs) (hb : Chg S w w') (hS : ∀ a, A = some a → xs ≠ [] → ¬ S a.block) : Rd w' A xs := by
  intro j u hj
  obtain ⟨b, o, rfl, hc⟩ := h j u hj
  exact ⟨b, o, rfl, hb.cell hc (hS ⟨b, o, none⟩ rfl (by rintro rfl; simp at hj))⟩
/-- 'b[lo:hi]' of cells of one place each, lo below the capacity. -/
theorem run_cut {P : Program} {t e : TypeId} (kl kh : IntKind) (ht : P.underlying t = some (.slice e)) (hsz : (P.info? e).map (·.size) = some 1) (b o n c lo hi : Nat) (l h : Int) (hl : l = lo) (hh : h = hi) (h1 : lo ≤ hi) (h2 : hi ≤ c) (h3 : lo < c) :
    ∀ W : World, (Instr.slice t (.slice (some ⟨b, o, none⟩) n c) (some (.int kl l)) (some (.int kh h)) none).run P W = .ok (.slice (some ⟨b, o + lo, none⟩) (hi - lo) (c - lo)) W := by
  intro W
  subst hl; subst hh
  have hel : P.elem t = e := by simp [Program.elem, ht]
  have hu : P.underlying t = some (.slice (P.elem t)) := by rw [hel]; exact ht
  cases hi' : P.info? e with
  | none => rw [hi'] at hsz; simp at hsz
  | some i =>
    rw [hi'] at hsz
    simp at hsz
    rw [run_slice_lh W t (some ⟨b, o, none⟩) n c hu kl kh (lo : Int) (hi : Int) (by omega) (by omega) (by omega), hel]
    simp [sizeOf, typeInfo, hi', hsz, sliced, Result.andThen, add_at, show ¬ (c = lo) by omega]
/-- 'b[:hi]' of cells of one place each. -/
theorem run_cut_h {P : Program} {t e : TypeId} (kh : IntKind) (ht : P.underlying t = some (.slice e)) (hsz : (P.info? e).map (·.size) = some 1) (A : Option Addr) (n c hi : Nat) (h : Int) (hh : h = hi) (h2 : hi ≤ c) :
    ∀ W : World, (Instr.slice t (.slice A n c) none (some (.int kh h)) none).run P W = .ok (.slice A hi c) W := by
  intro W
  subst hh
  have hel : P.elem t = e := by simp [Program.elem, ht]
  have hu : P.underlying t = some (.slice (P.elem t)) := by rw [hel]; exact ht
  cases hi' : P.info? e with
  | none => rw [hi'] at hsz; simp at hsz
  | some i =>
    rw [hi'] at hsz
    simp at hsz
    rw [run_slice_h W t A n c hu kh (hi : Int) (by omega) (by omega), hel]
    cases A <;> simp [sizeOf, typeInfo, hi', hsz, sliced, Result.andThen, Addr.add]
theorem Rd.setCell {w : World} {b o : Nat} {xs : List Value} (h : Rd w (some ⟨b, o, none⟩) xs) (j : Nat) (v : Value) : Rd (w.setCell ⟨b, o + j, none⟩ v) (some ⟨b, o, none⟩) (xs.set j v) := by
  intro i u hi
  refine ⟨b, o, rfl, ?_⟩
  rw [List.getElem?_set] at hi
  by_cases e : j = i
  · subst e
    rw [if_pos rfl] at hi
    by_cases hl : j < xs.length
    · rw [if_pos hl] at hi
      obtain ⟨b', o', h1, hc⟩ := h j _ (List.getElem?_eq_getElem hl)
      obtain ⟨rfl, rfl⟩ : b = b' ∧ o = o' := by simpa using h1
      rw [← hi]
      exact World.cell?_setCell_same' _ _ _ (by rw [hc]; rfl)
    · rw [if_neg hl] at hi; cases hi
  · rw [if_neg e] at hi
    obtain ⟨b', o', h1, hc⟩ := h i u hi
    obtain ⟨rfl, rfl⟩ : b = b' ∧ o = o' := by simpa using h1
    rw [show (w.setCell ⟨b, o + j, none⟩ v).cell? ⟨b, o + i, none⟩ = w.cell? ⟨b, o + i, none⟩ from by apply World.cell?_setCell_other; intro e2; injection e2 with _ e3; exact e (Nat.add_left_cancel e3)]
    exact hc
/-- n zero bytes (behind a name: the walk would write them all out). -/
def zeros (n : Nat) : List Value := List.replicate n (.int .u8 0)
theorem zeros_length (n : Nat) : (zeros n).length = n := List.length_replicate
theorem zeros_add (a b : Nat) : zeros (a + b) = zeros a ++ zeros b := by unfold zeros; rw [List.replicate_append_replicate]
theorem splice_mid (X Y Z : List Value) (off : Nat) (cs : List Value) (hX : X.length = off) (hY : Y.length = cs.length) : splice (X ++ (Y ++ Z)) off cs = X ++ (cs ++ Z) := by
  unfold splice
  subst hX
  rw [List.take_left, ← hY, ← List.append_assoc X Y Z]
  congr 2
  rw [← List.length_append, List.drop_left]
theorem rd_block {w : World} {g t : Nat} {L : List Value} {fr : Nat × Nat} (h : w.heap[g]? = some (.cells L.toArray t fr)) : Rd w (some ⟨g, 0, none⟩) L := by
  intro j u hj
  exact ⟨g, 0, rfl, by simp [World.cell?, h, hj]⟩

/-- A variable in memory of whatever type: what its cells are is said apart. -/
theorem run_alloc_abs {P : Program} (w : World) (t : TypeId) (cs : Array Value) (hz : (P.info? t).map (fun i => i.zero.map Value.cells) = some (some cs)) :
    (Instr.alloc t true (.tuple #[])).run P w = .ok (.pointer (some ⟨w.heap.size, 0, none⟩)) (w.alloc (.cells cs t)) := by
  cases hi : P.info? t with
  | none => rw [hi] at hz; simp at hz
  | some i =>
    rw [hi] at hz
    cases hzz : i.zero with
    | none => simp [hzz] at hz
    | some z =>
      simp [hzz] at hz
      subst hz
      simp [Instr.alloc, zeroValue, typeInfo, newVar, newRow, hi, hzz]
theorem wpList_alloc_abs {P : Program} {w : World} {ops : Array Oper} {rest : List Oper} {o : Oper} {a : Act} {Q : Exit → Act → World → Prop} (hgd : o.guard = none) (t : TypeId) (ho : o.op = .alloc t)
    (cs : List Value) (hz : (P.info? t).map (fun i => i.zero.map Value.cells) = some (some cs.toArray))
    (h : ∀ w', Hid (w'.heap[w.heap.size]? = some (.cells cs.toArray t (0, 0))) → Below w.heap.size w w' → Hid (w'.heap.size = w.heap.size + 1) → wpList P ops Q rest (a.put o.dst (.pointer (some ⟨w.heap.size, 0, none⟩))) w') : wpList P ops Q (o :: rest) a w := by
  refine wpList_plain hgd fun K hK => ?_
  have hrun := run_alloc_abs w t cs.toArray hz
  have h2 := h (w.alloc (.cells cs.toArray t)) (heap_alloc_new _ _) ((Below.refl _ _).alloc (Nat.le_refl _) _) (World.size_alloc _ _)
  unfold Oper.wp
  simp [execOp, ho, hrun, Result.andThen]
  exact hK _ _ h2

def bys (l : List Int) : List Value := l.map (.int .u8)
theorem bys_length (l : List Int) : (bys l).length = l.length := by simp [bys]
theorem bys_append (l m : List Int) : bys (l ++ m) = bys l ++ bys m := by simp [bys]
theorem bys_one (l : List Int) : ∀ u ∈ bys l, u.oneCell' = true := by
  intro u hu
  simp only [bys, List.mem_map] at hu
  obtain ⟨x, _, rfl⟩ := hu
  rfl
theorem bys_take (l : List Int) (n : Nat) : bys (l.take n) = (bys l).take n := by simp [bys]
theorem bys_drop (l : List Int) (n : Nat) : bys (l.drop n) = (bys l).drop n := by simp [bys]
theorem bys_getElem? (l : List Int) (j : Nat) : (bys l)[j]? = (l[j]?).map (.int .u8) := by simp [bys]

theorem made_bytes (n : Nat) : (madeCells #[Value.int .u8 0] (n * 1)).toList = bys (List.replicate n 0) := by
  apply List.ext_getElem?
  intro i
  simp [madeCells, bys, List.getElem?_replicate]
  by_cases h : i < n
  · simp [h]; rw [Nat.mod_one]; rfl
  · simp [h]
/-- 'make([]byte, n)'. -/
theorem wpList_make_bytes {P : Program} (w : World) {ops : Array Oper} {rest : List Oper} {o : Oper} {a : Act} {Q : Exit → Act → World → Prop}
    (hg : o.guard = none) (l c : Operand) (t : TypeId) (hop : o.op = Op.makeSlice t l c)
    (base : Nat) (e : TypeId) (h1 : P.underlying t = some (.slice e)) (hinfo : (P.info? e).map (fun i => (i.zero, i.size, i.bytes)) = some (some (.int .u8 0), 1, 1))
    (kl kc : IntKind) (L C : Int) (n : Nat) (hl : a.eval l = .int kl L) (hc : a.eval c = .int kc C) (hL : L = (n : Int)) (hC : C = (n : Int)) (b2 : n ≤ 281474976710656) (b4 : base ≤ w.heap.size)
    (hK : ∀ w', Hid (w'.ownsRow base e 1 (.slice (some ⟨w.heap.size, 0, none⟩) n n) n (bys (List.replicate n 0))) → w.grownBy w' none → wpList P ops Q rest (a.put o.dst (.slice (some ⟨w.heap.size, 0, none⟩) n n)) w') :
    wpList P ops Q (o :: rest) a w := by
  obtain ⟨i0, hi, hz0, hz1, hz2⟩ := info_parts hinfo
  refine wpList_make_full w hg l c t hop base e i0 (.int .u8 0) 1 h1 hi hz0 hz1 kl kc L C n hl hc hL hC (by rw [hz2]; omega) (by unfold maxLen; omega) b4 ?_
  intro w' ho hgr
  exact hK w' (by have e : ((Value.int .u8 0).cells) = #[Value.int .u8 0] := rfl
                  rw [e, made_bytes] at ho; exact ho) hgr
/-- 'string(b)', b whatever is read. -/
theorem str_of_rd {P : Program} {w : World} {src dst e : TypeId} {A : Option Addr} {n c : Nat} {l : List Int} (hs : P.underlying src = some (.slice e)) (he : P.underlying e = some (.int .u8)) (hd : P.underlying dst = some .string)
    (h : Rd w A (bys l)) (hn : l.length = n) : (convert src dst (.slice A n c)).run P w = .ok (.string (strOfNums l)) w := by
  subst hn
  rcases A with _ | ad
  · obtain rfl : l = [] := by
      cases l with
      | nil => rfl
      | cons x l => obtain ⟨b, o, h1, _⟩ := h 0 _ rfl; cases h1
    exact run_convert_bytes_nil w src e hs he 0 c dst hd
  · have hl : (loadCells ad l.length).run P w = .ok (l.map (Value.int .u8)).toArray w := by
      have := run_loadCells_list (P := P) w ad (l.map (Value.int .u8)) h.addr
      simpa using this
    rw [run_convert_bytes_string w src dst e _ l.length c hs he hd, run_bytesToString w ad l.length c l hl, foldl_push_bytes]
    simp [strOfNums, ByteArray.empty, ByteArray.emptyWithCapacity]
    rfl
def IsB (l : List Int) : Prop := ∀ x ∈ l, 0 ≤ x ∧ x < 256
theorem strOfNums_inj {a b : List Int} (ha : IsB a) (hb : IsB b) (h : (strOfNums a).toList = (strOfNums b).toList) : a = b := by
  have e : ∀ l, (strOfNums l).toList = l.map fun n => UInt8.ofNat n.toNat := by
    intro l; rw [ByteArray.toList_eq]; simp [strOfNums]
  rw [e, e] at h
  apply List.ext_getElem
  · have := congrArg List.length h; simpa using this
  · intro i h1 h2
    have := congrArg (fun l => l[i]?) h
    simp [List.getElem?_eq_getElem h1, List.getElem?_eq_getElem h2] at this
    have x1 := ha a[i] (List.getElem_mem h1)
    have x2 := hb b[i] (List.getElem_mem h2)
    have := congrArg UInt8.toNat this
    simp at this
    omega
theorem strOfNums_beq {a b : List Int} (ha : IsB a) (hb : IsB b) : ((strOfNums a).toList == (strOfNums b).toList) = decide (a = b) := by
  by_cases h : a = b
  · subst h; simp
  · have : ¬ (strOfNums a).toList = (strOfNums b).toList := fun e => h (strOfNums_inj ha hb e)
    simp [h, this]
end Go.Proofs.Ytmipfmeafbeegaa
