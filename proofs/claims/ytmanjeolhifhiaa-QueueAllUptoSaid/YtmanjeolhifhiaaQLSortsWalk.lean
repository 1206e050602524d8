/- The walk of QueueSorts. -/
import Derived.Test.YtmanjeolhifhiaaQLRefSorted
import Derived.Test.YtmanjeolhifhiaaTypes02
namespace Go.Proofs.Ytmanjeolhifhiaa
open Go.RowKit
set_option linter.unusedVariables false

theorem ownRd {g : Nat} {w : World} {xs : List Itm} {x : Itm} (hg : w.heap[g]? = some (.cells (ownItm xs x).toArray 33 (0, 0))) : Rd w (some ⟨g, 0, none⟩) ((xs.map rowItm).flatten) := by
  have := (rd_block hg).take (xs.length * 2)
  rwa [ownItm_take] at this
def fillI : Itm := (71, ⟨#[120]⟩)
set_option maxRecDepth 100000 in
set_option maxHeartbeats 4000000 in
theorem sorts_all (A : Option Addr) (n c : Nat) (xs : List Itm) (w : World) (hn : xs.length = n) (hA : A = none → n = 0 ∧ c = 0) (h : Rd w A ((xs.map rowItm).flatten)) (hcap : n ≤ 100000000) :
    Calls Try.prog 6 #[.slice A n c] w fun e w' => e = .returned (.bool true) ∧ Below w.heap.size w w' := by
  have C1 : Hid (Calls Try.prog 27 #[.slice A n c, .agg #[.int .i64 71, .string ⟨#[120]⟩]] w fun e w' => ∃ g, e = .returned (.slice (some ⟨g, 0, none⟩) n (n + 3)) ∧ w.heap.size ≤ g ∧ w'.heap[g]? = some (.cells (ownItm xs fillI).toArray 33 (0, 0)) ∧ Below w.heap.size w w') := Lib.hid (ownItm_any A n c xs fillI w hn hA h hcap)
  have C2 := Lib.hid (fun (g : Nat) (w1 : World) (hg : w1.heap[g]? = some (.cells (ownItm xs fillI).toArray 33 (0, 0))) => qItm_sorted lessI swoI _ ranksI (some ⟨g, 0, none⟩) n (n + 3) xs w1 hn (ownRd hg) (by omega))
  have C3 := Lib.hid (fun w1 => awake08 w1)
  have C4 := Lib.hid (fun (w1 : World) (hb : Below w.heap.size w w1) => refsorted_any A n c xs w1 hn (h.kept hb) hcap)
  have C5 := Lib.hid (fun (A2 B2 : Option Addr) (c2 d2 : Nat) (w1 : World) (h2 : Rd w1 A2 (((sortV lessI xs).map rowItm).flatten)) (h3 : Rd w1 B2 (((sortV lessI xs).map rowItm).flatten)) => Itm_plainL A2 n c2 (sortV lessI xs) B2 d2 w1 (by rw [sortV_len]; exact hn) h2 h3 (by omega))
  have C6 : Hid (∀ (g : Nat) (w1 : World), w1.heap[g]? = some (.cells (ownItm xs fillI).toArray 33 (0, 0)) → Below w.heap.size w w1 → Calls Try.prog 29 #[.slice (some ⟨g, 0, none⟩) n (n + 3), .slice A n c, .agg #[.int .i64 71, .string ⟨#[120]⟩]] w1 fun e w' => e = .returned (.bool true) ∧ Below w1.heap.size w1 w') := Lib.hid (fun g w1 h1 h2 => keptItm_any g n xs fillI A c w1 hn h1 (h.kept h2) hcap)
  clear h hn hA
  go_enter Try.func6, Try.ntmps6
  go_wp2_with fail
  refine C1.out.mono ?_
  rintro e w1 ⟨g, rfl, hg, hgb, hb1⟩
  have hgl := (Array.getElem?_eq_some_iff.1 hgb).1
  have HG1 := Lib.hid hgb
  have HB1 := Lib.hid hb1
  have hz1 := hb1.size
  clear hgb hb1
  go_wp2_with fail
  refine (C2.out _ _ HG1.out).mono ?_
  rintro e w2 ⟨v2, rfl, hown2, hb2⟩
  have hz2 := hb2.size
  have HO2 := Lib.hid hown2
  have HB2 := Lib.hid hb2
  clear hown2 hb2
  go_wp2_with fail
  refine (C3.out _).mono ?_
  rintro e w3 ⟨rfl, hb3⟩
  have hz3 := hb3.size
  have HO3 := Lib.hid (own_kept HO2.out hb3)
  have HB3 := Lib.hid (HB2.out.trans (hb3.mono hz2))
  clear hb3
  go_wp2_with fail
  refine (C4.out _ (HB1.out.trans (HB3.out.mono hz1))).mono ?_
  rintro e w4 ⟨v4, rfl, hown4, hb4⟩
  have hz4 := hb4.size
  have HO4 := Lib.hid (own_kept HO3.out hb4)
  have HB4 := Lib.hid (HB3.out.trans (hb4.mono (by omega)))
  obtain ⟨A2, c2, rfl, hc2, hcm2, hrd2, _⟩ := own_rd HO4.out
  obtain ⟨A4, c4, rfl, _, _, hrd4, _⟩ := own_rd hown4
  have HR2 := Lib.hid hrd2
  have HR4 := Lib.hid hrd4
  clear hown4 hb4 hrd2 hrd4
  go_wp2_with fail
  refine (C5.out _ _ _ _ _ HR2.out HR4.out).mono ?_
  rintro e w5 ⟨rfl, hb5⟩
  have hz5 := hb5.size
  have HO5 := Lib.hid (own_kept HO4.out hb5)
  have HB5 := Lib.hid (HB4.out.trans (hb5.mono (by omega)))
  clear hb5
  go_wp2_with fail
  refine (C6.out _ _ ((HB5.out.block g hgl).trans HG1.out) (HB1.out.trans (HB5.out.mono hz1))).mono ?_
  rintro e w6 ⟨rfl, hb6⟩
  have hz6 := hb6.size
  have HO6 := Lib.hid (own_kept HO5.out hb6)
  have HB6 := Lib.hid (HB5.out.trans (hb6.mono (by omega)))
  clear hb6
  go_wp2_with fail
  go_loopw [5] (fun i wr => ∃ (j : Nat) (M : List Value), j ≤ n ∧ i = .int .i64 j ∧ Hid (M.length = n * 2) ∧ wr.ownsRow w1.heap.size 33 2 (.slice A2 n c2) n M ∧ Below w1.heap.size w1 wr) (fun i _ => n - (intOf i).toNat)
  case atStart => exact ⟨0, _, by omega, rfl, Lib.hid HO6.out.1, HO6.out, HB6.out⟩
  case round =>
    obtain ⟨j, M, hj, rfl, hM, hown, hb⟩ := hrel
    by_cases hlt : j < n
    · have hml := hM.out
      obtain ⟨g2, rfl, hg2⟩ : ∃ g2, A2 = some ⟨g2, 0, none⟩ ∧ w1.heap.size ≤ g2 := by
        rcases hown.2 with ⟨h1, _⟩ | ⟨g2, cap, cur, h1, h2, _⟩
        · simp at h1; omega
        · simp at h1; exact ⟨g2, h1.1, h2⟩
      obtain ⟨u0, hu0⟩ : ∃ u, wr.cell? ⟨g2, j * 2, none⟩ = some u := ⟨_, (hown.cellAt (j * 2) (by omega)).trans (List.getElem?_eq_getElem (by omega))⟩
      obtain ⟨u1, hu1⟩ : ∃ u, wr.cell? ⟨g2, j * 2 + 1, none⟩ = some u := ⟨_, (hown.cellAt (j * 2 + 1) (by omega)).trans (List.getElem?_eq_getElem (by omega))⟩
      have hf0 := hown.frozenAt (j * 2)
      have hf1 := hown.frozenAt (j * 2 + 1)
      have HO := Lib.hid hown
      clear hown hml
      have b1 : (0 : Int) ≤ (j : Int) ∧ (j : Int) < (n : Int) := by omega
      go_wp2
      go_roundw
      case rel => exact ⟨j + 1, _, by omega, by go_num, Lib.hid (by simpa using hM.out), ((HO.out.stored (j * 2) (.int .i64 0)).1.stored (j * 2 + 1) (.string ⟨#[]⟩)).1, (hb.setCell (p := ⟨g2, j * 2, none⟩) hg2 _).setCell (p := ⟨g2, j * 2 + 1, none⟩) hg2 _⟩
      case measure => simp [intOf]; omega
    · obtain rfl : j = n := by omega
      have HB := Lib.hid hb
      clear hown hb
      go_wp2_with fail
      refine (C6.out _ _ ((HB.out.block g hgl).trans HG1.out) (HB1.out.trans (HB.out.mono hz1))).mono ?_
      rintro e w7 ⟨rfl, hb7⟩
      have HB7 := Lib.hid (HB1.out.trans ((HB.out.trans (hb7.mono HB.out.size)).mono hz1))
      clear hb7
      go_wp2
      go_ret
      exact ⟨rfl, HB7.out⟩
theorem items_of : ∀ z : List (List Value), (∀ r ∈ z, IsItemD r) → ∃ xs : List Itm, z = xs.map rowItm
  | [], _ => ⟨[], rfl⟩
  | r :: z, h => by
    obtain ⟨xs, hx⟩ := items_of z (fun r' h' => h r' (by simp [h']))
    obtain ⟨a, b, hr, _⟩ := h r (by simp)
    exact ⟨(a, b) :: xs, by rw [hx, hr]; rfl⟩
theorem sorts_row (A : Option Addr) (n c : Nat) (z : List (List Value)) (w : World) (hn : z.length = n) (hA : A = none → n = 0 ∧ c = 0) (hnc : n ≤ c) (h : Rd w A z.flatten) (hI : ∀ r ∈ z, IsItemD r) (hc : c ≤ 1048576) :
    Calls Try.prog 6 #[.slice A n c] w fun e w' => e = .returned (.bool true) ∧ Below w.heap.size w w' := by
  obtain ⟨xs, rfl⟩ := items_of z hI
  exact sorts_all A n c xs w (by simpa using hn) hA h (by omega)
end Go.Proofs.Ytmanjeolhifhiaa
