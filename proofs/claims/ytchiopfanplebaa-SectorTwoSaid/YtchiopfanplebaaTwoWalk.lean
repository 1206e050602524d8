/- The walk of SectorTwo: whatever two kinds, turns and payloads are handed in, it answers true and writes nothing that was there. -/
import Derived.Test.YtchiopfanplebaaLawCom
namespace Go.Proofs.Ytchiopfanplebaa
open Go.RowKit

set_option maxHeartbeats 2000000 in
theorem two_walk (k t : Int) (A : Option Addr) (n c : Nat) (z : List Int) (k' t' : Int) (B : Option Addr) (m d : Nat) (y : List Int) (w : World) (w0 : (Lit.int .u8 k).wf = true) (w1 : (Lit.int .u64 t).wf = true) (w2 : IsRow .u8 w A n c z) (w3 : (Lit.int .u8 k').wf = true) (w4 : (Lit.int .u64 t').wf = true) (w5 : IsRow .u8 w B m d y) :
    Calls Try.prog 4 #[.int .u8 k, .int .u64 t, .slice A n c, .int .u8 k', .int .u64 t', .slice B m d] w fun e w' => e = .returned (.bool true) ∧ Below w.heap.size w w' := by
  obtain ⟨l, hn, hl, bl, _, _, _⟩ := row_rd w2
  obtain ⟨l', hm, hl', bl', _, _, _⟩ := row_rd w5
  have hk := wf_u8b w0
  have ht := wf_u64b w1
  have hk' := wf_u8b w3
  have ht' := wf_u64b w4
  clear w0 w1 w2 w3 w4 w5
  have C3 := Lib.hid (fun w => awake_any w)
  by_cases h1 : knownB k = false ∨ 496 < n
  · have C1 := Lib.hid (seal_err k t A n c w h1)
    have C2 := Lib.hid (seal_tot k' t' B m d l' w hm hl' bl' hk' ht'.1 ht'.2)
    clear h1 hn hm
    go_enter Try.func4, Try.ntmps4
    go_wp2_with fail
    refine C1.out.mono ?_
    rintro e w1 ⟨er, rfl, her, rfl⟩
    go_wp2_with fail
    refine C2.out.mono ?_
    rintro e w1 ⟨v2, er2, rfl, hb⟩
    go_wp2_with fail
    refine (C3.out _).mono ?_
    rintro e w2 ⟨rfl, hb1⟩
    go_wp2_with fail
    refine (C3.out _).mono ?_
    rintro e w3 ⟨rfl, hb2⟩
    go_wp2
    go_ret
    exact ⟨rfl, hb.trans ((hb1.trans (hb2.mono hb1.size)).mono hb.size)⟩
  · have hkn : knownB k = true := by cases hk : knownB k with
      | true => rfl
      | false => exact absurd (.inl hk) h1
    have hle : n ≤ 496 := by omega
    clear h1
    have C1 := Lib.hid (seal_okn k t A c n l w hn hl hkn hle bl hk ht.1 ht.2)
    by_cases h2 : knownB k' = false ∨ 496 < m
    · have C2 := Lib.hid (fun w => seal_err k' t' B m d w h2)
      clear h2 hn hm
      go_enter Try.func4, Try.ntmps4
      go_wp2_with fail
      refine C1.out.mono ?_
      rintro e w1 ⟨g, rfl, hg, hh, hb⟩
      clear hh
      go_wp2_with fail
      refine (C2.out _).mono ?_
      rintro e w2 ⟨er2, rfl, her2, rfl⟩
      go_wp2_with fail
      refine (C3.out _).mono ?_
      rintro e w2 ⟨rfl, hb1⟩
      go_wp2_with fail
      refine (C3.out _).mono ?_
      rintro e w3 ⟨rfl, hb2⟩
      go_wp2
      go_ret
      exact ⟨rfl, hb.trans ((hb1.trans (hb2.mono hb1.size)).mono hb.size)⟩
    · have hkn' : knownB k' = true := by cases hk : knownB k' with
        | true => rfl
        | false => exact absurd (.inl hk) h2
      have hle' : m ≤ 496 := by omega
      clear h2
      have C2 := Lib.hid (fun (w1 : World) (hb : Below w.heap.size w w1) => seal_okn k' t' B d m l' w1 hm (hl'.kept hb) hkn' hle' bl' hk' ht'.1 ht'.2)
      have hinj := Lib.hid (sealed_inj (k := k) (k' := k') (by omega) (by omega) ht.1 ht.2 ht'.1 ht'.2 : sealed k t l = sealed k' t' l' → _)
      have C4 := Lib.hid (fun (w4 : World) (hb : Below w.heap.size w w4) => bytes_any A n c l B m d l' w4 hn hm (hl.kept hb) (hl'.kept hb) bl bl')
      have C5 := Lib.hid (fun (w4 : World) (g g' : Nat) (hg : w4.heap[g]? = some (.cells (bys (sealed k t l)).toArray 46 (0, 0))) (hg' : w4.heap[g']? = some (.cells (bys (sealed k' t' l')).toArray 46 (0, 0))) =>
        bytes_any (some ⟨g, 0, none⟩) 512 512 _ (some ⟨g', 0, none⟩) 512 512 _ w4 (sealed_length k t (by omega)) (sealed_length k' t' (by omega)) (rd_block hg) (rd_block hg') (sealed_isB hk bl) (sealed_isB hk' bl'))
      have go : ∀ (q1 q2 : Bool), (k == k') = q1 → (t == t') = q2 → Calls Try.prog 4 #[.int .u8 k, .int .u64 t, .slice A n c, .int .u8 k', .int .u64 t', .slice B m d] w fun e w' => e = .returned (.bool (decide (sealed k t l = sealed k' t' l') == (q1 && q2 && decide (l = l')))) ∧ Below w.heap.size w w' := by
        clear hn hm hinj
        intro q1 q2 e1 e2
        cases q1 <;> cases q2
        all_goals
          go_enter Try.func4, Try.ntmps4
          go_wp2_with fail
          refine C1.out.mono ?_
          rintro e w1 ⟨g, rfl, hg, hh, hb⟩
          have HH := Lib.hid hh
          clear hh
          go_wp2_with fail
          refine (C2.out _ hb).mono ?_
          rintro e w2 ⟨g', rfl, hg', hh', hb'⟩
          have HH' := Lib.hid hh'
          clear hh'
          go_wp2_with fail
          refine (C3.out _).mono ?_
          rintro e w3 ⟨rfl, hb1⟩
          have B3 := (hb.trans (hb'.mono hb.size)).trans (hb1.mono (Nat.le_trans hb.size hb'.size))
          go_wp2_with fail
          try (refine (C4.out _ B3).mono ?_; rintro e w4 ⟨rfl, rfl⟩; go_wp2_with fail)
          refine (C5.out _ g g' (((hb'.trans (hb1.mono hb'.size)).block g (Array.getElem?_eq_some_iff.1 HH.out).1).trans HH.out) ((hb1.block g' (Array.getElem?_eq_some_iff.1 HH'.out).1).trans HH'.out)).mono ?_
          rintro e w4 ⟨rfl, rfl⟩
          go_wp2
          go_ret
          exact ⟨by first | rfl | simp, B3⟩
      refine (go _ _ rfl rfl).mono ?_
      rintro e w' ⟨rfl, hb⟩
      refine ⟨?_, hb⟩
      congr 2
      by_cases e : k = k' ∧ t = t' ∧ l = l'
      · obtain ⟨rfl, rfl, rfl⟩ := e; simp
      · have h1 : ¬ sealed k t l = sealed k' t' l' := fun h => e (hinj.out h)
        rw [decide_eq_false h1]
        by_cases e1 : k = k' <;> by_cases e2 : t = t' <;> by_cases e3 : l = l' <;> simp [e1, e2, e3]
        exact e ⟨e1, e2, e3⟩
end Go.Proofs.Ytchiopfanplebaa
