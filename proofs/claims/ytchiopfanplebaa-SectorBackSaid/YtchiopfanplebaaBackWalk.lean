/- The walk of SectorBack: whatever is handed in, it answers true and writes nothing that was there. -/
import Derived.Test.YtchiopfanplebaaLawCom
import Derived.Test.YtchiopfanplebaaHelp2
import Derived.Test.YtchiopfanplebaaSecPure
namespace Go.Proofs.Ytchiopfanplebaa
open Go.RowKit
set_option linter.unusedVariables false

set_option maxHeartbeats 2000000 in
theorem back_11 (k t : Int) (A : Option Addr) (n c : Nat) (l : List Int) (B : Option Addr) (m d : Nat) (l' : List Int) (w : World) (hk : 0 ≤ k ∧ k < 256) (ht : 0 ≤ t ∧ t < 18446744073709551616)
    (hn : l.length = n) (hm : l'.length = m) (hmd : m ≤ d) (hl : Rd w A (bys l)) (hl' : Rd w B (bys l')) (bl : IsB l) (bl' : IsB l') (h1 : knownB k = false ∨ 496 < n) (h2 : (sec l').err ≠ 0) :
    Calls Try.prog 5 #[.int .u8 k, .int .u64 t, .slice A n c, .slice B m d] w fun e w' => e = .returned (.bool true) ∧ Below w.heap.size w w' := by
  have C3 := Lib.hid (fun w => awake_any w)
  have C1 := Lib.hid (seal_err k t A n c w h1)
  have C5 := Lib.hid (fun (w4 : World) (hb : Below w.heap.size w w4) => open_any B m d l' w4 hm (hl'.kept hb) bl' hmd)
  have h2b : ((sec l').err != 0) = true := bne_iff_ne.2 h2
  clear hl hl' hn hm h1  h2 
  go_enter Try.func5, Try.ntmps5
  go_wp2_with fail
  refine C1.out.mono ?_
  rintro e w1 ⟨er, rfl, her, rfl⟩
  have her2 : (er == 0) = false := by simpa using her
  go_wp2_with fail
  refine (C3.out _).mono ?_
  rintro e w2 ⟨rfl, hb2⟩
  have HB := Lib.hid hb2
  clear hb2
  go_wp2_with fail
  refine (C5.out _ HB.out).mono ?_
  rintro e w5 ⟨⟨v5, rfl, hown5⟩, hb5⟩
  obtain ⟨A5, c5, rfl, hnc5, hcm5, hrd5, hlen5⟩ := own_rd hown5
  have HB5 := Lib.hid (HB.out.trans (hb5.mono HB.out.size))
  have HB5a := Lib.hid (fun o => HB5.out.alloc HB5.out.size o)
  have HR5 := Lib.hid (fun o => hrd5.kept ((Below.refl _ w5).alloc (Nat.le_refl _) o))
  clear hb5 hown5 hrd5
  go_wp2
  go_ret
  exact ⟨rfl, HB5a.out _⟩

set_option maxHeartbeats 2000000 in
theorem back_12 (k t : Int) (A : Option Addr) (n c : Nat) (l : List Int) (B : Option Addr) (m d : Nat) (l' : List Int) (w : World) (hk : 0 ≤ k ∧ k < 256) (ht : 0 ≤ t ∧ t < 18446744073709551616)
    (hn : l.length = n) (hm : l'.length = m) (hmd : m ≤ d) (hl : Rd w A (bys l)) (hl' : Rd w B (bys l')) (bl : IsB l) (bl' : IsB l') (h1 : knownB k = false ∨ 496 < n) (h2 : (sec l').err = 0) (h3 : (sec l').kind = 0) :
    Calls Try.prog 5 #[.int .u8 k, .int .u64 t, .slice A n c, .slice B m d] w fun e w' => e = .returned (.bool true) ∧ Below w.heap.size w w' := by
  have C3 := Lib.hid (fun w => awake_any w)
  have C1 := Lib.hid (seal_err k t A n c w h1)
  have C5 := Lib.hid (fun (w4 : World) (hb : Below w.heap.size w w4) => open_any B m d l' w4 hm (hl'.kept hb) bl' hmd)
  have h2b : ((sec l').err != 0) = false := by rw [h2]; rfl
  have h3b : ((sec l').kind == 0) = true := by rw [h3]; rfl
  clear hl hl' hn hm h1  h2 h3
  go_enter Try.func5, Try.ntmps5
  go_wp2_with fail
  refine C1.out.mono ?_
  rintro e w1 ⟨er, rfl, her, rfl⟩
  have her2 : (er == 0) = false := by simpa using her
  go_wp2_with fail
  refine (C3.out _).mono ?_
  rintro e w2 ⟨rfl, hb2⟩
  have HB := Lib.hid hb2
  clear hb2
  go_wp2_with fail
  refine (C5.out _ HB.out).mono ?_
  rintro e w5 ⟨⟨v5, rfl, hown5⟩, hb5⟩
  obtain ⟨A5, c5, rfl, hnc5, hcm5, hrd5, hlen5⟩ := own_rd hown5
  have HB5 := Lib.hid (HB.out.trans (hb5.mono HB.out.size))
  have HB5a := Lib.hid (fun o => HB5.out.alloc HB5.out.size o)
  have HR5 := Lib.hid (fun o => hrd5.kept ((Below.refl _ w5).alloc (Nat.le_refl _) o))
  clear hb5 hown5 hrd5
  go_wp2
  go_ret
  exact ⟨rfl, HB5a.out _⟩

set_option maxHeartbeats 2000000 in
theorem back_13 (k t : Int) (A : Option Addr) (n c : Nat) (l : List Int) (B : Option Addr) (m d : Nat) (l' : List Int) (w : World) (hk : 0 ≤ k ∧ k < 256) (ht : 0 ≤ t ∧ t < 18446744073709551616)
    (hn : l.length = n) (hm : l'.length = m) (hmd : m ≤ d) (hl : Rd w A (bys l)) (hl' : Rd w B (bys l')) (bl : IsB l) (bl' : IsB l') (h1 : knownB k = false ∨ 496 < n) (h2 : (sec l').err = 0) (h3 : (sec l').kind ≠ 0) :
    Calls Try.prog 5 #[.int .u8 k, .int .u64 t, .slice A n c, .slice B m d] w fun e w' => e = .returned (.bool true) ∧ Below w.heap.size w w' := by
  have C3 := Lib.hid (fun w => awake_any w)
  have C1 := Lib.hid (seal_err k t A n c w h1)
  have C5 := Lib.hid (fun (w4 : World) (hb : Below w.heap.size w w4) => open_any B m d l' w4 hm (hl'.kept hb) bl' hmd)
  have h2b : ((sec l').err != 0) = false := by rw [h2]; rfl
  have h3b : ((sec l').kind == 0) = false := by simpa using h3
  obtain ⟨s1, s2, s3⟩ := sealed_of_sec bl' h2 h3
  obtain ⟨r1, r2, r3, _⟩ := sec_range bl'
  have C6 := Lib.hid (fun (w4 : World) (A' : Option Addr) (c' : Nat) (h' : Rd w4 A' (bys (sec l').pay)) => seal_okn (sec l').kind (sec l').turn A' c' (sec l').pay.length (sec l').pay w4 rfl h' s1 s2 r3 r1 r2.1 r2.2)
  have C7 := Lib.hid (fun (w4 : World) (g : Nat) (hg : w4.heap[g]? = some (.cells (bys (sealed (sec l').kind (sec l').turn (sec l').pay)).toArray 46 (0, 0))) (hb : Below w.heap.size w w4) => bytes_any (some ⟨g, 0, none⟩) 512 512 l' B m d l' w4 (by rw [← s3]; exact sealed_length _ _ s2) hm (by rw [s3] at hg; exact rd_block hg) (hl'.kept hb) bl' bl')
  clear s1 s2 s3 r1 r2 r3
  clear hl hl' hn hm h1  h2 h3
  go_enter Try.func5, Try.ntmps5
  go_wp2_with fail
  refine C1.out.mono ?_
  rintro e w1 ⟨er, rfl, her, rfl⟩
  have her2 : (er == 0) = false := by simpa using her
  go_wp2_with fail
  refine (C3.out _).mono ?_
  rintro e w2 ⟨rfl, hb2⟩
  have HB := Lib.hid hb2
  clear hb2
  go_wp2_with fail
  refine (C5.out _ HB.out).mono ?_
  rintro e w5 ⟨⟨v5, rfl, hown5⟩, hb5⟩
  obtain ⟨A5, c5, rfl, hnc5, hcm5, hrd5, hlen5⟩ := own_rd hown5
  have HB5 := Lib.hid (HB.out.trans (hb5.mono HB.out.size))
  have HB5a := Lib.hid (fun o => HB5.out.alloc HB5.out.size o)
  have HR5 := Lib.hid (fun o => hrd5.kept ((Below.refl _ w5).alloc (Nat.le_refl _) o))
  clear hb5 hown5 hrd5
  go_wp2_with fail
  refine (C6.out _ A5 c5 (HR5.out _)).mono ?_
  rintro e w6 ⟨g6, rfl, hg6, hh6, hb6⟩
  have HB6 := Lib.hid ((HB5a.out _).trans (hb6.mono (HB5a.out _).size))
  have HH6 := Lib.hid hh6
  clear hb6 hh6
  go_wp2_with fail
  refine (C7.out _ g6 HH6.out HB6.out).mono ?_
  rintro e w7 ⟨rfl, rfl⟩
  go_wp2
  go_ret
  exact ⟨by simp, HB6.out⟩

set_option maxHeartbeats 2000000 in
theorem back_21 (k t : Int) (A : Option Addr) (n c : Nat) (l : List Int) (B : Option Addr) (m d : Nat) (l' : List Int) (w : World) (hk : 0 ≤ k ∧ k < 256) (ht : 0 ≤ t ∧ t < 18446744073709551616)
    (hn : l.length = n) (hm : l'.length = m) (hmd : m ≤ d) (hl : Rd w A (bys l)) (hl' : Rd w B (bys l')) (bl : IsB l) (bl' : IsB l') (h1 : knownB k = true) (hle : n ≤ 496) (h2 : (sec l').err ≠ 0) :
    Calls Try.prog 5 #[.int .u8 k, .int .u64 t, .slice A n c, .slice B m d] w fun e w' => e = .returned (.bool true) ∧ Below w.heap.size w w' := by
  have C3 := Lib.hid (fun w => awake_any w)
  have C1 := Lib.hid (seal_okn k t A c n l w hn hl h1 hle bl hk ht.1 ht.2)
  have hsl := Lib.hid (sec_sealed (l := l) h1 ht.1 ht.2 (by omega) bl)
  have C2 := Lib.hid (fun (w4 : World) (g : Nat) (hg : w4.heap[g]? = some (.cells (bys (sealed k t l)).toArray 46 (0, 0))) => open_any (some ⟨g, 0, none⟩) 512 512 _ w4 (sealed_length k t (by omega)) (rd_block hg) (sealed_isB hk bl) (Nat.le_refl _))
  have C4 := Lib.hid (fun (w4 : World) (A' : Option Addr) (n' c' : Nat) (hn' : l.length = n') (h' : Rd w4 A' (bys l)) (hb : Below w.heap.size w w4) => sector_eq k t A' n' c' l k t A n c l w4 hn' hn h' (hl.kept hb) bl bl)
  have C5 := Lib.hid (fun (w4 : World) (hb : Below w.heap.size w w4) => open_any B m d l' w4 hm (hl'.kept hb) bl' hmd)
  have h2b : ((sec l').err != 0) = true := bne_iff_ne.2 h2
  clear hl hl' hn hm h1 hle h2 
  go_enter Try.func5, Try.ntmps5
  go_wp2_with fail
  refine C1.out.mono ?_
  rintro e w1 ⟨g, rfl, hg, hh, hb1⟩
  have HH := Lib.hid hh
  clear hh
  go_wp2_with fail
  refine (C3.out _).mono ?_
  rintro e w2 ⟨rfl, hb2⟩
  have HB2 := Lib.hid (hb1.trans (hb2.mono hb1.size))
  have HH2 := Lib.hid ((hb2.block g (Array.getElem?_eq_some_iff.1 HH.out).1).trans HH.out)
  clear hb1 hb2
  go_wp2_with fail
  refine (C2.out _ g HH2.out).mono ?_
  rintro e w3 ⟨⟨v, rfl, hown⟩, hb3⟩
  rw [hsl.out] at hown ⊢
  obtain ⟨A3, c3, rfl, hnc3, hcm3, hrd3, hlen3⟩ := own_rd hown
  have HB3 := Lib.hid (HB2.out.trans (hb3.mono HB2.out.size))
  have HB3a := Lib.hid (fun o => HB3.out.alloc HB3.out.size o)
  have HR3 := Lib.hid (fun o => hrd3.kept ((Below.refl _ w3).alloc (Nat.le_refl _) o))
  clear hb3 hown hrd3
  go_wp2_with fail
  refine (C4.out _ A3 _ c3 rfl (HR3.out _) (HB3a.out _)).mono ?_
  rintro e w4 ⟨rfl, hb4⟩
  have HB := Lib.hid ((HB3a.out _).trans (hb4.mono (HB3a.out _).size))
  clear hb4
  have hdt : decide (True ∧ True ∧ True) = true := by decide
  rw [hdt]
  go_wp2_with fail
  refine (C5.out _ HB.out).mono ?_
  rintro e w5 ⟨⟨v5, rfl, hown5⟩, hb5⟩
  obtain ⟨A5, c5, rfl, hnc5, hcm5, hrd5, hlen5⟩ := own_rd hown5
  have HB5 := Lib.hid (HB.out.trans (hb5.mono HB.out.size))
  have HB5a := Lib.hid (fun o => HB5.out.alloc HB5.out.size o)
  have HR5 := Lib.hid (fun o => hrd5.kept ((Below.refl _ w5).alloc (Nat.le_refl _) o))
  clear hb5 hown5 hrd5
  go_wp2
  go_ret
  exact ⟨rfl, HB5a.out _⟩

set_option maxHeartbeats 2000000 in
theorem back_22 (k t : Int) (A : Option Addr) (n c : Nat) (l : List Int) (B : Option Addr) (m d : Nat) (l' : List Int) (w : World) (hk : 0 ≤ k ∧ k < 256) (ht : 0 ≤ t ∧ t < 18446744073709551616)
    (hn : l.length = n) (hm : l'.length = m) (hmd : m ≤ d) (hl : Rd w A (bys l)) (hl' : Rd w B (bys l')) (bl : IsB l) (bl' : IsB l') (h1 : knownB k = true) (hle : n ≤ 496) (h2 : (sec l').err = 0) (h3 : (sec l').kind = 0) :
    Calls Try.prog 5 #[.int .u8 k, .int .u64 t, .slice A n c, .slice B m d] w fun e w' => e = .returned (.bool true) ∧ Below w.heap.size w w' := by
  have C3 := Lib.hid (fun w => awake_any w)
  have C1 := Lib.hid (seal_okn k t A c n l w hn hl h1 hle bl hk ht.1 ht.2)
  have hsl := Lib.hid (sec_sealed (l := l) h1 ht.1 ht.2 (by omega) bl)
  have C2 := Lib.hid (fun (w4 : World) (g : Nat) (hg : w4.heap[g]? = some (.cells (bys (sealed k t l)).toArray 46 (0, 0))) => open_any (some ⟨g, 0, none⟩) 512 512 _ w4 (sealed_length k t (by omega)) (rd_block hg) (sealed_isB hk bl) (Nat.le_refl _))
  have C4 := Lib.hid (fun (w4 : World) (A' : Option Addr) (n' c' : Nat) (hn' : l.length = n') (h' : Rd w4 A' (bys l)) (hb : Below w.heap.size w w4) => sector_eq k t A' n' c' l k t A n c l w4 hn' hn h' (hl.kept hb) bl bl)
  have C5 := Lib.hid (fun (w4 : World) (hb : Below w.heap.size w w4) => open_any B m d l' w4 hm (hl'.kept hb) bl' hmd)
  have h2b : ((sec l').err != 0) = false := by rw [h2]; rfl
  have h3b : ((sec l').kind == 0) = true := by rw [h3]; rfl
  clear hl hl' hn hm h1 hle h2 h3
  go_enter Try.func5, Try.ntmps5
  go_wp2_with fail
  refine C1.out.mono ?_
  rintro e w1 ⟨g, rfl, hg, hh, hb1⟩
  have HH := Lib.hid hh
  clear hh
  go_wp2_with fail
  refine (C3.out _).mono ?_
  rintro e w2 ⟨rfl, hb2⟩
  have HB2 := Lib.hid (hb1.trans (hb2.mono hb1.size))
  have HH2 := Lib.hid ((hb2.block g (Array.getElem?_eq_some_iff.1 HH.out).1).trans HH.out)
  clear hb1 hb2
  go_wp2_with fail
  refine (C2.out _ g HH2.out).mono ?_
  rintro e w3 ⟨⟨v, rfl, hown⟩, hb3⟩
  rw [hsl.out] at hown ⊢
  obtain ⟨A3, c3, rfl, hnc3, hcm3, hrd3, hlen3⟩ := own_rd hown
  have HB3 := Lib.hid (HB2.out.trans (hb3.mono HB2.out.size))
  have HB3a := Lib.hid (fun o => HB3.out.alloc HB3.out.size o)
  have HR3 := Lib.hid (fun o => hrd3.kept ((Below.refl _ w3).alloc (Nat.le_refl _) o))
  clear hb3 hown hrd3
  go_wp2_with fail
  refine (C4.out _ A3 _ c3 rfl (HR3.out _) (HB3a.out _)).mono ?_
  rintro e w4 ⟨rfl, hb4⟩
  have HB := Lib.hid ((HB3a.out _).trans (hb4.mono (HB3a.out _).size))
  clear hb4
  have hdt : decide (True ∧ True ∧ True) = true := by decide
  rw [hdt]
  go_wp2_with fail
  refine (C5.out _ HB.out).mono ?_
  rintro e w5 ⟨⟨v5, rfl, hown5⟩, hb5⟩
  obtain ⟨A5, c5, rfl, hnc5, hcm5, hrd5, hlen5⟩ := own_rd hown5
  have HB5 := Lib.hid (HB.out.trans (hb5.mono HB.out.size))
  have HB5a := Lib.hid (fun o => HB5.out.alloc HB5.out.size o)
  have HR5 := Lib.hid (fun o => hrd5.kept ((Below.refl _ w5).alloc (Nat.le_refl _) o))
  clear hb5 hown5 hrd5
  go_wp2
  go_ret
  exact ⟨rfl, HB5a.out _⟩

set_option maxHeartbeats 2000000 in
theorem back_23 (k t : Int) (A : Option Addr) (n c : Nat) (l : List Int) (B : Option Addr) (m d : Nat) (l' : List Int) (w : World) (hk : 0 ≤ k ∧ k < 256) (ht : 0 ≤ t ∧ t < 18446744073709551616)
    (hn : l.length = n) (hm : l'.length = m) (hmd : m ≤ d) (hl : Rd w A (bys l)) (hl' : Rd w B (bys l')) (bl : IsB l) (bl' : IsB l') (h1 : knownB k = true) (hle : n ≤ 496) (h2 : (sec l').err = 0) (h3 : (sec l').kind ≠ 0) :
    Calls Try.prog 5 #[.int .u8 k, .int .u64 t, .slice A n c, .slice B m d] w fun e w' => e = .returned (.bool true) ∧ Below w.heap.size w w' := by
  have C3 := Lib.hid (fun w => awake_any w)
  have C1 := Lib.hid (seal_okn k t A c n l w hn hl h1 hle bl hk ht.1 ht.2)
  have hsl := Lib.hid (sec_sealed (l := l) h1 ht.1 ht.2 (by omega) bl)
  have C2 := Lib.hid (fun (w4 : World) (g : Nat) (hg : w4.heap[g]? = some (.cells (bys (sealed k t l)).toArray 46 (0, 0))) => open_any (some ⟨g, 0, none⟩) 512 512 _ w4 (sealed_length k t (by omega)) (rd_block hg) (sealed_isB hk bl) (Nat.le_refl _))
  have C4 := Lib.hid (fun (w4 : World) (A' : Option Addr) (n' c' : Nat) (hn' : l.length = n') (h' : Rd w4 A' (bys l)) (hb : Below w.heap.size w w4) => sector_eq k t A' n' c' l k t A n c l w4 hn' hn h' (hl.kept hb) bl bl)
  have C5 := Lib.hid (fun (w4 : World) (hb : Below w.heap.size w w4) => open_any B m d l' w4 hm (hl'.kept hb) bl' hmd)
  have h2b : ((sec l').err != 0) = false := by rw [h2]; rfl
  have h3b : ((sec l').kind == 0) = false := by simpa using h3
  obtain ⟨s1, s2, s3⟩ := sealed_of_sec bl' h2 h3
  obtain ⟨r1, r2, r3, _⟩ := sec_range bl'
  have C6 := Lib.hid (fun (w4 : World) (A' : Option Addr) (c' : Nat) (h' : Rd w4 A' (bys (sec l').pay)) => seal_okn (sec l').kind (sec l').turn A' c' (sec l').pay.length (sec l').pay w4 rfl h' s1 s2 r3 r1 r2.1 r2.2)
  have C7 := Lib.hid (fun (w4 : World) (g : Nat) (hg : w4.heap[g]? = some (.cells (bys (sealed (sec l').kind (sec l').turn (sec l').pay)).toArray 46 (0, 0))) (hb : Below w.heap.size w w4) => bytes_any (some ⟨g, 0, none⟩) 512 512 l' B m d l' w4 (by rw [← s3]; exact sealed_length _ _ s2) hm (by rw [s3] at hg; exact rd_block hg) (hl'.kept hb) bl' bl')
  clear s1 s2 s3 r1 r2 r3
  clear hl hl' hn hm h1 hle h2 h3
  go_enter Try.func5, Try.ntmps5
  go_wp2_with fail
  refine C1.out.mono ?_
  rintro e w1 ⟨g, rfl, hg, hh, hb1⟩
  have HH := Lib.hid hh
  clear hh
  go_wp2_with fail
  refine (C3.out _).mono ?_
  rintro e w2 ⟨rfl, hb2⟩
  have HB2 := Lib.hid (hb1.trans (hb2.mono hb1.size))
  have HH2 := Lib.hid ((hb2.block g (Array.getElem?_eq_some_iff.1 HH.out).1).trans HH.out)
  clear hb1 hb2
  go_wp2_with fail
  refine (C2.out _ g HH2.out).mono ?_
  rintro e w3 ⟨⟨v, rfl, hown⟩, hb3⟩
  rw [hsl.out] at hown ⊢
  obtain ⟨A3, c3, rfl, hnc3, hcm3, hrd3, hlen3⟩ := own_rd hown
  have HB3 := Lib.hid (HB2.out.trans (hb3.mono HB2.out.size))
  have HB3a := Lib.hid (fun o => HB3.out.alloc HB3.out.size o)
  have HR3 := Lib.hid (fun o => hrd3.kept ((Below.refl _ w3).alloc (Nat.le_refl _) o))
  clear hb3 hown hrd3
  go_wp2_with fail
  refine (C4.out _ A3 _ c3 rfl (HR3.out _) (HB3a.out _)).mono ?_
  rintro e w4 ⟨rfl, hb4⟩
  have HB := Lib.hid ((HB3a.out _).trans (hb4.mono (HB3a.out _).size))
  clear hb4
  have hdt : decide (True ∧ True ∧ True) = true := by decide
  rw [hdt]
  go_wp2_with fail
  refine (C5.out _ HB.out).mono ?_
  rintro e w5 ⟨⟨v5, rfl, hown5⟩, hb5⟩
  obtain ⟨A5, c5, rfl, hnc5, hcm5, hrd5, hlen5⟩ := own_rd hown5
  have HB5 := Lib.hid (HB.out.trans (hb5.mono HB.out.size))
  have HB5a := Lib.hid (fun o => HB5.out.alloc HB5.out.size o)
  have HR5 := Lib.hid (fun o => hrd5.kept ((Below.refl _ w5).alloc (Nat.le_refl _) o))
  clear hb5 hown5 hrd5
  go_wp2_with fail
  refine (C6.out _ A5 c5 (HR5.out _)).mono ?_
  rintro e w6 ⟨g6, rfl, hg6, hh6, hb6⟩
  have HB6 := Lib.hid ((HB5a.out _).trans (hb6.mono (HB5a.out _).size))
  have HH6 := Lib.hid hh6
  clear hb6 hh6
  go_wp2_with fail
  refine (C7.out _ g6 HH6.out HB6.out).mono ?_
  rintro e w7 ⟨rfl, rfl⟩
  go_wp2
  go_ret
  exact ⟨by simp, HB6.out⟩

theorem back_walk (k t : Int) (A : Option Addr) (n c : Nat) (z : List Int) (B : Option Addr) (m d : Nat) (y : List Int) (w : World) (w0 : (Lit.int .u8 k).wf = true) (w1 : (Lit.int .u64 t).wf = true) (w2 : IsRow .u8 w A n c z) (w3 : IsRow .u8 w B m d y) :
    Calls Try.prog 5 #[.int .u8 k, .int .u64 t, .slice A n c, .slice B m d] w fun e w' => e = .returned (.bool true) ∧ Below w.heap.size w w' := by
  obtain ⟨l, hn, hl, bl, _, _, _⟩ := row_rd w2
  obtain ⟨l', hm, hl', bl', _, _, hmd⟩ := row_rd w3
  have hk := wf_u8b w0
  have ht := wf_u64b w1
  by_cases h1 : knownB k = false ∨ 496 < n
  · by_cases h2 : (sec l').err = 0
    · by_cases h3 : (sec l').kind = 0
      · exact back_12 k t A n c l B m d l' w hk ht hn hm hmd hl hl' bl bl' h1 h2 h3
      · exact back_13 k t A n c l B m d l' w hk ht hn hm hmd hl hl' bl bl' h1 h2 h3
    · exact back_11 k t A n c l B m d l' w hk ht hn hm hmd hl hl' bl bl' h1 h2
  · have hkn : knownB k = true := by cases hk : knownB k with
      | true => rfl
      | false => exact absurd (.inl hk) h1
    have hle : n ≤ 496 := by omega
    by_cases h2 : (sec l').err = 0
    · by_cases h3 : (sec l').kind = 0
      · exact back_22 k t A n c l B m d l' w hk ht hn hm hmd hl hl' bl bl' hkn hle h2 h3
      · exact back_23 k t A n c l B m d l' w hk ht hn hm hmd hl hl' bl bl' hkn hle h2 h3
    · exact back_21 k t A n c l B m d l' w hk ht hn hm hmd hl hl' bl bl' hkn hle h2
end Go.Proofs.Ytchiopfanplebaa
