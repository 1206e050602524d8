/- The contract of dunnageref02.Turn: bits in range. -/
import Derived.Test.YtdgciajdnmgcnaaTurnPure
import Derived.Test.YtdgciajdnmgcnaaHelp
import Derived.Test.YtdgciajdnmgcnaaOwn
namespace Go.Proofs.Ytdgciajdnmgcnaa
open Go.RowKit

def ins (bs : List Nat) : List Value := bs.map fun (b : Nat) => Value.int .i64 (b : Int)
theorem turned_snoc (l : List Int) (bs : List Nat) (b : Nat) : turned l (bs ++ [b]) = turn1 (turned l bs) b := by simp [turned]
theorem xor_u8 (a b : Nat) (ha : a < 256) (hb : b < 256) : bits .xor .u8 a b = ((a ^^^ b : Nat) : Int) :=
  bits_xor_nat .u8 8 (by decide) (fun n h0 h1 => by rw [IntKind.wrap_u8]; omega) a b (by simpa using ha) (by simpa using hb)
theorem own_addr {w : World} {base e n : Nat} {v : Value} {xs : List Value} (h : w.ownsRow base e 1 v n xs) (hn : 0 < n) : ∃ g c, v = .slice (some ⟨g, 0, none⟩) n c ∧ base ≤ g ∧ n ≤ c := by
  rcases h.2 with ⟨_, h0⟩ | ⟨g, cap, cur, hv, hb, _, hc, _⟩
  · omega
  · exact ⟨g, cap, hv, hb, hc⟩

set_option maxHeartbeats 4000000 in
theorem turn_any (A : Option Addr) (n c : Nat) (l : List Int) (B : Option Addr) (m d : Nat) (bs : List Nat) (w : World) (hn : l.length = n) (hm : bs.length = m) (hA : A = none → n = 0 ∧ c = 0) (hl : Rd w A (bys l)) (hb : Rd w B (ins bs)) (hI : IsB l)
    (hin : ∀ b ∈ bs, b / 8 < n) (hbig : ∀ b ∈ bs, b < 9223372036854775807) (hn0 : 0 < n) (hnb : n ≤ 140737488355328) (hmb : m ≤ 4503599627370496) :
    Calls Try.prog 25 #[.slice A n c, .slice B m d] w fun e w' => ∃ v, e = .returned v ∧ w'.ownsRow w.heap.size 5 1 v n (bys (turned l bs)) ∧ Below w.heap.size w w' := by
  subst hn; subst hm
  go_enter Try.func25, Try.ntmps25
  go_wp2_with (at_builtin; go_must (refine wpList_append_rd rfl _ _ 23 rfl w.heap.size 5 (.int .u8 0) 1 1 Try.underlying23 infoU8 rfl (by decide) _ 0 [] rfl (World.ownsRow_nil _ _ _ _) A l.length c (bys l) rfl hA (by simp [bys]) hl (bys_one l) (by unfold maxLen; omega) (by omega) (Nat.le_refl _) ?_))
  intro v w1 hown hg
  obtain ⟨g, cp, rfl, hgb, hgc⟩ := own_addr hown hn0
  have hb1 := below_app (Below.refl _ w) (Nat.le_refl _) (World.ownsRow_nil w w.heap.size 5 1) hg
  have HB1 := Lib.hid hb1
  have HO := Lib.hid hown
  clear hg hown hb1
  go_wp2_with fail
  go_loopw [6] (fun i wr => ∃ j : Nat, j ≤ bs.length ∧ i = .int .i64 j ∧ wr.ownsRow w.heap.size 5 1 (.slice (some ⟨g, 0, none⟩) l.length cp) l.length (bys (turned l (bs.take j))) ∧ Below w.heap.size w wr) (fun i _ => bs.length - (intOf i).toNat)
  case atStart => exact ⟨0, by omega, rfl, HO.out, HB1.out⟩
  case round =>
    obtain ⟨j, hj, rfl, hown, hbw⟩ := hrel
    by_cases hlt : j < bs.length
    · obtain ⟨b2, o2, hBB, hc⟩ := (hb.kept hbw).at_ (j := j) (by simp [ins]; exact hlt)
      subst hBB
      simp only [ins, List.getElem_map] at hc
      have hx := hin bs[j] (List.getElem_mem hlt)
      have hx2 := hbig bs[j] (List.getElem_mem hlt)
      have htk : bs.take (j + 1) = bs.take j ++ [bs[j]] := by rw [List.take_succ_eq_append_getElem hlt]
      have hst := turned_snoc l (bs.take j) bs[j]
      rw [← htk] at hst
      have HS := Lib.hid hst
      clear hst htk
      generalize bs[j] = x at hc hx hx2 HS
      have hlen := turned_length (bs.take j) l
      have hI2 := turned_isB (bs.take j) hI
      generalize turned l (bs.take j) = cur at hown hlen hI2 HS
      have hcell : wr.cell? ⟨g, x / 8, none⟩ = some (.int .u8 (bat cur (x / 8))) := by
        rw [hown.cellAt (x / 8) (by omega), bys_getElem?, List.getElem?_eq_getElem (by omega)]; simp [bat, List.getD_eq_getElem?_getD, List.getElem?_eq_getElem (show x / 8 < cur.length by omega)]
      have hfree := hown.frozenAt (x / 8)
      have hr := bat_range hI2 (x / 8)
      obtain ⟨y, hy⟩ := Int.eq_ofNat_of_zero_le hr.1
      rw [hy] at hcell
      have hyl : y < 256 := by omega
      have hbit : 2 ^ (x % 8) < 256 := by
        have := Nat.pow_lt_pow_right (a := 2) (m := x % 8) (n := 8) (by decide) (by omega)
        simpa using this
      obtain ⟨p, hp⟩ : ∃ p, p = 2 ^ (x % 8) := ⟨_, rfl⟩
      have ex := xor_u8 y p hyl (by omega)
      have hfin : turn1 cur x = cur.set (x / 8) ((y ^^^ p : Nat) : Int) := by unfold turn1; rw [hy, hp]; rfl
      obtain ⟨q, hq⟩ : ∃ q, q = y ^^^ p := ⟨_, rfl⟩
      rw [← hq] at hfin ex
      rw [hfin] at HS
      have e1 : (2 : Int) ^ min (x % 8) 8 % 256 = (p : Int) := by
        rw [Nat.min_eq_left (by omega), show ((2 : Int) ^ (x % 8)) = ((2 ^ (x % 8) : Nat) : Int) by simp, ← hp]; omega
      have HO2 := Lib.hid hown
      have b0 : (0 : Int) ≤ (x : Int) := by omega
      clear hown hy hfin hp hq hr
      go_wp2_with fail
      have b1 : (0 : Int) ≤ (x : Int) / 8 := by omega
      have b2' : (x : Int) / 8 < (l.length : Int) := by omega
      have b3 : ((x : Int) / 8).toNat = x / 8 := by omega
      have b4 : (0 : Int) ≤ (j : Int) ∧ (j : Int) < (bs.length : Int) := by omega
      have b5 : ((x : Int) % 8).toNat = x % 8 := by omega
      have b6 : IntKind.i64.wrap ((x : Int) / 8) = (x : Int) / 8 := IntWalk.i64_in _ (by omega)
      have b7 : IntKind.i64.wrap ((x : Int) % 8) = (x : Int) % 8 := IntWalk.i64_in _ (by omega)
      have b8 : IntKind.u64.wrap ((x : Int) % 8) = (x : Int) % 8 := by rw [show ((x : Int) % 8) = ((x % 8 : Nat) : Int) by omega]; exact u64w (by omega)
      have b9 : (0 : Int) ≤ (x : Int) % 8 := by omega
      have b10 : (x : Int) % 8 ≤ 8 := by omega
      go_still_tail 23, (by kernel_rfl)
      change wpList _ _ _ _ _ wr.drew
      go_wp2
      go_roundw
      case rel => exact ⟨j + 1, by omega, by go_num, by rw [HS.out, show bys (cur.set (x / 8) (q : Int)) = (bys cur).set (x / 8) (.int .u8 (q : Int)) by simp [bys]]; exact (HO2.out.stored (x / 8) (.int .u8 (q : Int))).1, (hbw.setCell (p := ⟨g, x / 8, none⟩) hgb _).drew⟩
      case measure => simp [intOf]; omega
    · obtain rfl : j = bs.length := by omega
      rw [List.take_length] at hown
      have HO2 := Lib.hid hown
      clear hown
      go_wp2
      go_ret
      exact ⟨_, rfl, HO2.out, hbw⟩
end Go.Proofs.Ytdgciajdnmgcnaa
