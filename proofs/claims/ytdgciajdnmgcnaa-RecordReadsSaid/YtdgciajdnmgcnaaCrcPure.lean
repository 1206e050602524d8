/- The sum of bytes (CRC-32C) over natural numbers: bit by bit, by half bytes, and which turned bits it tells. Plain mathematics; no condition. -/
import Derived.Test.YtdgciajdnmgcnaaVoc
namespace Go.Proofs.Ytdgciajdnmgcnaa
open Go.RowKit

def poly : Nat := 2197175160
def half (c : Nat) : Nat := if c % 2 = 1 then (c / 2) ^^^ poly else c / 2
def halves : Nat → Nat → Nat
  | 0, c => c
  | k + 1, c => half (halves k c)
theorem half_lt {c : Nat} (h : c < 4294967296) : half c < 4294967296 := by
  unfold half
  split
  · have : (c / 2) ^^^ poly < 2 ^ 32 := Nat.xor_lt_two_pow (by omega) (by decide)
    simpa using this
  · omega
theorem halves_lt (k : Nat) {c : Nat} (h : c < 4294967296) : halves k c < 4294967296 := by
  induction k with
  | zero => exact h
  | succ k ih => exact half_lt ih
theorem xor_div2 (a b : Nat) : (a ^^^ b) / 2 = a / 2 ^^^ b / 2 := by
  apply Nat.eq_of_testBit_eq; intro i
  simp [Nat.testBit_div_two, Nat.testBit_xor]
theorem xor_mod2 (a b : Nat) : (a ^^^ b) % 2 = (a % 2) ^^^ (b % 2) := Nat.xor_mod_two_pow (a := a) (b := b) (n := 1)
theorem xlc (a b c : Nat) : a ^^^ (b ^^^ c) = b ^^^ (a ^^^ c) := by rw [← Nat.xor_assoc, Nat.xor_comm a b, Nat.xor_assoc]
theorem half_xor (a b : Nat) : half (a ^^^ b) = half a ^^^ half b := by
  unfold half
  rw [xor_mod2, xor_div2]
  rcases Nat.mod_two_eq_zero_or_one a with ha | ha <;> rcases Nat.mod_two_eq_zero_or_one b with hb | hb <;> simp only [ha, hb] <;> simp [Nat.xor_comm, xlc]
  rw [← Nat.xor_assoc poly poly, Nat.xor_self, Nat.zero_xor]
theorem halves_xor (k a b : Nat) : halves k (a ^^^ b) = halves k a ^^^ halves k b := by
  induction k with
  | zero => rfl
  | succ k ih => simp only [halves, ih, half_xor]
theorem halves_add (j k c : Nat) : halves (j + k) c = halves j (halves k c) := by
  induction j with
  | zero => simp [halves]
  | succ j ih => rw [Nat.add_right_comm]; simp only [halves, ih]
theorem half_even {c : Nat} (h : c % 2 = 0) : half c = c / 2 := by unfold half; rw [if_neg (by omega)]
theorem halves_shift (k : Nat) (c : Nat) (h : c % 2 ^ k = 0) : halves k c = c / 2 ^ k := by
  induction k generalizing c with
  | zero => simp [halves]
  | succ k ih =>
    have h2 : c % 2 ^ k = 0 := by
      have : (2 ^ k) ∣ c := Nat.dvd_trans ⟨2, by rw [Nat.pow_succ]⟩ (Nat.dvd_of_mod_eq_zero h)
      exact Nat.mod_eq_zero_of_dvd this
    simp only [halves]
    rw [ih c h2]
    have h3 : (c / 2 ^ k) % 2 = 0 := by
      obtain ⟨d, hd⟩ := Nat.dvd_of_mod_eq_zero h
      rw [hd, Nat.pow_succ, Nat.mul_assoc, Nat.mul_div_cancel_left _ (Nat.two_pow_pos k)]
      omega
    rw [half_even h3, Nat.div_div_eq_div_mul, Nat.pow_succ]
theorem xor_low (s : Nat) : s = (s - s % 16) ^^^ (s % 16) := by
  have h1 : s = 2 ^ 4 * (s / 16) + s % 16 := by omega
  have h2 := Nat.two_pow_add_eq_or_of_lt (i := 4) (b := s % 16) (by omega) (s / 16)
  have h3 : s - s % 16 = 2 ^ 4 * (s / 16) := by omega
  rw [h3]
  conv => lhs; rw [h1]
  rw [h2]
  apply Nat.eq_of_testBit_eq; intro i
  simp only [Nat.testBit_or, Nat.testBit_xor, Nat.testBit_two_pow_mul]
  by_cases hi : i < 4
  · have : ¬ i ≥ 4 := by omega
    simp [this]
  · have : (s % 16).testBit i = false := Nat.testBit_lt_two_pow (Nat.lt_of_lt_of_le (show s % 16 < 2 ^ 4 by omega) (Nat.pow_le_pow_right (by decide) (by omega)))
    simp [this]
/-- A half byte at once. -/
theorem nibble (s : Nat) : halves 4 s = s / 16 ^^^ halves 4 (s % 16) := by
  conv => lhs; rw [xor_low s]
  rw [halves_xor, halves_shift 4 (s - s % 16) (by omega)]
  congr 1
  omega

/-- One byte more. -/
def byteStep (s : Nat) (b : Int) : Nat := halves 8 (s ^^^ b.toNat)
def raw (s : Nat) (l : List Int) : Nat := l.foldl byteStep s
def more (s : Nat) (l : List Int) : Nat := raw (s ^^^ 4294967295) l ^^^ 4294967295
theorem xor_lt32 {a b : Nat} (ha : a < 4294967296) (hb : b < 4294967296) : a ^^^ b < 4294967296 := by
  have := Nat.xor_lt_two_pow (n := 32) (by simpa using ha) (by simpa using hb)
  simpa using this
theorem byteStep_lt {s : Nat} {b : Int} (hs : s < 4294967296) (hb : b < 256) : byteStep s b < 4294967296 := halves_lt _ (xor_lt32 hs (by omega))
theorem byteStep_nibbles (s : Nat) (b : Int) : byteStep s b = ((s ^^^ b.toNat) / 16 ^^^ halves 4 ((s ^^^ b.toNat) % 16)) / 16 ^^^ halves 4 (((s ^^^ b.toNat) / 16 ^^^ halves 4 ((s ^^^ b.toNat) % 16)) % 16) := by
  unfold byteStep
  rw [show (8 : Nat) = 4 + 4 from rfl, halves_add, nibble (s ^^^ b.toNat), nibble]
theorem raw_snoc (s : Nat) (l : List Int) (b : Int) : raw s (l ++ [b]) = byteStep (raw s l) b := by simp [raw]
theorem raw_lt {s : Nat} {l : List Int} (hs : s < 4294967296) (hl : IsB l) : raw s l < 4294967296 := by
  induction l generalizing s with
  | nil => exact hs
  | cons b l ih => exact ih (byteStep_lt hs (hl b (by simp)).2) (fun x hx => hl x (by simp [hx]))
theorem more_lt {s : Nat} {l : List Int} (hs : s < 4294967296) (hl : IsB l) : more s l < 4294967296 := xor_lt32 (raw_lt (xor_lt32 hs (by decide)) hl) (by decide)

/-! Bits of whole numbers as the walk spells them. -/
theorem bits_xor_nat (k : IntKind) (j : Nat) (hj : j ≤ k.bits) (hk : ∀ n : Int, 0 ≤ n → n < 2 ^ j → k.wrap n = n) (a b : Nat) (ha : a < 2 ^ j) (hb : b < 2 ^ j) : bits .xor k a b = ((a ^^^ b : Nat) : Int) := by
  have hp : 2 ^ j ≤ 2 ^ k.bits := Nat.pow_le_pow_right (by decide) hj
  have ha' : a % 2 ^ k.bits = a := Nat.mod_eq_of_lt (Nat.lt_of_lt_of_le ha hp)
  have hb' : b % 2 ^ k.bits = b := Nat.mod_eq_of_lt (Nat.lt_of_lt_of_le hb hp)
  simp only [bits, BitVec.ofInt_natCast, BitVec.toNat_xor, BitVec.toNat_ofNat, ha', hb']
  exact hk _ (Int.natCast_nonneg _) (by exact_mod_cast Nat.xor_lt_two_pow ha hb)
theorem xor_u32 (a b : Nat) (ha : a < 4294967296) (hb : b < 4294967296) : bits .xor .u32 a b = ((a ^^^ b : Nat) : Int) :=
  bits_xor_nat .u32 32 (by decide) (fun n h0 h1 => by rw [IntKind.wrap_u32]; omega) a b (by simpa using ha) (by simpa using hb)
theorem and15_u32 (a : Nat) (ha : a < 4294967296) : bits .and .u32 a 15 = ((a % 16 : Nat) : Int) := by
  have h := (bits_nat .u32 32 (by decide) (fun n h0 h1 => by rw [IntKind.wrap_u32]; omega) a 15 (by simpa using ha) (by decide)).1
  have e : a &&& 15 = a % 16 := Nat.and_two_pow_sub_one_eq_mod a 4
  rw [e] at h
  exact h
theorem and1_u32 (a : Nat) (ha : a < 4294967296) : bits .and .u32 a 1 = ((a % 2 : Nat) : Int) := by
  have h := (bits_nat .u32 32 (by decide) (fun n h0 h1 => by rw [IntKind.wrap_u32]; omega) a 1 (by simpa using ha) (by decide)).1
  have e : a &&& 1 = a % 2 := Nat.and_two_pow_sub_one_eq_mod a 1
  rw [e] at h
  exact h
end Go.Proofs.Ytdgciajdnmgcnaa
