/- The parity of bytes whose sum stands behind them is even: so an odd number of turned bits is told. Plain mathematics; no condition. -/
import Derived.Test.YtdgciajdnmgcnaaSecPure
namespace Go.Proofs.Ytdgciajdnmgcnaa
open Go.RowKit

/-- The parity of the lowest k bits. -/
def par : Nat → Nat → Bool
  | 0, _ => false
  | k + 1, n => (n % 2 == 1) ^^ par k (n / 2)
theorem mod2_xor (a b : Nat) : ((a ^^^ b) % 2 == 1) = ((a % 2 == 1) ^^ (b % 2 == 1)) := by
  rw [xor_mod2]
  rcases Nat.mod_two_eq_zero_or_one a with ha | ha <;> rcases Nat.mod_two_eq_zero_or_one b with hb | hb <;> simp [ha, hb]
theorem par_xor (k : Nat) : ∀ a b, par k (a ^^^ b) = (par k a ^^ par k b) := by
  induction k with
  | zero => intro a b; rfl
  | succ k ih =>
    intro a b
    simp only [par, mod2_xor, xor_div2, ih]
    cases (a % 2 == 1) <;> cases (b % 2 == 1) <;> cases par k (a / 2) <;> cases par k (b / 2) <;> rfl
theorem par_zero (k : Nat) : par k 0 = false := by
  induction k with
  | zero => rfl
  | succ k ih => simp [par, ih]
theorem par_more (k : Nat) : ∀ n, n < 2 ^ k → par (k + 1) n = par k n := by
  induction k with
  | zero => intro n h; obtain rfl : n = 0 := by omega
            rfl
  | succ k ih =>
    intro n h
    rw [Nat.pow_succ] at h
    show ((n % 2 == 1) ^^ par (k + 1) (n / 2)) = ((n % 2 == 1) ^^ par k (n / 2))
    rw [ih (n / 2) (by omega)]
theorem par_up (k j : Nat) (n : Nat) (h : n < 2 ^ k) : par (k + j) n = par k n := by
  induction j with
  | zero => rfl
  | succ j ih => rw [← Nat.add_assoc, par_more (k + j) n (Nat.lt_of_lt_of_le h (Nat.pow_le_pow_right (by decide) (by omega))), ih]
theorem par_half {c : Nat} (h : c < 4294967296) : par 32 (half c) = par 32 c := by
  have e : par 32 (c / 2) = par 31 (c / 2) := par_more 31 _ (by omega)
  unfold half
  split
  · rename_i ho
    rw [par_xor, e, show par 32 poly = true from by decide]
    show (par 31 (c / 2) ^^ true) = ((c % 2 == 1) ^^ par 31 (c / 2))
    rw [ho]; cases par 31 (c / 2) <;> rfl
  · rename_i ho
    rw [e]
    show par 31 (c / 2) = ((c % 2 == 1) ^^ par 31 (c / 2))
    rw [show c % 2 = 0 by omega]; cases par 31 (c / 2) <;> rfl
theorem par_halves (k : Nat) {c : Nat} (h : c < 4294967296) : par 32 (halves k c) = par 32 c := by
  induction k with
  | zero => rfl
  | succ k ih => rw [halves, par_half (halves_lt k h), ih]
def parB (x : Int) : Bool := par 8 x.toNat
def parL : List Int → Bool
  | [] => false
  | x :: l => parB x ^^ parL l
theorem parL_append (l m : List Int) : parL (l ++ m) = (parL l ^^ parL m) := by
  induction l with
  | nil => simp [parL]
  | cons x l ih => simp only [List.cons_append, parL, ih]; cases parB x <;> cases parL l <;> cases parL m <;> rfl
theorem par_step {s : Nat} {b : Int} (hs : s < 4294967296) (hb : 0 ≤ b ∧ b < 256) : par 32 (byteStep s b) = (par 32 s ^^ parB b) := by
  unfold byteStep
  rw [par_halves 8 (xor_lt32 hs (by omega)), par_xor]
  congr 1
  exact par_up 8 24 _ (by omega)
theorem par_raw {l : List Int} : ∀ {s : Nat}, s < 4294967296 → IsB l → par 32 (raw s l) = (par 32 s ^^ parL l) := by
  induction l with
  | nil => intro s _ _; simp [raw, parL]
  | cons b l ih =>
    intro s hs hl
    have hb := hl b (by simp)
    show par 32 (raw (byteStep s b) l) = _
    rw [ih (byteStep_lt hs hb.2) (fun x hx => hl x (by simp [hx])), par_step hs hb, parL]
    cases par 32 s <;> cases parB b <;> cases parL l <;> rfl
theorem par_crc {l : List Int} (h : IsB l) : par 32 (more 0 l) = parL l := by
  unfold more
  rw [par_xor, par_raw (xor_lt32 (by decide) (by decide)) h, Nat.zero_xor, show par 32 4294967295 = false from by decide]
  cases parL l <;> rfl
theorem par_add (k j : Nat) : ∀ n, par (k + j) n = (par k n ^^ par j (n / 2 ^ k)) := by
  induction k with
  | zero => intro n; simp [par]
  | succ k ih =>
    intro n
    rw [Nat.add_right_comm]
    simp only [par, ih]
    rw [Nat.div_div_eq_div_mul, Nat.pow_succ, Nat.mul_comm 2]
    cases (n % 2 == 1) <;> cases par k (n / 2) <;> simp
theorem par_mod (k : Nat) : ∀ n, par k (n % 2 ^ k) = par k n := by
  induction k with
  | zero => intro n; rfl
  | succ k ih =>
    intro n
    simp only [par]
    have e1 : n % 2 ^ (k + 1) % 2 = n % 2 := by rw [Nat.pow_succ, Nat.mul_comm, Nat.mod_mul_right_mod]
    have e2 : n % 2 ^ (k + 1) / 2 = n / 2 % 2 ^ k := by rw [Nat.pow_succ, Nat.mul_comm, Nat.mod_mul_right_div_self]
    rw [e1, e2, ih]
theorem parL_le (k : Nat) : ∀ n : Nat, parL (le k (n : Int)) = par (8 * k) n := by
  induction k with
  | zero => intro n; rfl
  | succ k ih =>
    intro n
    have e : ((n : Int) / 256) = ((n / 256 : Nat) : Int) := by omega
    have e2 : ((n : Int) % 256).toNat = n % 2 ^ 8 := by omega
    simp only [le, parL, e, ih]
    rw [Nat.mul_succ, Nat.add_comm (8 * k), par_add 8 (8 * k) n]
    congr 1
    unfold parB
    rw [e2, par_mod]
theorem parL_zeros (n : Nat) : parL (List.replicate n 0) = false := by
  induction n with
  | zero => rfl
  | succ n ih => rw [List.replicate_succ, parL, ih]; rfl
/-- A sector whose sum is its bytes' has an even parity. -/
theorem parL_sum {l : List Int} (hI : IsB l) (hl : l.length = 512) (hs : unle ((l.drop 508).take 4) = (more 0 (l.take 508) : Nat)) : parL l = false := by
  have e : l = l.take 508 ++ (l.drop 508).take 4 := by rw [← take_split l 508 4, List.take_of_length_le (by omega)]
  have e2 : (l.drop 508).take 4 = le 4 (more 0 (l.take 508) : Nat) := by rw [← hs, le_unle_n (isB_take (isB_drop hI 508) 4) (by simp; omega)]
  rw [e, parL_append, e2, parL_le, show 8 * 4 = 32 from rfl, par_crc (isB_take hI 508)]
  cases parL (l.take 508) <;> rfl
theorem sec_odd {l : List Int} (hI : IsB l) (hl : l.length = 512) (hp : parL l = true) : sec l = ⟨0, 0, [], 30⟩ := by
  unfold sec
  rw [if_neg (by omega), if_neg, if_pos]
  · intro hs; rw [parL_sum hI hl hs] at hp; cases hp
  · intro hz; rw [all_zero_eq hz, parL_zeros] at hp; cases hp
theorem parL_sealed {k t : Int} {l : List Int} (hk : knownB k = true) (hI : IsB l) : parL (sealed k t l) = false := by
  rw [sealed, parL_append, parL_le, show 8 * 4 = 32 from rfl, par_crc (sealHead_isB (known_b hk) hI)]
  cases parL (sealHead k t l) <;> rfl

/-- One bit turned. -/
def turn1 (l : List Int) (b : Nat) : List Int := l.set (b / 8) ((bat l (b / 8)).toNat ^^^ 2 ^ (b % 8) : Nat)
def turned (l : List Int) (bs : List Nat) : List Int := bs.foldl turn1 l
theorem turn1_length (l : List Int) (b : Nat) : (turn1 l b).length = l.length := by simp [turn1]
theorem turned_length (bs : List Nat) : ∀ l : List Int, (turned l bs).length = l.length := by
  induction bs with
  | nil => intro l; rfl
  | cons b bs ih => intro l; show (turned (turn1 l b) bs).length = _; rw [ih, turn1_length]
theorem xor_bit_lt {x j : Nat} (hx : x < 256) (hj : j < 8) : x ^^^ 2 ^ j < 256 := by
  have := Nat.xor_lt_two_pow (n := 8) (x := x) (y := 2 ^ j) hx (Nat.pow_lt_pow_right (by decide) hj)
  simpa using this
theorem turn1_isB {l : List Int} (h : IsB l) (b : Nat) : IsB (turn1 l b) := by
  intro x hx
  rcases List.mem_or_eq_of_mem_set hx with hx | rfl
  · exact h x hx
  · have := bat_range h (b / 8)
    have := xor_bit_lt (x := (bat l (b / 8)).toNat) (j := b % 8) (by omega) (by omega)
    omega
theorem turned_isB (bs : List Nat) : ∀ {l : List Int}, IsB l → IsB (turned l bs) := by
  induction bs with
  | nil => intro l h; exact h
  | cons b bs ih => intro l h; exact ih (turn1_isB h b)
theorem par_bit : ∀ j, j < 8 → par 8 (2 ^ j) = true := by decide
theorem parL_set (l : List Int) (i : Nat) (h : i < l.length) (y : Int) : parL (l.set i y) = (parL l ^^ (parB (bat l i) ^^ parB y)) := by
  induction l generalizing i with
  | nil => simp at h
  | cons x l ih =>
    cases i with
    | zero => show (parB y ^^ parL l) = ((parB x ^^ parL l) ^^ (parB x ^^ parB y)); cases parB x <;> cases parB y <;> cases parL l <;> rfl
    | succ i =>
      show (parB x ^^ parL (l.set i y)) = ((parB x ^^ parL l) ^^ (parB (bat l i) ^^ parB y))
      rw [ih i (by simpa using h)]
      cases parB x <;> cases parB y <;> cases parL l <;> cases parB (bat l i) <;> rfl
theorem parL_turn1 (l : List Int) (b : Nat) (h : b / 8 < l.length) : parL (turn1 l b) = !parL l := by
  unfold turn1
  rw [parL_set l _ h]
  have : parB (((bat l (b / 8)).toNat ^^^ 2 ^ (b % 8) : Nat) : Int) = (parB (bat l (b / 8)) ^^ true) := by
    show par 8 ((bat l (b / 8)).toNat ^^^ 2 ^ (b % 8)) = _
    rw [par_xor, par_bit _ (by omega)]; rfl
  rw [this]
  cases parL l <;> cases parB (bat l (b / 8)) <;> rfl
theorem parL_turned (bs : List Nat) : ∀ l : List Int, (∀ b ∈ bs, b / 8 < l.length) → parL (turned l bs) = (parL l ^^ (bs.length % 2 == 1)) := by
  induction bs with
  | nil => intro l _; simp [turned]
  | cons b bs ih =>
    intro l h
    show parL (turned (turn1 l b) bs) = _
    rw [ih _ (fun x hx => by rw [turn1_length]; exact h x (by simp [hx])), parL_turn1 l b (h b (by simp))]
    simp only [List.length_cons]
    rcases Nat.mod_two_eq_zero_or_one bs.length with e | e
    · rw [e, show (bs.length + 1) % 2 = 1 by omega]; cases parL l <;> rfl
    · rw [e, show (bs.length + 1) % 2 = 0 by omega]; cases parL l <;> rfl
end Go.Proofs.Ytdgciajdnmgcnaa
