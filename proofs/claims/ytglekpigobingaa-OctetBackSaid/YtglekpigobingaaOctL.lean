import Derived.Test.YtglekpigobingaaOctB
/- The order of the numbers' bytes: plain laws. -/
namespace Go.Proofs.Ytglekpigobingaa
open Go

theorem less_cons (a b : UInt8) (x y : List UInt8) : Op.bytesLess (a :: x) (b :: y) = (decide (a < b) || (a == b && Op.bytesLess x y)) := rfl
theorem less_self : ∀ l : List UInt8, Op.bytesLess l l = false
  | [] => rfl
  | a :: l => by rw [less_cons, less_self l]; simp

theorem lex_num {P a b x y : Nat} (hx : x < P) (hy : y < P) : (a * P + x < b * P + y) ↔ (a < b ∨ (a = b ∧ x < y)) := by
  rcases Nat.lt_trichotomy a b with h | h | h
  · have := Nat.mul_le_mul_right P (show a + 1 ≤ b from h)
    rw [Nat.add_mul] at this
    omega
  · subst h
    omega
  · have := Nat.mul_le_mul_right P (show b + 1 ≤ a from h)
    rw [Nat.add_mul] at this
    omega

/-- heads below 256 and tails that compare as numbers below P: the whole compares as a number -/
theorem less_of {a b : Nat} (ha : a < 256) (hb : b < 256) {x y : List UInt8} {p : Bool} (h : Op.bytesLess x y = p) :
    Op.bytesLess (UInt8.ofNat a :: x) (UInt8.ofNat b :: y) = (decide (a < b) || (decide (a = b) && p)) := by
  rw [less_cons, h]
  have e1 : decide (UInt8.ofNat a < UInt8.ofNat b) = decide (a < b) := by
    rw [decide_eq_decide, UInt8.lt_iff_toNat_lt, UInt8.toNat_ofNat', UInt8.toNat_ofNat', Nat.mod_eq_of_lt ha, Nat.mod_eq_of_lt hb]
  have e2 : (UInt8.ofNat a == UInt8.ofNat b) = decide (a = b) := by
    rw [Bool.eq_iff_iff, beq_iff_eq, decide_eq_true_iff, ← UInt8.toNat_inj, UInt8.toNat_ofNat', UInt8.toNat_ofNat', Nat.mod_eq_of_lt ha, Nat.mod_eq_of_lt hb]
  rw [e1, e2]

theorem be_cons (k v : Nat) : be (k + 1) v = UInt8.ofNat (v / 256 ^ k % 256) :: be k v := by
  simp only [be]
  congr 1
  rw [← UInt8.toNat_inj]; simp [UInt8.toNat_ofNat']

theorem be_less : ∀ (k v u : Nat), Op.bytesLess (be k v) (be k u) = decide (v % 256 ^ k < u % 256 ^ k)
  | 0, v, u => by simp [be, Nat.mod_one, Op.bytesLess]
  | k + 1, v, u => by
    have hP : 0 < 256 ^ k := Nat.pow_pos (by omega)
    rw [be_cons, be_cons, less_of (Nat.mod_lt _ (by omega)) (Nat.mod_lt _ (by omega)) (be_less k v u)]
    have h := lex_num (P := 256 ^ k) (a := v / 256 ^ k % 256) (b := u / 256 ^ k % 256) (Nat.mod_lt v hP) (Nat.mod_lt u hP)
    rw [Nat.mod_pow_succ, Nat.mod_pow_succ, Nat.add_comm (v % 256 ^ k), Nat.add_comm (u % 256 ^ k), Nat.mul_comm (256 ^ k), Nat.mul_comm (256 ^ k)]
    rw [Bool.eq_iff_iff]
    simp only [Bool.or_eq_true, Bool.and_eq_true, decide_eq_true_iff]
    exact h.symm

/-- the first byte as a number -/
def hd (k n : Nat) : Nat := 256 - 2 ^ (9 - k) + (if k < 9 then n / 256 ^ (k - 1) else 0)
theorem hd_lt (k n : Nat) (h1 : 1 ≤ k) (h9 : k ≤ 9) (h : k < 9 → n < 2 ^ (7 * k)) : hd k n < 256 ∧ 256 - 2 ^ (9 - k) ≤ hd k n ∧ (k < 9 → hd k n < 256 - 2 ^ (8 - k)) := by
  unfold hd
  split
  · rename_i hk
    have h1 := first_small k n h1 hk (h hk)
    have hq : 2 ^ (9 - k) = 2 * 2 ^ (8 - k) := by rw [show 9 - k = (8 - k) + 1 from by omega, Nat.pow_succ]; omega
    have hp : 2 ^ (8 - k) ≤ 2 ^ 7 := Nat.pow_le_pow_right (by omega) (by omega)
    have hp0 : 0 < 2 ^ (8 - k) := Nat.two_pow_pos _
    generalize n / 256 ^ (k - 1) = x at *
    omega
  · have : k = 9 := by omega
    subst this
    refine ⟨by decide, by decide, fun h => by omega⟩

theorem num_eq (n : Nat) : num n = UInt8.ofNat (hd (sz n) n) :: be (sz n - 1) n := rfl
theorem sz_mono {n m : Nat} (h : n ≤ m) (hm : m < 2 ^ 64) : sz n ≤ sz m := by
  by_cases h9 : sz m < 9
  · exact sz_least n (sz m) (Nat.lt_of_le_of_lt h (sz_room m hm h9)) (sz_pos m) (sz_le m)
  · have := sz_le n; omega

theorem num_less (n m : Nat) (hn : n < 2 ^ 64) (hm : m < 2 ^ 64) : Op.bytesLess (num n) (num m) = decide (n < m) := by
  have n1 := hd_lt (sz n) n (sz_pos n) (sz_le n) (sz_room n hn)
  have m1 := hd_lt (sz m) m (sz_pos m) (sz_le m) (sz_room m hm)
  have nk := sz_pos n
  have nk9 := sz_le n
  have mk9 := sz_le m
  rw [num_eq, num_eq]
  rcases Nat.lt_trichotomy (sz n) (sz m) with h | h | h
  · have hlt : n < m := by
      rcases Nat.lt_or_ge n m with h2 | h2
      · exact h2
      · have := sz_mono h2 hn; omega
    have hp : 2 ^ (9 - sz m) ≤ 2 ^ (8 - sz n) := Nat.pow_le_pow_right (by omega) (by omega)
    have h2 := n1.2.2 (by omega)
    rw [less_of n1.1 m1.1 rfl]
    have : hd (sz n) n < hd (sz m) m := by omega
    simp [this, hlt]
  · rw [← h] at m1 ⊢
    rw [less_of n1.1 m1.1 (be_less _ _ _)]
    rw [Bool.eq_iff_iff]
    simp only [Bool.or_eq_true, Bool.and_eq_true, decide_eq_true_iff]
    have hP : 0 < 256 ^ (sz n - 1) := Nat.pow_pos (by omega)
    by_cases h9 : sz n < 9
    · have hx := lex_num (P := 256 ^ (sz n - 1)) (a := n / 256 ^ (sz n - 1)) (b := m / 256 ^ (sz n - 1)) (Nat.mod_lt n hP) (Nat.mod_lt m hP)
      rw [Nat.mul_comm, Nat.div_add_mod, Nat.mul_comm, Nat.div_add_mod] at hx
      rw [hx]
      unfold hd
      rw [if_pos h9, if_pos h9]
      generalize n / 256 ^ (sz n - 1) = x
      generalize m / 256 ^ (sz n - 1) = y
      omega
    · have e9 : sz n = 9 := by omega
      unfold hd
      rw [e9, if_neg (by omega), if_neg (by omega), Nat.mod_eq_of_lt (show n < 256 ^ (9 - 1) from hn), Nat.mod_eq_of_lt (show m < 256 ^ (9 - 1) from hm)]
      omega
  · have hlt : ¬ n < m := by
      intro h2
      have := sz_mono (Nat.le_of_lt h2) hm; omega
    have hp : 2 ^ (9 - sz n) ≤ 2 ^ (8 - sz m) := Nat.pow_le_pow_right (by omega) (by omega)
    have h2 := m1.2.2 (by omega)
    rw [less_of n1.1 m1.1 rfl]
    have h3 : ¬ hd (sz n) n < hd (sz m) m := by omega
    have h4 : ¬ hd (sz n) n = hd (sz m) m := by omega
    simp [h3, h4, hlt]

theorem num_inj (n m : Nat) (hn : n < 2 ^ 64) (hm : m < 2 ^ 64) : (num n == num m) = ((n : Int) == (m : Int)) := by
  rw [Bool.eq_iff_iff, beq_iff_eq, beq_iff_eq]
  constructor
  · intro h
    have h1 := num_less n m hn hm
    have h2 := num_less m n hm hn
    rw [h, less_self] at h1
    rw [← h, less_self] at h2
    have : ¬ n < m := by simpa using h1.symm
    have : ¬ m < n := by simpa using h2.symm
    omega
  · intro h
    have : n = m := by omega
    rw [this]

theorem sz_fits (n : Nat) (hn : n < 2 ^ 64) (h9 : sz n ≠ 9) : (((n : Int) / 2 ^ (7 * sz n)) == 0) = true := by
  have h := sz_room n hn (by have := sz_le n; omega)
  rw [beq_iff_eq]
  apply Int.ediv_eq_zero_of_lt (by omega)
  have : (2 : Int) ^ (7 * sz n) = ((2 ^ (7 * sz n) : Nat) : Int) := by simp
  rw [this]
  exact Int.ofNat_lt.2 h
theorem sz_needs (n : Nat) (h1 : sz n ≠ 1) : (((n : Int) / 2 ^ (7 * (sz n - 1))) != 0) = true := by
  have hp := sz_pos n
  have h9 := sz_le n
  have h : 2 ^ (7 * (sz n - 1)) ≤ n := by
    rcases Nat.lt_or_ge n (2 ^ (7 * (sz n - 1))) with h | h
    · have := sz_least n (sz n - 1) h (by omega) (by omega); omega
    · exact h
  have h2 : 0 < n / 2 ^ (7 * (sz n - 1)) := Nat.div_pos h (Nat.two_pow_pos _)
  have e : (2 : Int) ^ (7 * (sz n - 1)) = ((2 ^ (7 * (sz n - 1)) : Nat) : Int) := by simp
  rw [bne_iff_ne, e, ← Int.natCast_ediv]
  generalize n / 2 ^ (7 * (sz n - 1)) = x at *
  omega
end Go.Proofs.Ytglekpigobingaa
