import Derived.Lib.BitFns
/- What the numbers of layer 1 are as bytes: plain functions on numbers and lists, no Go and no memory. -/
namespace Go.Proofs.Ytglekpigobingaa
open Go

/-- how many bytes a number has -/
def sz (n : Nat) : Nat := min 9 (max 1 ((Lib.bitLen n + 6) / 7))
/-- the low k bytes of v, the highest first -/
def be : Nat → Nat → List UInt8
  | 0, _ => []
  | k + 1, v => UInt8.ofNat (v / 256 ^ k) :: be k v
/-- the first byte of a number of k bytes -/
def first (k n : Nat) : UInt8 := UInt8.ofNat (256 - 2 ^ (9 - k) + (if k < 9 then n / 256 ^ (k - 1) else 0))
/-- a number's bytes -/
def num (n : Nat) : List UInt8 := first (sz n) n :: be (sz n - 1) n

theorem be_length : ∀ (k v : Nat), (be k v).length = k
  | 0, _ => rfl
  | k + 1, v => by simp [be, be_length k v]
theorem be_get : ∀ (k v j : Nat), j < k → (be k v)[j]? = some (UInt8.ofNat (v / 256 ^ (k - 1 - j)))
  | 0, _, _, h => by omega
  | k + 1, v, 0, _ => by simp [be]
  | k + 1, v, j + 1, h => by
    simp only [be, List.getElem?_cons_succ]
    rw [be_get k v j (by omega), show k + 1 - 1 - (j + 1) = k - 1 - j from by omega]
theorem be_snoc (k v i : Nat) (h : i < k) : (be k v).take (k - (i + 1)) ++ [UInt8.ofNat (v / 256 ^ i)] = (be k v).take (k - i) := by
  have h1 : k - i = (k - (i + 1)) + 1 := by omega
  rw [h1, List.take_add_one, be_get k v _ (by omega), show k - 1 - (k - (i + 1)) = i from by omega]
  rfl
theorem sz_pos (n : Nat) : 1 ≤ sz n := by unfold sz; omega
theorem sz_le (n : Nat) : sz n ≤ 9 := by unfold sz; omega
theorem num_length (n : Nat) : (num n).length = sz n := by
  have := sz_pos n
  simp [num, be_length]; omega
end Go.Proofs.Ytglekpigobingaa
