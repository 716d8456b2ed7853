import Derived.Test.YtglekpigobingaaOctJ
import Derived.Test.YtglekpigobingaaOctL
/- What is written is read back, and no other bytes are read so: plain laws. -/
namespace Go.Proofs.Ytglekpigobingaa
open Go

theorem foldB_be : ∀ (j x n : Nat), foldB x (be j n) = x * 256 ^ j + n % 256 ^ j
  | 0, x, n => by simp [be, foldB, Nat.mod_one]
  | j + 1, x, n => by
    have e : foldB x (be (j + 1) n) = foldB (x * 256 + (UInt8.ofNat (n / 256 ^ j)).toNat) (be j n) := rfl
    have hm : n % 256 ^ (j + 1) = n % 256 ^ j + 256 ^ j * (n / 256 ^ j % 256) := Nat.mod_pow_succ
    have hp : 256 ^ (j + 1) = 256 ^ j * 256 := Nat.pow_succ ..
    rw [e, foldB_be j, UInt8.toNat_ofNat', hm, hp, Nat.add_mul]
    show x * 256 * 256 ^ j + n / 256 ^ j % 256 * 256 ^ j + n % 256 ^ j = _
    generalize n / 256 ^ j % 256 = q
    rw [Nat.mul_assoc x 256, Nat.mul_comm 256 (256 ^ j), Nat.mul_comm (256 ^ j) q]
    omega
theorem be_foldB : ∀ (l : List UInt8) (x : Nat), be l.length (foldB x l) = l ∧ foldB x l / 256 ^ l.length = x
  | [], x => by simp [be, foldB]
  | c :: l, x => by
    have hc := c.toNat_lt
    obtain ⟨h1, h2⟩ := be_foldB l (x * 256 + c.toNat)
    have e : foldB x (c :: l) = foldB (x * 256 + c.toNat) l := rfl
    rw [e]
    constructor
    · simp only [List.length_cons, be, h1, h2]
      congr 1
      rw [← UInt8.toNat_inj, UInt8.toNat_ofNat']
      omega
    · rw [List.length_cons, Nat.pow_succ, ← Nat.div_div_eq_div_mul, h2]
      omega

theorem lead_byte : ∀ c : Fin 256, 1 ≤ lead (UInt8.ofNat c.val) ∧ lead (UInt8.ofNat c.val) ≤ 9 ∧
    c.val = 256 - 2 ^ (9 - lead (UInt8.ofNat c.val)) + (if lead (UInt8.ofNat c.val) < 9 then c.val % 2 ^ (8 - lead (UInt8.ofNat c.val)) else 0) := by decide +kernel
theorem lead_of : ∀ (k : Fin 10) (x : Fin 256), 1 ≤ k.val → (k.val < 9 → x.val < 2 ^ (8 - k.val)) → lead (UInt8.ofNat (256 - 2 ^ (9 - k.val) + (if k.val < 9 then x.val else 0))) = k.val := by decide +kernel

theorem lead_first (n : Nat) (hn : n < 2 ^ 64) : lead (first (sz n) n) = sz n := by
  have h1 := sz_pos n
  have h9 := sz_le n
  by_cases hk : sz n < 9
  · have hx := first_small (sz n) n h1 hk (sz_room n hn hk)
    have hp : 2 ^ (8 - sz n) ≤ 2 ^ 7 := Nat.pow_le_pow_right (by omega) (by omega)
    have := lead_of ⟨sz n, by omega⟩ ⟨n / 256 ^ (sz n - 1), by omega⟩ h1 (fun _ => hx)
    simpa only [first, hk, if_true] using this
  · have := lead_of ⟨sz n, by omega⟩ ⟨0, by omega⟩ h1 (fun h => absurd h hk)
    simpa only [first, hk, if_false] using this
theorem first_rest (n : Nat) (hn : n < 2 ^ 64) : (first (sz n) n).toNat % 2 ^ (8 - sz n) = if sz n < 9 then n / 256 ^ (sz n - 1) else 0 := by
  have h1 := sz_pos n
  have h9 := sz_le n
  have hh := hd_lt (sz n) n h1 h9 (sz_room n hn)
  have e : (first (sz n) n).toNat = hd (sz n) n := by
    show (UInt8.ofNat (hd (sz n) n)).toNat = _
    rw [UInt8.toNat_ofNat']; omega
  rw [e]
  by_cases hk : sz n < 9
  · have hx := first_small (sz n) n h1 hk (sz_room n hn hk)
    unfold hd
    rw [if_pos hk]
    obtain ⟨j, hj⟩ : ∃ j, 8 - sz n = j := ⟨_, rfl⟩
    rw [hj] at hx ⊢
    rw [show 9 - sz n = j + 1 from by omega]
    have hj7 : j ≤ 7 := by omega
    have : 256 - 2 ^ (j + 1) = (2 ^ (7 - j) - 1) * 2 * 2 ^ j := by
      have h2 : 2 ^ (7 - j) * 2 * 2 ^ j = 256 := by
        rw [Nat.mul_assoc, Nat.mul_comm 2, ← Nat.pow_succ, ← Nat.pow_add, show 7 - j + (j + 1) = 8 from by omega]
      rw [Nat.sub_mul, Nat.sub_mul, h2, Nat.pow_succ]; omega
    rw [this, Nat.mul_comm, Nat.mul_add_mod, Nat.mod_eq_of_lt hx]
  · rw [if_neg hk, show 8 - sz n = 0 from by omega]; omega

theorem take_at (pre x post : List UInt8) (p : Nat) (hp : p = pre.length) : takeR ⟨pre ++ x ++ post, p, 0⟩ x.length = (⟨pre ++ x ++ post, p + x.length, 0⟩, some x) := by
  subst hp
  unfold takeR
  rw [if_neg (by simp), if_neg (by simp)]
  simp only [Prod.mk.injEq, Option.some.injEq, true_and]
  rw [List.append_assoc, List.take_append, List.take_of_length_le (by omega), Nat.add_sub_cancel_left, List.drop_append, List.drop_of_length_le (Nat.le_refl _), Nat.sub_self]
  simp

/-- a number that was written is read -/
theorem numR_at (pre post : List UInt8) (n : Nat) (hn : n < 2 ^ 64) (p : Nat) (hp : p = pre.length) : numR ⟨pre ++ num n ++ post, p, 0⟩ = (⟨pre ++ num n ++ post, p + (num n).length, 0⟩, n) := by
  have h1 := sz_pos n
  have h9 := sz_le n
  have hN : num n = [first (sz n) n] ++ be (sz n - 1) n := rfl
  have t1 : takeR ⟨pre ++ num n ++ post, p, 0⟩ 1 = (⟨pre ++ num n ++ post, p + 1, 0⟩, some [first (sz n) n]) := by
    have := take_at pre [first (sz n) n] (be (sz n - 1) n ++ post) p hp
    rw [hN]
    simpa [List.append_assoc] using this
  have t2 : takeR ⟨pre ++ num n ++ post, p + 1, 0⟩ (sz n - 1) = (⟨pre ++ num n ++ post, p + 1 + (sz n - 1), 0⟩, some (be (sz n - 1) n)) := by
    have := take_at (pre ++ [first (sz n) n]) (be (sz n - 1) n) post (p + 1) (by simp [hp])
    rw [be_length] at this
    rw [hN]
    simpa [List.append_assoc] using this
  unfold numR
  rw [t1]
  simp only [List.headD_cons, lead_first n hn]
  rw [t2]
  have hf : foldB ((first (sz n) n).toNat % 2 ^ (8 - sz n)) (be (sz n - 1) n) = n := by
    rw [first_rest n hn, foldB_be]
    split
    · rw [Nat.mul_comm]; exact Nat.div_add_mod _ _
    · have : sz n = 9 := by omega
      rw [this, Nat.mod_eq_of_lt (show n < 256 ^ (9 - 1) from hn)]; omega
  simp only [hf, if_true]
  rw [num_length]
  congr 2
  omega

theorem numR_step {s s1 s2 : R} {c : UInt8} {l : List UInt8} (h1 : takeR s 1 = (s1, some [c])) (h2 : takeR s1 (lead c - 1) = (s2, some l)) :
    numR s = if sz (foldB (c.toNat % 2 ^ (8 - lead c)) l) = lead c then (s2, foldB (c.toNat % 2 ^ (8 - lead c)) l) else (failR s2 s.p 4, 0) := by
  unfold numR
  rw [h1]
  show (match takeR s1 (lead c - 1) with | (s2, none) => (failR s2 s.p 5, 0) | (s2, some rest) => if sz (foldB (c.toNat % 2 ^ (8 - lead c)) rest) = lead c then (s2, foldB (c.toNat % 2 ^ (8 - lead c)) rest) else (failR s2 s.p 4, 0)) = _
  rw [h2]

/-- whatever is read as a number is written as just these bytes -/
theorem numR_back (b : List UInt8) (p : Nat) (hp : p ≤ b.length) (he : (numR ⟨b, p, 0⟩).1.e = 0) :
    num (numR ⟨b, p, 0⟩).2 = (b.take (numR ⟨b, p, 0⟩).1.p).drop p ∧ (numR ⟨b, p, 0⟩).1.p ≤ b.length ∧ p ≤ (numR ⟨b, p, 0⟩).1.p ∧ (numR ⟨b, p, 0⟩).2 < 2 ^ 64 := by
  rcases hT : takeR ⟨b, p, 0⟩ 1 with ⟨s1, _ | l1⟩
  · have : numR ⟨b, p, 0⟩ = (s1, 0) := by unfold numR; rw [hT]
    rw [this] at he; exact absurd he (takeR_none hT).2.2
  · obtain ⟨_, rfl, hl, hlen, hle⟩ := takeR_some hT
    obtain ⟨c, rfl⟩ : ∃ c, l1 = [c] := by
      match l1, hlen with
      | [c], _ => exact ⟨c, rfl⟩
    simp only at hle hl
    rcases hT2 : takeR ⟨b, p + 1, 0⟩ (lead c - 1) with ⟨s2, _ | l2⟩
    · have : numR ⟨b, p, 0⟩ = (failR s2 p 5, 0) := by
        unfold numR
        rw [hT]
        show (match takeR ⟨b, p + 1, 0⟩ (lead c - 1) with | (s2, none) => (failR s2 p 5, 0) | (s2, some rest) => if sz (foldB (c.toNat % 2 ^ (8 - lead c)) rest) = lead c then (s2, foldB (c.toNat % 2 ^ (8 - lead c)) rest) else (failR s2 p 4, 0)) = _
        rw [hT2]
      rw [this] at he
      have h3 := (takeR_none hT2).2.2
      simp only [failR] at he
      split at he
      · omega
      · exact absurd he h3
    · have hN := numR_step hT hT2
      obtain ⟨_, rfl, hl2, hlen2, hle2⟩ := takeR_some hT2
      simp only at hle2 hl2
      rw [hN] at he ⊢
      have hc := lead_byte ⟨c.toNat, c.toNat_lt⟩
      simp only [UInt8.ofNat_toNat] at hc
      have hlt : foldB (c.toNat % 2 ^ (8 - lead c)) l2 < 2 ^ 64 := by
        have h1 := foldB_lt l2 (c.toNat % 2 ^ (8 - lead c)) (2 ^ (8 - lead c)) (Nat.mod_lt _ (Nat.two_pow_pos _))
        have h2 : 2 ^ (8 - lead c) * 256 ^ l2.length ≤ 2 ^ 64 := by
          rw [show (256 : Nat) = 2 ^ 8 from rfl, ← Nat.pow_mul, ← Nat.pow_add]
          exact Nat.pow_le_pow_right (by omega) (by omega)
        omega
      by_cases hs : sz (foldB (c.toNat % 2 ^ (8 - lead c)) l2) = lead c
      · rw [if_pos hs] at he ⊢
        refine ⟨?_, by simp; omega, by simp; omega, hlt⟩
        have hb := be_foldB l2 (c.toNat % 2 ^ (8 - lead c))
        have hfirst : first (lead c) (foldB (c.toNat % 2 ^ (8 - lead c)) l2) = c := by
          unfold first
          rw [← UInt8.toNat_inj, UInt8.toNat_ofNat']
          have : (if lead c < 9 then foldB (c.toNat % 2 ^ (8 - lead c)) l2 / 256 ^ (lead c - 1) else 0) = (if lead c < 9 then c.toNat % 2 ^ (8 - lead c) else 0) := by
            split
            · rw [← hlen2]; exact hb.2
            · rfl
          rw [this, ← hc.2.2]
          exact Nat.mod_eq_of_lt c.toNat_lt
        unfold num
        rw [hs, hfirst]
        rw [hlen2] at hb
        rw [hb.1]
        simp only
        have e1 : (b.take (p + 1 + (lead c - 1))).drop p = (b.take (p + 1)).drop p ++ (b.take (p + 1 + (lead c - 1))).drop (p + 1) := by
          have h2 := List.take_append_drop 1 ((b.take (p + 1 + (lead c - 1))).drop p)
          rw [List.drop_drop, List.take_drop, List.take_take, Nat.min_eq_left (by omega)] at h2
          exact h2.symm
        rw [e1, ← hl, ← hl2]
        rfl
      · rw [if_neg hs] at he
        simp [failR] at he

theorem blockR_at (pre post q : List UInt8) (hq : q.length < 2 ^ 64) (p : Nat) (hp : p = pre.length) :
    blockR ⟨pre ++ (num q.length ++ q) ++ post, p, 0⟩ = (⟨pre ++ (num q.length ++ q) ++ post, p + (num q.length ++ q).length, 0⟩, q) := by
  have hn : numR ⟨pre ++ (num q.length ++ q) ++ post, p, 0⟩ = (⟨pre ++ (num q.length ++ q) ++ post, p + (num q.length).length, 0⟩, q.length) := by
    have := numR_at pre (q ++ post) q.length hq p hp
    simpa [List.append_assoc] using this
  have ht := take_at (pre ++ num q.length) q post (p + (num q.length).length) (by simp [hp])
  have ht' : takeR ⟨pre ++ (num q.length ++ q) ++ post, p + (num q.length).length, 0⟩ q.length = (⟨pre ++ (num q.length ++ q) ++ post, p + (num q.length).length + q.length, 0⟩, some q) := by
    simpa [List.append_assoc] using ht
  unfold blockR
  rw [if_neg (by simp), hn]
  simp only
  rw [if_neg (by simp), if_neg (by simp [hp]; omega), ht']
  simp [Nat.add_assoc]

theorem blockR_back (b : List UInt8) (he : (blockR ⟨b, 0, 0⟩).1.e = 0) :
    num (blockR ⟨b, 0, 0⟩).2.length ++ (blockR ⟨b, 0, 0⟩).2 = b.take (blockR ⟨b, 0, 0⟩).1.p ∧ (blockR ⟨b, 0, 0⟩).1.p ≤ b.length ∧ (blockR ⟨b, 0, 0⟩).2.length ≤ b.length := by
  unfold blockR at he ⊢
  rw [if_neg (by simp)] at he ⊢
  by_cases h1 : (numR ⟨b, 0, 0⟩).1.e ≠ 0
  · rw [if_pos h1] at he; exact absurd he h1
  · rw [if_neg h1] at he ⊢
    have hbs := numR_bs ⟨b, 0, 0⟩
    obtain ⟨hn, hp, _, hlt⟩ := numR_back b 0 (Nat.zero_le _) (by simpa using h1)
    by_cases h2 : (numR ⟨b, 0, 0⟩).1.bs.length - (numR ⟨b, 0, 0⟩).1.p < (numR ⟨b, 0, 0⟩).2
    · rw [if_pos h2] at he
      simp only [failR] at he
      split at he <;> simp_all
    · rw [if_neg h2] at he ⊢
      rcases hT : takeR (numR ⟨b, 0, 0⟩).1 (numR ⟨b, 0, 0⟩).2 with ⟨s, _ | l⟩
      · rw [hT] at he; exact absurd he (takeR_none hT).2.2
      · obtain ⟨_, hs, hl, hlen, hle⟩ := takeR_some hT
        simp only [Option.getD_some]
        rw [hbs] at hl hle
        rw [hlen, hn, hs, hl]
        simp only [List.drop_zero]
        refine ⟨?_, ?_, ?_⟩
        · have h3 := List.take_append_drop (numR ⟨b, 0, 0⟩).1.p (b.take ((numR ⟨b, 0, 0⟩).1.p + (numR ⟨b, 0, 0⟩).2))
          rw [List.take_take, Nat.min_eq_left (by omega)] at h3
          exact h3
        · simp only at hle; omega
        · simp only at hle; omega

theorem valLE_word : ∀ (k n : Nat), valLE (word k n) = n % 256 ^ k
  | 0, n => by simp [word, valLE, Nat.mod_one]
  | k + 1, n => by
    have e : valLE (word (k + 1) n) = (UInt8.ofNat n).toNat + 256 * valLE (word k (n / 256)) := rfl
    have hp : 256 ^ (k + 1) = 256 * 256 ^ k := by rw [Nat.pow_succ, Nat.mul_comm]
    rw [e, valLE_word k, UInt8.toNat_ofNat', hp, Nat.mod_mul]

theorem wordR_at (pre post : List UInt8) (k n p : Nat) (hp : p = pre.length) : wordR ⟨pre ++ word k n ++ post, p, 0⟩ k = (⟨pre ++ word k n ++ post, p + k, 0⟩, n % 256 ^ k) := by
  have ht := take_at pre (word k n) post p hp
  rw [word_length] at ht
  unfold wordR
  rw [ht]
  simp [valLE_word]
theorem digR_at (pre d : List UInt8) (hd : d.length = 32) (p : Nat) (hp : p = pre.length) : digR ⟨pre ++ d, p, 0⟩ = (⟨pre ++ d, p + 32, 0⟩, d) := by
  have ht := take_at pre d [] p hp
  rw [hd, List.append_nil] at ht
  unfold digR
  rw [ht]
  rfl
end Go.Proofs.Ytglekpigobingaa
