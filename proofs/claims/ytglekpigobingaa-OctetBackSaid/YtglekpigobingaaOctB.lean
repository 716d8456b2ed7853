import Derived.Test.YtglekpigobingaaOctA
namespace Go.Proofs.Ytglekpigobingaa
open Go.RowKit

theorem bl_pos (n : Nat) (h0 : n ≠ 0) (h : n < 2 ^ 64) : 1 ≤ Lib.bitLen n := by rw [Lib.bitLen_half n h0 h]; omega
theorem bl_gt (n k : Nat) (h : 2 ^ k ≤ n) (hn : n < 2 ^ 64) : k < Lib.bitLen n := by
  rw [Lib.bitLen_shift k n h hn]
  have h1 : 0 < n / 2 ^ k := Nat.div_pos h (Nat.two_pow_pos k)
  have h2 : n / 2 ^ k < 2 ^ 64 := Nat.lt_of_le_of_lt (Nat.div_le_self _ _) hn
  have := bl_pos (n / 2 ^ k) (by omega) h2
  omega
theorem sz_room (n : Nat) (h : n < 2 ^ 64) (h9 : sz n < 9) : n < 2 ^ (7 * sz n) := by
  rcases Nat.lt_or_ge n (2 ^ (7 * sz n)) with h1 | h1
  · exact h1
  · have := bl_gt n _ h1 h
    unfold sz at this h9
    omega
theorem sz_least (n k : Nat) (h : n < 2 ^ (7 * k)) (h1 : 1 ≤ k) (h9 : k ≤ 9) : sz n ≤ k := by
  have := Lib.bitLen_le n (7 * k) (by omega) h
  unfold sz
  omega

theorem or_first : ∀ (k : Fin 8) (x : Fin 128), x.val < 2 ^ (7 - k.val) →
    bits BinOp.or IntKind.u8 (bits BinOp.xor IntKind.u8 (if IntKind.u8.signed = true then -1 else IntKind.u8.max) (255 / 2 ^ k.val)) (x.val : Int) = ((256 - 2 ^ (8 - k.val) + x.val : Nat) : Int) := by
  decide +kernel
theorem first_small (k n : Nat) (h1 : 1 ≤ k) (h9 : k < 9) (h : n < 2 ^ (7 * k)) : n / 256 ^ (k - 1) < 2 ^ (8 - k) := by
  rw [Nat.div_lt_iff_lt_mul (Nat.pow_pos (by omega)), show (256 : Nat) = 2 ^ 8 from rfl, ← Nat.pow_mul, ← Nat.pow_add, show 8 - k + 8 * (k - 1) = 7 * k from by omega]
  exact h
theorem first_low (k n : Nat) (h1 : 1 ≤ k) (h9 : k < 9) (h : n < 2 ^ (7 * k)) :
    bits BinOp.or IntKind.u8 (bits BinOp.xor IntKind.u8 (if IntKind.u8.signed = true then -1 else IntKind.u8.max) (255 / 2 ^ (k - 1))) ((n : Int) / 2 ^ (8 * (k - 1)) % 256) = ((first k n).toNat : Int) := by
  have hs := first_small k n h1 h9 h
  have hp : 2 ^ (8 - k) ≤ 128 := by
    have : 2 ^ (8 - k) ≤ 2 ^ 7 := Nat.pow_le_pow_right (by omega) (by omega)
    omega
  have e1 : ((n : Int) / 2 ^ (8 * (k - 1)) % 256) = ((n / 256 ^ (k - 1) : Nat) : Int) := by
    have : (2 : Int) ^ (8 * (k - 1)) = ((256 ^ (k - 1) : Nat) : Int) := by
      rw [show (256 : Nat) = 2 ^ 8 from rfl, ← Nat.pow_mul]; simp
    rw [this, ← Int.natCast_ediv]
    generalize n / 256 ^ (k - 1) = x at hs
    omega
  have := or_first ⟨k - 1, by omega⟩ ⟨n / 256 ^ (k - 1), by omega⟩ (by simpa [show 7 - (k - 1) = 8 - k from by omega] using hs)
  rw [e1]
  simp only at this
  rw [this, show 8 - (k - 1) = 9 - k from by omega]
  have hq : 2 ^ (9 - k) = 2 * 2 ^ (8 - k) := by rw [show 9 - k = (8 - k) + 1 from by omega, Nat.pow_succ]; omega
  unfold first
  rw [if_pos h9]
  congr 1
  rw [UInt8.toNat_ofNat']
  omega
theorem first_high (n : Nat) : bits BinOp.xor IntKind.u8 (if IntKind.u8.signed = true then -1 else IntKind.u8.max) (255 / 2 ^ (9 - 1)) = ((first 9 n).toNat : Int) := by
  have h : first 9 n = 255 := by unfold first; rw [if_neg (by omega)]; rfl
  rw [h]
  decide +kernel

theorem be_val (n i : Nat) : ((n : Int) / 2 ^ (8 * i) % 256) = ((UInt8.ofNat (n / 256 ^ i)).toNat : Int) := by
  have : (2 : Int) ^ (8 * i) = ((256 ^ i : Nat) : Int) := by
    rw [show (256 : Nat) = 2 ^ 8 from rfl, ← Nat.pow_mul]; simp
  rw [this, ← Int.natCast_ediv, UInt8.toNat_ofNat']
  omega

set_option maxHeartbeats 1000000 in
theorem number_any (A : Option Addr) (c : Nat) (l : List UInt8) (n : Nat) (w : World) (h : Bs w A c l) (hn : n < 2 ^ 64) (hl : l.length ≤ 140737488355000) :
    Calls Try.prog 9 #[.slice A l.length c, .int .u64 (n : Int)] w fun e w' => ∃ v, e = .returned v ∧ w'.ownsRow w.heap.size 5 1 v (l ++ num n).length ((l ++ num n).map bc) ∧ Below w.heap.size w w' := by
  obtain ⟨i0, hi0, hz0, hz1, hz2⟩ := info_parts u8_info
  have k1 := sz_pos n
  have k9 := sz_le n
  have kr := sz_room n hn
  have hN : num n = first (sz n) n :: be (sz n - 1) n := rfl
  obtain ⟨k, hk⟩ : ∃ k, sz n = k := ⟨_, rfl⟩
  rw [hk] at k1 k9 kr hN
  have HN := Lib.hid hN
  clear hN
  go_enter Try.func9, Try.ntmps9
  go_wp2_with fail
  refine (size_any n hn _).mono ?_
  rintro e w' ⟨rfl, rfl⟩
  rw [hk]
  clear hk
  go_wp2_with fail
  refine (grown_any A c l _ _ h (by omega) (by omega)).mono ?_
  rintro e w1 ⟨v, rfl, hown1, hb1⟩
  have hf : (k < 9 ∧ bits BinOp.or IntKind.u8 (bits BinOp.xor IntKind.u8 (if IntKind.u8.signed = true then -1 else IntKind.u8.max) (255 / 2 ^ (k - 1))) ((n : Int) / 2 ^ (8 * (k - 1)) % 256) = ((first k n).toNat : Int)) ∨
      (¬ k < 9 ∧ bits BinOp.xor IntKind.u8 (if IntKind.u8.signed = true then -1 else IntKind.u8.max) (255 / 2 ^ (k - 1)) = ((first k n).toNat : Int)) := by
    by_cases h9 : k < 9
    · exact .inl ⟨h9, first_low k n k1 h9 (kr h9)⟩
    · have : k = 9 := by omega
      subst this
      exact .inr ⟨h9, first_high n⟩
  clear kr
  rcases hf with ⟨h9, hf⟩ | ⟨h9, hf⟩
  all_goals
    go_wp2_with (at_builtin; refine wpList_append_sl _ rfl (.tmp 28) (.tmp 30) 24 rfl w.heap.size 5 i0 _ 1 1 Try.underlying24 hi0 hz0 hz1 hz2 rfl (by omega) v l.length (l.map bc) rfl (hown1.alloc _) (some ⟨w1.heap.size, 0, none⟩) 1 1 [bc (first k n)] rfl (Sl.one w1 _ 5) (by simp [bc, Value.oneCell']) (by unfold maxLen; omega) (by omega) (by have := hb1.size; simp; omega) ?_; intro v' w2 hown2 hg2 hat2)
    clear hf
    have hb2 : Below w.heap.size w w2 := (hb1.alloc hb1.size _).grown hg2 (by have := hb1.size; simp; omega) (fun g hg => (hown1.lt g hg).1)
    clear hg2 hat2 hb1 hown1
    go_loopw [6, 8] (fun o i wr => ∃ j : Nat, j ≤ k - 1 ∧ i = .int .i64 ((j : Int) - 1) ∧ wr.ownsRow w.heap.size 5 1 o (l.length + 1 + (k - 1 - j)) ((l ++ first k n :: (be (k - 1) n).take (k - 1 - j)).map bc) ∧ Below w.heap.size w wr) (fun _ i _ => (intOf i + 1).toNat)
    case atStart =>
      refine ⟨k - 1, Nat.le_refl _, ?_, ?_, hb2⟩
      · congr 1; omega
      · simpa using hown2
    case round =>
      obtain ⟨j, hj, rfl, hown, hb⟩ := hrel
      by_cases hj0 : j = 0
      · subst hj0
        go_wp2
        go_ret
        have e1 : l ++ first k n :: List.take (k - 1 - 0) (be (k - 1) n) = l ++ num n := by
          rw [HN.out, List.take_of_length_le (by rw [be_length]; omega)]
        have e2 : l.length + 1 + (k - 1 - 0) = (l ++ num n).length := by
          rw [HN.out]; simp [be_length]; omega
        rw [e1, e2] at hown
        exact ⟨_, rfl, hown, hb⟩
      · obtain ⟨i, rfl⟩ : ∃ i, j = i + 1 := ⟨j - 1, by omega⟩
        rw [show (((i + 1 : Nat) : Int) - 1) = (i : Int) from by omega]
        have hv := be_val n i
        clear hj0
        go_wp2_with (at_builtin; refine wpList_append_sl _ rfl (.tmp 38) (.tmp 44) 24 rfl w.heap.size 5 i0 _ 1 1 Try.underlying24 hi0 hz0 hz1 hz2 rfl (by omega) _ _ _ rfl (hown.alloc _) (some ⟨wr.heap.size, 0, none⟩) 1 1 [bc (UInt8.ofNat (n / 256 ^ i))] rfl (Sl.one wr _ 5) (by simp [bc, Value.oneCell']) (by unfold maxLen; omega) (by omega) (by have := hb.size; simp; omega) ?_; intro v3 w3 hown3 hg3 hat3)
        have hb3 : Below w.heap.size w w3 := (hb.alloc hb.size _).grown hg3 (by have := hb.size; simp; omega) (fun g hg => (hown.lt g hg).1)
        clear hg3 hat3
        go_roundw
        case rel =>
          refine ⟨i, by omega, rfl, ?_, hb3⟩
          have e1 : l.length + 1 + (k - 1 - i) = l.length + 1 + (k - 1 - (i + 1)) + 1 := by omega
          have e2 := be_snoc (k - 1) n i (by omega)
          rw [e1, ← e2]
          simpa using hown3
        case measure => simp [intOf]
end Go.Proofs.Ytglekpigobingaa
