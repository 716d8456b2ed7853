import Derived.Test.YtglekpigobingaaOctF
namespace Go.Proofs.Ytglekpigobingaa
open Go.RowKit

/-- the word of k bytes: the lowest first -/
def word : Nat → Nat → List UInt8
  | 0, _ => []
  | k + 1, n => UInt8.ofNat n :: word k (n / 256)
theorem word_length : ∀ k n, (word k n).length = k
  | 0, _ => rfl
  | k + 1, n => by simp [word, word_length k]
theorem word_snoc : ∀ (k n : Nat), word (k + 1) n = word k n ++ [UInt8.ofNat (n / 256 ^ k)]
  | 0, n => by simp [word]
  | k + 1, n => by
    have h := word_snoc k (n / 256)
    have e : word (k + 1 + 1) n = UInt8.ofNat n :: word (k + 1) (n / 256) := rfl
    rw [e, h, Nat.div_div_eq_div_mul, show 256 * 256 ^ k = 256 ^ (k + 1) from by rw [Nat.pow_succ, Nat.mul_comm]]
    rfl
def ksize (size : Int) : Nat := (max 1 (min size 8)).toNat

theorem own_any (A : Option Addr) (c : Nat) (l : List UInt8) (w : World) (hB : Bs w A c l) (hl : l.length ≤ 140737488355000) :
    Calls Try.prog 10 #[.slice A l.length c] w fun e w' => ∃ v, e = .returned v ∧ w'.ownsRow w.heap.size 5 1 v l.length (l.map bc) ∧ Below w.heap.size w w' := by
  obtain ⟨i0, hi0, hz0, hz1, hz2⟩ := info_parts u8_info
  go_enter Try.func10, Try.ntmps10
  go_wp2_with (at_builtin; refine wpList_append_sl _ rfl (.tmp 3) (.tmp 4) 24 rfl w.heap.size 5 i0 _ 1 1 Try.underlying24 hi0 hz0 hz1 hz2 rfl (by omega) (.slice (some ⟨w.heap.size, 0, none⟩) 0 0) 0 [] rfl (World.ownsRow_lit w #[] 0 (Nat.le_refl _) (by simp [maxLen]) (by simp)) A l.length c (l.map bc) rfl (hB.alloc _) (bytes_one l) (by unfold maxLen; omega) (by omega) (by simp) ?_; intro v' w2 hown2 hg2 hat2)
  go_ret
  exact ⟨_, rfl, by simpa using hown2, ((Below.refl _ w).alloc (Nat.le_refl _) _).grown hg2 (by simp) (by simp [Value.ownBlock])⟩

set_option maxHeartbeats 1000000 in
theorem oword_any (A : Option Addr) (c : Nat) (l : List UInt8) (n : Nat) (size : Int) (w : World) (hB : Bs w A c l) (hn : n < 2 ^ 64) (hl : l.length ≤ 140737488355000) :
    Calls Try.prog 14 #[.slice A l.length c, .int .u64 (n : Int), .int .i64 size] w fun e w' => ∃ v, e = .returned v ∧ w'.ownsRow w.heap.size 5 1 v (l ++ word (ksize size) n).length ((l ++ word (ksize size) n).map bc) ∧ Below w.heap.size w w' := by
  obtain ⟨i0, hi0, hz0, hz1, hz2⟩ := info_parts u8_info
  obtain ⟨k, hk⟩ : ∃ k, k = ksize size := ⟨_, rfl⟩
  have hk1 : max 1 (min size 8) = (k : Int) := by rw [hk]; unfold ksize; omega
  have hk8 : k ≤ 8 := by omega
  rw [← hk]
  have HK := Lib.hid hk1
  clear hk hk1
  go_enter Try.func14, Try.ntmps14
  go_wp2_with fail
  refine (grown_any A c l 8 _ hB (by omega) (by omega)).mono ?_
  rintro e w1 ⟨v, rfl, hown1, hb1⟩
  go_wp2_with fail
  refine (clamp_any size _).mono ?_
  rw [HK.out]
  rintro e w' ⟨rfl, rfl⟩
  go_wp2_with fail
  go_loopw [1, 7, 12] (fun nn o i wr => ∃ j : Nat, j ≤ k ∧ i = .int .i64 (j : Int) ∧ nn = .int .u64 ((n / 256 ^ j : Nat) : Int) ∧ wr.ownsRow w.heap.size 5 1 o (l.length + j) ((l ++ word j n).map bc) ∧ Below w.heap.size w wr) (fun _ _ i _ => k - (intOf i).toNat)
  case atStart =>
    refine ⟨0, by omega, rfl, by simp, by simpa [word] using hown1, hb1⟩
  case round =>
    obtain ⟨j, hj, rfl, rfl, hown, hb⟩ := hrel
    by_cases hjk : j < k
    · have hlt : n / 256 ^ j < 18446744073709551616 := Nat.lt_of_le_of_lt (Nat.div_le_self _ _) hn
      have hs := word_snoc j n
      have hd : n / 256 ^ (j + 1) = n / 256 ^ j / 256 := by rw [Nat.pow_succ, Nat.div_div_eq_div_mul]
      obtain ⟨y, hy⟩ : ∃ y, y = n / 256 ^ j := ⟨_, rfl⟩
      rw [← hy] at hlt hs hd ⊢
      have HS := Lib.hid hs
      have HD := Lib.hid hd
      clear hs hd hy
      obtain ⟨q, hq⟩ : ∃ q, q = UInt8.ofNat y := ⟨_, rfl⟩
      have hv : ((y : Int) % 256) = (q.toNat : Int) := by rw [hq, UInt8.toNat_ofNat']; omega
      have HQ := Lib.hid hq
      clear hq
      go_wp2_with (at_builtin; refine wpList_append_sl _ rfl (.tmp 14) (.tmp 17) 24 rfl w.heap.size 5 i0 _ 1 1 Try.underlying24 hi0 hz0 hz1 hz2 rfl (by omega) _ _ _ rfl (hown.alloc _) (some ⟨wr.heap.size, 0, none⟩) 1 1 [bc q] rfl (Sl.one wr _ 5) (by simp [bc, Value.oneCell']) (by unfold maxLen; omega) (by omega) (by have := hb.size; simp; omega) ?_; intro v3 w3 hown3 hg3 hat3)
      have hb3 : Below w.heap.size w w3 := (hb.alloc hb.size _).grown hg3 (by have := hb.size; simp; omega) (fun g hg => (hown.lt g hg).1)
      clear hg3 hat3
      go_roundw
      case rel =>
        refine ⟨j + 1, by omega, by go_num, by rw [HD.out]; go_num, ?_, hb3⟩
        rw [HS.out, ← HQ.out]
        simpa [Nat.add_assoc] using hown3
      case measure => simp [intOf]; omega
    · have : j = k := by omega
      subst this
      go_wp2
      go_ret
      refine ⟨_, rfl, ?_, hb⟩
      simpa [word_length] using hown
end Go.Proofs.Ytglekpigobingaa
