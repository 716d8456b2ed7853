import Derived.Test.YtglekpigobingaaOctH
namespace Go.Proofs.Ytglekpigobingaa
open Go.RowKit

set_option maxHeartbeats 1000000 in
theorem refblock_any (A : Option Addr) (c : Nat) (l : List UInt8) (B : Option Addr) (d : Nat) (p : List UInt8) (w : World) (hA : Bs w A c l) (hB : Bs w B d p) (hl : l.length + p.length ≤ 140737488354000) :
    Calls Try.prog 13 #[.slice A l.length c, .slice B p.length d] w fun e w' => ∃ v, e = .returned v ∧ w'.ownsRow w.heap.size 5 1 v (l ++ num p.length ++ p).length ((l ++ num p.length ++ p).map bc) ∧ Below w.heap.size w w' := by
  obtain ⟨i0, hi0, hz0, hz1, hz2⟩ := info_parts u8_info
  have hN := num_length p.length
  have h9 := sz_le p.length
  obtain ⟨q, hq⟩ : ∃ q, q = num p.length := ⟨_, rfl⟩
  rw [← hq] at hN ⊢
  have hq9 : q.length ≤ 9 := by omega
  have HQ := Lib.hid hq
  clear hN h9 hq
  go_enter Try.func13, Try.ntmps13
  go_wp2_with fail
  refine (refnum_any A c l p.length _ hA (by omega) (by omega)).mono ?_
  rw [← HQ.out]
  rintro e w2 ⟨v2, rfl, hown2, hb2⟩
  have hB2 := Sl.below hB hb2
  have hz := hb2.size
  go_wp2_with (at_builtin; refine wpList_append_sl _ rfl (.tmp 9) (.tmp 10) 24 rfl w.heap.size 5 i0 _ 1 1 Try.underlying24 hi0 hz0 hz1 hz2 rfl (by omega) _ _ _ rfl hown2 B p.length d (p.map bc) rfl hB2 (bytes_one p) (by simp [maxLen]; omega) (by simp; omega) hb2.size ?_; intro v' w3 hown3 hg3 hat3)
  go_ret
  refine ⟨_, rfl, ?_, hb2.grown hg3 hb2.size (fun k hk => (hown2.lt k hk).1)⟩
  simpa [Nat.add_assoc] using hown3

set_option maxHeartbeats 1000000 in
theorem refword_any (A : Option Addr) (c : Nat) (l : List UInt8) (n : Nat) (size : Int) (w : World) (hB : Bs w A c l) (hl : l.length ≤ 140737488355000) :
    Calls Try.prog 15 #[.slice A l.length c, .int .u64 (n : Int), .int .i64 size] w fun e w' => ∃ v, e = .returned v ∧ w'.ownsRow w.heap.size 5 1 v (l ++ word (ksize size) n).length ((l ++ word (ksize size) n).map bc) ∧ Below w.heap.size w w' := by
  obtain ⟨i0, hi0, hz0, hz1, hz2⟩ := info_parts u8_info
  obtain ⟨k, hk⟩ : ∃ k, k = ksize size := ⟨_, rfl⟩
  have hk1 : min (max size 1) 8 = (k : Int) := by rw [hk]; unfold ksize; omega
  have hk8 : k ≤ 8 := by omega
  rw [← hk]
  clear hk
  go_enter Try.func15, Try.ntmps15
  go_wp2_with (at_builtin; refine wpList_append_sl _ rfl (.tmp 9) (.tmp 10) 24 rfl w.heap.size 5 i0 _ 1 1 Try.underlying24 hi0 hz0 hz1 hz2 rfl (by omega) (.slice (some ⟨w.heap.size, 0, none⟩) 0 0) 0 [] rfl (World.ownsRow_lit w #[] 0 (Nat.le_refl _) (by simp [maxLen]) (by simp)) A l.length c (l.map bc) rfl (hB.alloc _) (bytes_one l) (by unfold maxLen; omega) (by omega) (by simp) ?_; intro v1 w1 hown1 hg1 hat1)
  have hb1 : Below w.heap.size w w1 := ((Below.refl _ w).alloc (Nat.le_refl _) _).grown hg1 (by simp) (by simp [Value.ownBlock])
  clear hg1 hat1
  go_loopw [7, 8] (fun o i wr => ∃ j : Nat, j ≤ k ∧ i = .int .i64 (j : Int) ∧ wr.ownsRow w.heap.size 5 1 o (l.length + j) ((l ++ word j n).map bc) ∧ Below w.heap.size w wr) (fun _ i _ => k - (intOf i).toNat)
  case atStart =>
    refine ⟨0, by omega, rfl, by simpa [word] using hown1, hb1⟩
  case round =>
    obtain ⟨j, hj, rfl, hown, hb⟩ := hrel
    by_cases hjk : j < k
    · have hs := word_snoc j n
      obtain ⟨q, hq⟩ : ∃ q, q = UInt8.ofNat (n / 256 ^ j) := ⟨_, rfl⟩
      have hv : ((n : Int) / 2 ^ (8 * j) % 256) = (q.toNat : Int) := by rw [hq]; exact be_val n j
      rw [← hq] at hs
      have HS := Lib.hid hs
      clear hs hq
      go_wp2_with (at_builtin; refine wpList_append_sl _ rfl (.tmp 19) (.tmp 26) 24 rfl w.heap.size 5 i0 _ 1 1 Try.underlying24 hi0 hz0 hz1 hz2 rfl (by omega) _ _ _ rfl (hown.alloc _) (some ⟨wr.heap.size, 0, none⟩) 1 1 [bc q] rfl (Sl.one wr _ 5) (by simp [bc, Value.oneCell']) (by unfold maxLen; omega) (by omega) (by have := hb.size; simp; omega) ?_; intro v3 w3 hown3 hg3 hat3)
      have hb3 : Below w.heap.size w w3 := (hb.alloc hb.size _).grown hg3 (by have := hb.size; simp; omega) (fun g hg => (hown.lt g hg).1)
      clear hg3 hat3
      go_roundw
      case rel =>
        refine ⟨j + 1, by omega, by go_num, ?_, hb3⟩
        rw [HS.out]
        simpa [Nat.add_assoc] using hown3
      case measure => simp [intOf]; omega
    · have : j = k := by omega
      subst this
      go_wp2
      go_ret
      refine ⟨_, rfl, ?_, hb⟩
      simpa [word_length] using hown
end Go.Proofs.Ytglekpigobingaa
