import Derived.Test.YtglekpigobingaaShelf
import Derived.Test.YtglekpigobingaaMem
import Derived.Test.YtglekpigobingaaOctM
namespace Go.Proofs.Ytglekpigobingaa
open Go.RowKit

theorem ret_int {k : IntKind} {a b : Int} (h : a = b) : Ending.returned (.int k a) = .returned (.int k b) := by rw [h]
theorem u8_info : (Try.prog.info? 5).map (fun i => (i.zero, i.size, i.bytes)) = some (some (.int .u8 0), 1, 1) := by kernel_rfl

theorem clamp_any (n : Int) (w : World) : Calls Try.prog 28 #[.int .i64 n] w fun e w' => e = .returned (.int .i64 (max 1 (min n 8))) ∧ w = w' := by
  go_enter Try.func28, Try.ntmps28
  go_wp2
  all_goals
    go_ret
    refine ⟨ret_int ?_, rfl⟩
    try split at *
    all_goals omega

theorem bitLen_le64 (n : Nat) (hn : n < 2 ^ 64) : Lib.bitLen n ≤ 64 := Lib.bitLen_le n 64 (Nat.le_refl _) hn

theorem size_any (n : Nat) (hn : n < 2 ^ 64) (w : World) : Calls Try.prog 25 #[.int .u64 (n : Int)] w fun e w' => e = .returned (.int .i64 (sz n : Nat)) ∧ w = w' := by
  have h63 := bitLen_le64 n hn
  go_enter Try.func25, Try.ntmps25
  go_wp2_with (go_at_call 32; refine (Try.bits_Len64 _ _ (by omega) (by omega)).mono ?_; rintro e w' ⟨rfl, rfl⟩)
  all_goals
    go_ret
    refine ⟨ret_int ?_, rfl⟩
    unfold sz
    omega

set_option maxHeartbeats 400000 in
theorem grown_any (A : Option Addr) (c : Nat) (l : List UInt8) (more : Int) (w : World) (h : Bs w A c l) (h0 : 0 ≤ more) (h1 : (l.length : Int) + more ≤ 140737488355328) :
    Calls Try.prog 26 #[.slice A l.length c, .int .i64 more] w fun e w' => ∃ v, e = .returned v ∧ w'.ownsRow w.heap.size 5 1 v l.length (l.map bc) ∧ Below w.heap.size w w' := by
  obtain ⟨i0, hi0, hz0, hz1, hz2⟩ := info_parts u8_info
  obtain ⟨m, rfl⟩ := Int.eq_ofNat_of_zero_le h0
  have hb1 : i0.bytes * (l.length + m) ≤ 281474976710656 := by rw [hz2]; omega
  have hb2 : l.length + m ≤ maxLen := by unfold maxLen; omega
  go_enter Try.func26, Try.ntmps26
  go_wp2_with (first
    | (at_make; refine wpList_make_own _ rfl _ _ 24 rfl w.heap.size 5 i0 _ 1 Try.underlying24 hi0 hz0 hz1 _ _ _ (l.length + m) rfl rfl (by omega) hb1 hb2 (Nat.le_refl _) ?_; intro w1 hown1 hg1)
    | (at_builtin; refine wpList_append_sl _ rfl (.tmp 9) (.tmp 10) 24 rfl w.heap.size 5 i0 _ 1 1 Try.underlying24 hi0 hz0 hz1 hz2 rfl (by omega) (.slice (some ⟨w.heap.size, 0, none⟩) 0 (l.length + m)) 0 [] rfl hown1 A l.length c (l.map bc) rfl (h.grown hg1 (by simp)) (bytes_one l) (by omega) (by omega) hg1.size ?_; intro v' w2 hown2 hg2 hat2))
  go_ret
  refine ⟨v', rfl, by simpa using hown2, ?_⟩
  refine (Below.grown (Below.refl _ _) hg1 (Nat.le_refl _) (by simp)).grown hg2 hg1.size ?_
  simp [Value.ownBlock]
end Go.Proofs.Ytglekpigobingaa
