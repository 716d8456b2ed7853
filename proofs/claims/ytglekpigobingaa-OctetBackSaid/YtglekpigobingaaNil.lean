import Derived.Test.YtglekpigobingaaOctF
import Derived.Test.YtglekpigobingaaDig
namespace Go.Proofs.Ytglekpigobingaa
open Go.RowKit

theorem nerr_any (w : World) : Calls Try.prog 21 #[.pointer none] w fun e w' => e = .returned (.int .i64 1) ∧ w = w' := by
  go_enter Try.func21, Try.ntmps21
  go_wp2
  go_ret
  exact ⟨rfl, rfl⟩
theorem nleft_any (w : World) : Calls Try.prog 23 #[.pointer none] w fun e w' => e = .returned (.int .i64 0) ∧ w = w' := by
  go_enter Try.func23, Try.ntmps23
  go_wp2
  go_ret
  exact ⟨rfl, rfl⟩
theorem nend_any (w : World) : Calls Try.prog 22 #[.pointer none] w fun e w' => e = .returned (.int .i64 1) ∧ w = w' := by
  go_enter Try.func22, Try.ntmps22
  go_wp2_with (go_at_call 21; refine (nerr_any _).mono ?_; rintro e w' ⟨rfl, rfl⟩)
  go_ret
  exact ⟨rfl, rfl⟩
theorem ntake_any (n : Int) (w : World) : Calls Try.prog 29 #[.pointer none, .int .i64 n] w fun e w' => e = .returned (.tuple #[.slice none 0 0, .bool false]) ∧ w = w' := by
  go_enter Try.func29, Try.ntmps29
  go_wp2_with (go_at_call 21; refine (nerr_any _).mono ?_; rintro e w' ⟨rfl, rfl⟩)
  go_ret2
  exact ⟨rfl, rfl⟩
theorem nnum_any (w : World) : Calls Try.prog 16 #[.pointer none] w fun e w' => e = .returned (.int .u64 0) ∧ w = w' := by
  go_enter Try.func16, Try.ntmps16
  go_wp2_with (go_at_call 29; refine (ntake_any _ _).mono ?_; rintro e w' ⟨rfl, rfl⟩)
  go_ret
  exact ⟨rfl, rfl⟩
theorem nblock_any (w : World) : Calls Try.prog 17 #[.pointer none] w fun e w' => e = .returned (.slice none 0 0) ∧ w = w' := by
  go_enter Try.func17, Try.ntmps17
  go_wp2_with (go_at_call 21; refine (nerr_any _).mono ?_; rintro e w' ⟨rfl, rfl⟩)
  go_ret
  exact ⟨rfl, rfl⟩
theorem nword_any (n : Int) (w : World) : Calls Try.prog 18 #[.pointer none, .int .i64 n] w fun e w' => e = .returned (.int .u64 0) ∧ w = w' := by
  go_enter Try.func18, Try.ntmps18
  go_wp2_with (first | (go_at_call 28; refine (clamp_any _ _).mono ?_; rintro e w' ⟨rfl, rfl⟩) | (go_at_call 29; refine (ntake_any _ _).mono ?_; rintro e w' ⟨rfl, rfl⟩))
  refine wp_loop_rounds 1 ?_
  rw [rounds_succ]
  go_wp2
  go_ret
  exact ⟨rfl, rfl⟩
theorem ntakeb_any (n : Int) (w : World) : Calls Try.prog 19 #[.pointer none, .int .i64 n] w fun e w' => e = .returned (.slice none 0 0) ∧ w = w' := by
  have hmx : max 0 n = (n.toNat : Int) := by omega
  go_enter Try.func19, Try.ntmps19
  go_wp2_with (go_at_call 29; refine (ntake_any _ _).mono ?_; rintro e w' ⟨rfl, rfl⟩)
  go_ret
  exact ⟨rfl, rfl⟩
theorem zero32 : (#[.int .u8 0, .int .u8 0, .int .u8 0, .int .u8 0, .int .u8 0, .int .u8 0, .int .u8 0, .int .u8 0, .int .u8 0, .int .u8 0, .int .u8 0, .int .u8 0, .int .u8 0, .int .u8 0, .int .u8 0, .int .u8 0, .int .u8 0, .int .u8 0, .int .u8 0, .int .u8 0, .int .u8 0, .int .u8 0, .int .u8 0, .int .u8 0, .int .u8 0, .int .u8 0, .int .u8 0, .int .u8 0, .int .u8 0, .int .u8 0, .int .u8 0, .int .u8 0] : Array Value) = dg (List.replicate 32 0) := by kernel_rfl
theorem ndigest_any (w : World) : Calls Try.prog 20 #[.pointer none] w fun e w' => e = .returned (.agg (dg (List.replicate 32 0))) ∧ Below w.heap.size w w' := by
  have hcopy : ∀ W : World, (Builtin.copy_ #[24, 24] 3 #[.slice (some ⟨w.heap.size, 0, none⟩) 32 32, .slice none 0 0]).run Try.prog W = .ok (goInt 0) W := fun W => run_copy_nil (P := Try.prog) W 24 24 3 5 _ 32 32 Try.underlying24 (by kernel_rfl)
  obtain ⟨Z, hZ⟩ : ∃ Z, Z = dg (List.replicate 32 0) := ⟨_, rfl⟩
  rw [← hZ]
  have hz1 : Z.size = 32 := by rw [hZ, dg_size]; simp
  have hz2 : Z.all (·.oneCell') = true := by rw [hZ]; exact dg_one _
  have HZ := Lib.hid hZ
  have HS := Lib.hid hz1
  have HA := Lib.hid hz2
  clear hZ hz1 hz2
  go_enter Try.func20, Try.ntmps20
  go_wp2_with fail
  rw [zero32, ← HZ.out]
  refine (ntake_any _ _).mono ?_
  rintro e w' ⟨rfl, rfl⟩
  have hg : (w.alloc (.cells Z 38)).heap[w.heap.size]? = some (.cells Z 38 (0, 0)) := heap_alloc_new _ _
  have HG := Lib.hid hg
  clear hg
  go_wp2_with (first | (refine wpList_load_row rfl 38 _ rfl _ rfl _ _ _ _ HG.out Try.underlying38 rfl (by rw [HS.out]; kernel_rfl) ?_) | (refine wpList_store_row rfl 38 _ _ rfl w.heap.size Z rfl rfl _ _ HG.out (by rw [HS.out]; kernel_rfl) rfl HA.out ?_))
  rw [setRow_self _ _ _ _ _ HG.out]
  exact bodyPost_ret (v := .agg Z) (results_cell_row rfl _ _ w.heap.size 38 Z (0, 0) _ rfl HG.out Try.underlying38 rfl (by rw [HS.out]; kernel_rfl)) rfl ⟨rfl, (Below.refl _ w).alloc (Nat.le_refl _) _⟩

theorem dig_eq {a b : List UInt8} (ha : a.length = 32) (hb : b.length = 32) (w : World) : (Op.equalIn 10000 38 (.agg (dg a)) (.agg (dg b))).run Try.prog w = .ok (a == b) w :=
  dg_eql Try.underlying38 Try.underlying5 (by kernel_rfl) (by kernel_rfl) (by kernel_rfl) (by kernel_rfl) (of_decide_eq_true (by kernel_rfl)) ha hb w

set_option maxHeartbeats 1000000 in
theorem nil_walk (n : Int) (w : World) : Calls Try.prog 5 #[.int .i64 n] w fun e w' => e = .returned (.bool true) ∧ Below w.heap.size w w' := by
  obtain ⟨Z, hZ⟩ : ∃ Z, Z = dg (List.replicate 32 0) := ⟨_, rfl⟩
  have hD := fun W => ndigest_any W
  rw [← hZ] at hD
  have heq : ∀ W : World, (Op.equalIn 10000 38 (.agg Z) (.agg #[.int .u8 0, .int .u8 0, .int .u8 0, .int .u8 0, .int .u8 0, .int .u8 0, .int .u8 0, .int .u8 0, .int .u8 0, .int .u8 0, .int .u8 0, .int .u8 0, .int .u8 0, .int .u8 0, .int .u8 0, .int .u8 0, .int .u8 0, .int .u8 0, .int .u8 0, .int .u8 0, .int .u8 0, .int .u8 0, .int .u8 0, .int .u8 0, .int .u8 0, .int .u8 0, .int .u8 0, .int .u8 0, .int .u8 0, .int .u8 0, .int .u8 0, .int .u8 0])).run Try.prog W = .ok true W := by
    intro W
    rw [zero32, hZ, dig_eq (by simp) (by simp)]
    rw [beq_self_eq_true]
  have HD := Lib.hid hD
  have HZ := Lib.hid hZ
  clear hD hZ
  go_enter Try.func5, Try.ntmps5
  go_wp2_with (first | (go_at_call 8; refine (lives_any _).mono ?_; rintro e w1 ⟨rfl, hb1⟩) | (go_at_call 16; refine (nnum_any _).mono ?_; rintro e w' ⟨rfl, rfl⟩) | (go_at_call 17; refine (nblock_any _).mono ?_; rintro e w' ⟨rfl, rfl⟩) | (go_at_call 18; refine (nword_any _ _).mono ?_; rintro e w' ⟨rfl, rfl⟩) | (go_at_call 19; refine (ntakeb_any _ _).mono ?_; rintro e w' ⟨rfl, rfl⟩) | (go_at_call 20; refine (HD.out _).mono ?_; rintro e w2 ⟨rfl, hb2⟩) | (go_at_call 21; refine (nerr_any _).mono ?_; rintro e w' ⟨rfl, rfl⟩) | (go_at_call 22; refine (nend_any _).mono ?_; rintro e w' ⟨rfl, rfl⟩) | (go_at_call 23; refine (nleft_any _).mono ?_; rintro e w' ⟨rfl, rfl⟩))
  go_ret
  exact ⟨rfl, hb1.trans (hb2.mono hb1.size)⟩
end Go.Proofs.Ytglekpigobingaa
