import Derived.Test.YtigcfbpgbenabaaRgE
import Derived.Test.YtigcfbpgbenabaaShelf
namespace Go.Proofs.Ytigcfbpgbenabaa
open Go.RowKit

theorem grow_any (n : Nat) (w : World) (hn : n ≤ 4000000000000) :
    Calls Try.prog 36 #[.slice none 0 0, .int .i64 (n : Int)] w fun e w' => ∃ v, e = .returned v ∧ w'.ownsRow w.heap.size 49 32 v 0 [] ∧ Ext w w' := by
  obtain ⟨i0, hi0, hz0, hz1, hz2⟩ := info_parts zero_dig
  by_cases h0 : n = 0
  · subst h0
    refine (Any8.slices_Grow_room Try.growD none 0 0 0 w (Nat.le_refl _) (by omega) (by omega) (by omega)).mono ?_
    rintro e w' ⟨rfl, rfl⟩
    exact ⟨_, rfl, World.ownsRow_nil _ _ _ _, Ext.refl w'⟩
  · refine (Any8.slices_Grow_grow Try.growD i0 _ hi0 hz0 (by rw [hz1]; omega) none 0 0 n [] w (Nat.le_refl _) (by omega) (by rw [hz2]; omega) (by omega) (by simp) (fun _ => rfl) (fun a h => by cases h)).mono ?_
    rintro e w' ⟨rfl, rfl⟩
    have hge := grownCap_ge w (0 + n) 0 49
    refine ⟨_, rfl, World.ownsRow_made w.drew _ _ (Nat.le_refl _) (grownCap_le_maxLen w _ _ _ (by unfold maxLen; omega)) ?_, ((Below.refl _ w).drew).alloc (Nat.le_refl _) _⟩
    have hz : (Value.agg (dg (List.replicate 32 0))).cells.size = 32 := by simp [Value.cells, dg_size]
    have hG : grownCap w (0 + n) 0 (Try.growD_ren.t 25) = grownCap w (0 + n) 0 49 := rfl
    rw [Array.size_append, Array.size_append, size_zeroCells, size_zeroCells, hz, hG]
    simp only [Array.size_empty]
    generalize grownCap w (0 + n) 0 49 = G at *
    omega

set_option maxHeartbeats 2000000 in
theorem concat_any (A : Option Addr) (c : Nat) (L : List (List UInt8)) (B : Option Addr) (d : Nat) (M : List (List UInt8)) (g : Nat) (w : World) (hA : Ds w A c L) (hB : Ds w B d M) (hg : w.heap[g]? = some (.cells #[.slice A L.length c, .slice B M.length d] 23 (0, 0)))
    (hl : L.length + M.length ≤ 4000000000000) :
    Calls Try.prog 31 #[.slice (some ⟨g, 0, none⟩) 2 2] w fun e w' => ∃ v, e = .returned v ∧ w'.ownsRow w.heap.size 49 32 v (L ++ M).length (cellsD (L ++ M)) ∧ Ext w w' := by
  obtain ⟨i0, hi0, hz0, hz1, hz2⟩ := info_parts zero_dig
  have HI := Lib.hid hi0
  have HZ0 := Lib.hid hz0
  have HZ1 := Lib.hid hz1
  have HZ2 := Lib.hid hz2
  clear hi0 hz0 hz1 hz2
  have q0 : w.cell? ⟨g, 0, none⟩ = some (.slice A L.length c) := by rw [cell_of_row _ _ _ _ _ _ hg]; rfl
  have q1 : w.cell? ⟨g, 1, none⟩ = some (.slice B M.length d) := by rw [cell_of_row _ _ _ _ _ _ hg]; rfl
  obtain ⟨T, hT⟩ : ∃ T, T = L.length + M.length := ⟨_, rfl⟩
  have hs : (L.length : Int) + (M.length : Int) = (T : Int) := by omega
  have hTl : T ≤ 4000000000000 := by omega
  have HT := Lib.hid hT
  clear hT
  go_enter Try.func31, Try.ntmps31
  go_wp2_with fail
  refine wp_loop_rounds 3 ?_
  rw [rounds_succ]
  go_wp2_with fail
  rw [rounds_succ]
  go_wp2_with fail
  rw [rounds_succ]
  go_wp2_with fail
  refine (grow_any T w hTl).mono ?_
  rintro e w1 ⟨v1, rfl, hown1, x1⟩
  have q0' : w1.cell? ⟨g, 0, none⟩ = some (.slice A L.length c) := by
    have h2 := (x1.block _ (Array.getElem?_eq_some_iff.1 hg).1).trans hg
    rw [cell_of_row _ _ _ _ _ _ h2]; rfl
  go_wp2_with fail
  refine wp_loop_rounds 3 ?_
  rw [rounds_succ]
  go_wp2_with (at_builtin; go_loud (refine wpList_append_sl _ rfl (.tmp 31) (.tmp 32) 23 rfl w.heap.size 49 i0 _ 32 32 Try.underlying23 HI.out HZ0.out HZ1.out HZ2.out (by simp [Value.cells, dg_size]) (by omega) v1 0 [] rfl hown1 A L.length c (cellsD L) rfl (hA.below x1).sl (cellsD_one L) (by unfold maxLen; omega) (by omega) x1.size ?_); intro v2 w2 hown2 hg2 hat2)
  have x2 : Ext w w2 := x1.grown hg2 x1.size (fun k hk => (hown1.lt k hk).1)
  have q1' : w2.cell? ⟨g, 1, none⟩ = some (.slice B M.length d) := by
    have h2 := (x2.block _ (Array.getElem?_eq_some_iff.1 hg).1).trans hg
    rw [cell_of_row _ _ _ _ _ _ h2]; rfl
  rw [rounds_succ]
  go_wp2_with (at_builtin; go_loud (refine wpList_append_sl _ rfl (.tmp 31) (.tmp 32) 23 rfl w.heap.size 49 i0 _ 32 32 Try.underlying23 HI.out HZ0.out HZ1.out HZ2.out (by simp [Value.cells, dg_size]) (by omega) v2 _ _ rfl hown2 B M.length d (cellsD M) rfl (hB.below x2).sl (cellsD_one M) (by unfold maxLen; omega) (by omega) x2.size ?_); intro v3 w3 hown3 hg3 hat3)
  have x3 : Ext w w3 := x2.grown hg3 x2.size (fun k hk => (hown2.lt k hk).1)
  rw [rounds_succ]
  go_wp2_with fail
  go_ret
  refine ⟨_, rfl, ?_, x3⟩
  rw [cellsD_append, List.length_append]
  simpa using hown3
end Go.Proofs.Ytigcfbpgbenabaa
