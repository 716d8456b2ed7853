import Derived.Test.YtigcfbpgbenabaaRgB
import Derived.OwnWalk
import Derived.WalkSpells
namespace Go.Proofs.Ytigcfbpgbenabaa
open Go.RowKit

theorem zero_dig : (Try.prog.info? 49).map (fun i => (i.zero, i.size, i.bytes)) = some (some (.agg (dg (List.replicate 32 0))), 32, 32) := by kernel_rfl

theorem kitnames_any (A : Option Addr) (c : Nat) (L : List (List UInt8)) (w : World) (hA : Ds w A c L) (hl : L.length ≤ 4000000000000) :
    Calls Try.prog 12 #[.slice A L.length c] w fun e w' => ∃ v, e = .returned v ∧ w'.ownsRow w.heap.size 49 32 v L.length (cellsD L) ∧ Ext w w' := by
  obtain ⟨i0, hi0, hz0, hz1, hz2⟩ := info_parts zero_dig
  go_enter Try.func12, Try.ntmps12
  go_wp2_with (at_builtin; go_loud (refine wpList_append_sl _ rfl (.tmp 3) (.tmp 4) 23 rfl w.heap.size 49 i0 _ 32 32 Try.underlying23 hi0 hz0 hz1 hz2 (by simp [Value.cells, dg_size]) (by omega) (.slice (some ⟨w.heap.size, 0, none⟩) 0 0) 0 [] rfl (World.ownsRow_lit w #[] 0 (Nat.le_refl _) (by simp [maxLen]) (by simp)) A L.length c (cellsD L) rfl (hA.sl.alloc _) (cellsD_one L) (by unfold maxLen; omega) (by omega) (by simp) ?_); intro v' w2 hown2 hg2 hat2)
  go_ret
  exact ⟨_, rfl, by simpa using hown2, ((Below.refl _ w).alloc (Nat.le_refl _) _).grown hg2 (by simp) (by simp [Value.ownBlock])⟩

theorem clone_any (A : Option Addr) (c : Nat) (L : List (List UInt8)) (w : World) (hA : Ds w A c L) (hl : L.length ≤ 4000000000000) :
    Calls Try.prog 26 #[.slice A L.length c] w fun e w' => ∃ v, e = .returned v ∧ w'.ownsRow w.heap.size 49 32 v L.length (cellsD L) ∧ Ext w w' := by
  obtain ⟨i0, hi0, hz0, hz1, hz2⟩ := info_parts zero_dig
  cases A with
  | none =>
    obtain ⟨hn, rfl⟩ := hA.sl.nul rfl
    have hL : L = [] := List.eq_nil_of_length_eq_zero hn
    subst hL
    have hq : (binOp BinOp.eql 23 (Value.slice none 0 0) (Value.slice none 0 0)).run Try.prog w = .ok (.bool true) w := by kernel_rfl
    go_enter Try.func26, Try.ntmps26
    go_wp2_with fail
    go_ret
    exact ⟨_, rfl, World.ownsRow_nil _ _ _ _, Ext.refl w⟩
  | some a =>
    have hq : (binOp BinOp.eql 23 (Value.slice (some a) L.length c) (Value.slice none 0 0)).run Try.prog w = .ok (.bool false) w := by kernel_rfl
    go_enter Try.func26, Try.ntmps26
    go_wp2_with (at_builtin; go_loud (refine wpList_append_sl _ rfl (.tmp 5) (.tmp 6) 23 rfl w.heap.size 49 i0 _ 32 32 Try.underlying23 hi0 hz0 hz1 hz2 (by simp [Value.cells, dg_size]) (by omega) (.slice (some ⟨w.heap.size, 0, none⟩) 0 0) 0 [] rfl (World.ownsRow_lit w #[] 0 (Nat.le_refl _) (by simp [maxLen]) (by simp)) (some a) L.length c (cellsD L) rfl (hA.sl.alloc _) (cellsD_one L) (by unfold maxLen; omega) (by omega) (by simp) ?_); intro v' w2 hown2 hg2 hat2)
    go_ret
    exact ⟨_, rfl, by simpa using hown2, ((Below.refl _ w).alloc (Nat.le_refl _) _).grown hg2 (by simp) (by simp [Value.ownBlock])⟩
end Go.Proofs.Ytigcfbpgbenabaa
