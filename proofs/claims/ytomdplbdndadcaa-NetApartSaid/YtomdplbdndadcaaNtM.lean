import Derived.Test.YtomdplbdndadcaaNtL
namespace Go.Proofs.Ytomdplbdndadcaa
open Go.RowKit

/-- Insert at the end of an own list -/
theorem insert_any (base : Nat) (A : Option Addr) (c : Nat) (E : List EV) (qs : List Raw) (C : Option Addr) (d : Nat) (F : List EV) (ts : List Raw) (w : World)
    (hown : w.ownsRow base 38 3 (.slice A E.length c) E.length (cellsE E qs)) (hql : qs.length = E.length) (hF : Es w C d F ts) (hE : E.length ≤ 100000) (hFl : F.length ≤ 100000) (hF0 : 0 < F.length) (hb : base ≤ w.heap.size) :
    Calls Try.prog 30 #[.slice A E.length c, .int .i64 (E.length : Int), .slice C F.length d] w fun e w' => ∃ v', e = .returned v' ∧ w'.ownsRow base 38 3 v' (E ++ F).length (cellsE (E ++ F) (qs ++ ts)) ∧
      w.grownBy w' (Value.slice A E.length c).ownBlock ∧ (v'.ownBlock = (Value.slice A E.length c).ownBlock ∨ v'.ownBlock = some w.heap.size) := by
  obtain ⟨i0, hi0, hz0, hz1, hz2⟩ := info_parts env_info
  obtain ⟨A', c', hv, hs, _⟩ := Sl.of_own hown
  simp only [Value.slice.injEq, true_and] at hv
  obtain ⟨rfl, rfl⟩ := hv
  have hle := hs.le
  have hci : (E.length : Int) ≤ (c : Int) := by omega
  have hne : ¬ (F.length : Int) = 0 := by omega
  rw [cellsE_append hql, List.length_append]
  clear hs
  go_enter Try.func30, Try.ntmps30
  go_wp2_with (at_builtin; refine wpList_append_sl _ rfl (.tmp 23) (.tmp 24) 25 rfl base 38 i0 _ 3 40 Try.underlying25 hi0 hz0 hz1 hz2 (by simp [Value.cells]) (by omega) (.slice A E.length c) E.length (cellsE E qs) rfl hown C F.length d (cellsE F ts) rfl hF.sl (cellsE_one F ts) (by unfold maxLen; omega) (by omega) hb ?_; intro v' w2 hown2 hg2 hat2)
  all_goals
    go_ret
    first
    | exact ⟨_, rfl, hown2, hg2, hat2⟩
    | (have hc : c = E.length := by omega
       rw [hc] at hg2 hat2
       exact ⟨_, rfl, hown2, hg2, hat2⟩)
end Go.Proofs.Ytomdplbdndadcaa
