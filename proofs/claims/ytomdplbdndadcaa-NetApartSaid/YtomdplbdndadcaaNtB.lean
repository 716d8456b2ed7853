import Derived.Test.YtomdplbdndadcaaNtA
import Derived.OwnWalk
import Derived.WalkSpells
namespace Go.Proofs.Ytomdplbdndadcaa
open Go.RowKit

theorem u8_info : (Try.prog.info? 5).map (fun i => (i.zero, i.size, i.bytes)) = some (some (.int .u8 0), 1, 1) := by kernel_rfl
theorem env_info : (Try.prog.info? 38).map (fun i => (i.zero, i.size, i.bytes)) = some (some (.agg #[.int .i64 0, .int .i64 0, .slice none 0 0]), 3, 40) := by kernel_rfl
theorem env_size : (Try.prog.info? 38).map (·.size) = some 3 := by kernel_rfl
theorem net_size : (Try.prog.info? 27).map (·.size) = some 2 := by kernel_rfl

theorem env_load {w : World} {g : Nat} {a b c : Value} (hg : w.heap[g]? = some (.cells #[a, b, c] 38 (0, 0))) :
    (loadVar 38 ⟨g, 0, none⟩).run Try.prog w = .ok (.agg #[a, b, c]) w :=
  run_loadVar_row w g 38 38 #[a, b, c] (0, 0) _ hg Try.underlying38 rfl env_size
theorem net_load {w : World} {g : Nat} {a b : Value} (hg : w.heap[g]? = some (.cells #[a, b] 27 (0, 0))) :
    (loadVar 27 ⟨g, 0, none⟩).run Try.prog w = .ok (.agg #[a, b]) w :=
  run_loadVar_row w g 27 27 #[a, b] (0, 0) _ hg Try.underlying27 rfl net_size
theorem results_cell1 {fn : Func} {p : Tmp} {ty : TypeId} {P : Program} (h : fn.results = #[.cell p ty]) (tmps : Array Value) (w : World) (g : Nat) (v : Value)
    (hp : tmps.getD p undef = .pointer (some ⟨g, 0, none⟩)) (hl : (loadVar ty ⟨g, 0, none⟩).run P w = .ok v w) :
    (results fn tmps).run P w = .ok v w := by
  have hp' : tmps[p]?.getD undef = .pointer (some ⟨g, 0, none⟩) := by simpa using hp
  simp [results, h, hp', asAddr, hl]
theorem results_cell2 {fn : Func} {p u : Tmp} {ty : TypeId} {P : Program} (h : fn.results = #[.cell p ty, .tmp u]) (tmps : Array Value) (w : World) (g : Nat) (v : Value)
    (hp : tmps.getD p undef = .pointer (some ⟨g, 0, none⟩)) (hl : (loadVar ty ⟨g, 0, none⟩).run P w = .ok v w) :
    (results fn tmps).run P w = .ok (.tuple #[v, tmps.getD u undef]) w := by
  have hp' : tmps[p]?.getD undef = .pointer (some ⟨g, 0, none⟩) := by simpa using hp
  simp [results, h, hp', Result.andThen, asAddr, hl]

theorem kitown_any (A : Option Addr) (c : Nat) (l : List UInt8) (w : World) (hA : Bs w A c l) (hl : l.length ≤ 100000000000000) :
    Calls Try.prog 15 #[.slice A l.length c] w fun e w' => ∃ v, e = .returned v ∧ w'.ownsRow w.heap.size 5 1 v l.length (l.map bc) ∧ Ext w w' := by
  obtain ⟨i0, hi0, hz0, hz1, hz2⟩ := info_parts u8_info
  go_enter Try.func15, Try.ntmps15
  go_wp2_with (at_builtin; go_loud (refine wpList_append_sl _ rfl (.tmp 3) (.tmp 4) 32 rfl w.heap.size 5 i0 _ 1 1 Try.underlying32 hi0 hz0 hz1 hz2 (by simp [Value.cells]) (by omega) (.slice (some ⟨w.heap.size, 0, none⟩) 0 0) 0 [] rfl (World.ownsRow_lit w #[] 0 (Nat.le_refl _) (by simp [maxLen]) (by simp)) A l.length c (l.map bc) rfl (Sl.alloc hA _) (bytes_one l) (by unfold maxLen; omega) (by omega) (by simp) ?_); intro v' w2 hown2 hg2 hat2)
  go_ret
  exact ⟨_, rfl, by simpa using hown2, ((Below.refl _ w).alloc (Nat.le_refl _) _).grown hg2 (by simp) (by simp [Value.ownBlock])⟩

theorem clone_any (A : Option Addr) (c : Nat) (E : List EV) (rs : List Raw) (w : World) (hA : Es w A c E rs) (hl : E.length ≤ 1000000000000) :
    Calls Try.prog 36 #[.slice A E.length c] w fun e w' => ∃ v, e = .returned v ∧ w'.ownsRow w.heap.size 38 3 v E.length (cellsE E rs) ∧ Ext w w' := by
  obtain ⟨i0, hi0, hz0, hz1, hz2⟩ := info_parts env_info
  cases A with
  | none =>
    obtain ⟨hn, rfl⟩ := hA.sl.nul rfl
    have hE : E = [] := List.eq_nil_of_length_eq_zero hn
    subst hE
    have hq : (binOp BinOp.eql 25 (Value.slice none 0 0) (Value.slice none 0 0)).run Try.prog w = .ok (.bool true) w := by kernel_rfl
    go_enter Try.func36, Try.ntmps36
    go_wp2_with fail
    go_ret
    refine ⟨_, rfl, ?_, Ext.refl w⟩
    have : cellsE [] rs = [] := by cases rs <;> rfl
    rw [this]
    exact World.ownsRow_nil _ _ _ _
  | some a =>
    have hq : (binOp BinOp.eql 25 (Value.slice (some a) E.length c) (Value.slice none 0 0)).run Try.prog w = .ok (.bool false) w := by kernel_rfl
    go_enter Try.func36, Try.ntmps36
    go_wp2_with (at_builtin; go_loud (refine wpList_append_sl _ rfl (.tmp 5) (.tmp 6) 25 rfl w.heap.size 38 i0 _ 3 40 Try.underlying25 hi0 hz0 hz1 hz2 (by simp [Value.cells]) (by omega) (.slice (some ⟨w.heap.size, 0, none⟩) 0 0) 0 [] rfl (World.ownsRow_lit w #[] 0 (Nat.le_refl _) (by simp [maxLen]) (by simp)) (some a) E.length c (cellsE E rs) rfl (hA.sl.alloc _) (cellsE_one E rs) (by unfold maxLen; omega) (by omega) (by simp) ?_); intro v' w2 hown2 hg2 hat2)
    go_ret
    exact ⟨_, rfl, by simpa using hown2, ((Below.refl _ w).alloc (Nat.le_refl _) _).grown hg2 (by simp) (by simp [Value.ownBlock])⟩
end Go.Proofs.Ytomdplbdndadcaa
