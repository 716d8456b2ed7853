import Derived.Test.YtigcfbpgbenabaaLeads
import Derived.Deep.RegionWith
namespace Go.Proofs.Ytigcfbpgbenabaa
open Go.RowKit

theorem step_append_slg {P : Program} {w : World} {ops : Array Oper} {o : Oper} {a : Act} {K : Act → World → Prop} {Q : Exit → Act → World → Prop} {E : Prop} (hw : Region.wanted o (yielded ops a.tmps) = true) (s x : Operand) (t : TypeId)
    (ho : o.op = .call { callee := .builtin .append, args := #[s, x], argTypes := #[t, t] })
    (base : Nat) (e : TypeId) (i : TypeInfo) (z : Value) (size bytes : Nat) (ht : P.underlying t = some (.slice e)) (hi : P.info? e = some i) (hz : i.zero = some z)
    (hsize : i.size = size) (hby : i.bytes = bytes) (hzs : z.cells.size = size) (hsz : 0 < size)
    (v : Value) (n : Nat) (xs : List Value) (hs : a.eval s = v) (hown : w.ownsRow base e size v n xs)
    (A : Option Addr) (m c : Nat) (news : List Value) (hx : a.eval x = .slice A m c) (hr : Sl w A m c size news) (h1 : ∀ u ∈ news, u.oneCell' = true)
    (h63 : n + m ≤ maxLen) (hbytes : (n + m) * bytes ≤ 140737488355328) (hbase : base ≤ w.heap.size)
    (h : ∀ v' w', w'.ownsRow base e size v' (n + m) (xs ++ news) → w.grownBy w' v.ownBlock → (v'.ownBlock = v.ownBlock ∨ v'.ownBlock = some w.heap.size) → K (a.put o.dst v') w') : if Region.wanted o (yielded ops a.tmps) = true then Oper.wp P o a w K Q else E := by
  rw [if_pos hw]
  obtain ⟨v', w', hrun, h2, h3, h4⟩ := run_append_sl (P := P) (w := w) base t o.type e i z size bytes ht hi hz hsize hby hzs hsz v n xs hown A m c news hr h1 h63 hbytes hbase
  unfold Oper.wp execOp
  simp only [ho, resolve, invoke, builtin, Sem.run_bind, Sem.run_pure, Result.andThen_ok, List.map_toArray, List.map_cons, List.map_nil, hs, hx, hrun]
  exact h v' w' h2 h3 h4
theorem planF_kL (L M : List (List UInt8)) : common L M + (planF L M).u.length = L.length ∧ common L M + (planF L M).d.length = M.length := by
  obtain ⟨h1, h2, _⟩ := common_le L M
  unfold planF
  simp only [List.length_drop]
  omega
theorem planF_cells (L M : List (List UInt8)) : cellsD (L.take (common L M)) ++ cellsD (planF L M).u = cellsD L ∧ cellsD (M.take (common L M)) ++ cellsD (planF L M).d = cellsD M := by
  unfold planF
  rw [← cellsD_append, ← cellsD_append, List.take_append_drop, List.take_append_drop]
  exact ⟨rfl, rfl⟩
end Go.Proofs.Ytigcfbpgbenabaa
