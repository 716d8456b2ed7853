import Derived.Test.YtigcfbpgbenabaaRgH
import Derived.Laws.ResultCell
/- Words on plans: a struct of an int and two slices of digests. -/
namespace Go.Proofs.Ytigcfbpgbenabaa
open Go.RowKit

structure PV where
  k : Int
  u : List (List UInt8)
  d : List (List UInt8)

def PV.zero : PV := ⟨0, [], []⟩

def IsPlan (w : World) (v : Value) (P : PV) : Prop := ∃ A c B d, v = .agg #[.int .i64 P.k, .slice A P.u.length c, .slice B P.d.length d] ∧ Ds w A c P.u ∧ Ds w B d P.d

theorem IsPlan.ext {w w' : World} {v : Value} {P : PV} (h : IsPlan w v P) (hx : Ext w w') : IsPlan w' v P := by
  obtain ⟨A, c, B, d, rfl, h1, h2⟩ := h
  exact ⟨A, c, B, d, rfl, h1.below hx, h2.below hx⟩

theorem IsPlan.zero (w : World) : IsPlan w (.agg #[.int .i64 0, .slice none 0 0, .slice none 0 0]) PV.zero :=
  ⟨none, 0, none, 0, rfl, Ds.nil _, Ds.nil _⟩

theorem plan_info : (Try.prog.info? 25).map (·.size) = some 3 := by kernel_rfl
theorem plan_load {w : World} {g : Nat} {a b c : Value} (hg : w.heap[g]? = some (.cells #[a, b, c] 25 (0, 0))) :
    (loadVar 25 ⟨g, 0, none⟩).run Try.prog w = .ok (.agg #[a, b, c]) w :=
  run_loadVar_row w g 25 25 #[a, b, c] (0, 0) _ hg Try.underlying25 rfl plan_info

theorem results_plan2 {fn : Func} {p u : Tmp} {ty : TypeId} {P : Program} (h : fn.results = #[.cell p ty, .tmp u]) (tmps : Array Value) (w : World) (g : Nat) (v : Value)
    (hp : tmps.getD p undef = .pointer (some ⟨g, 0, none⟩)) (hl : (loadVar ty ⟨g, 0, none⟩).run P w = .ok v w) :
    (results fn tmps).run P w = .ok (.tuple #[v, tmps.getD u undef]) w := by
  have hp' : tmps[p]?.getD undef = .pointer (some ⟨g, 0, none⟩) := by simpa using hp
  simp [results, h, hp', Sem.run_bind, Result.andThen, asAddr, hl]
theorem results_plan1 {fn : Func} {p : Tmp} {ty : TypeId} {P : Program} (h : fn.results = #[.cell p ty]) (tmps : Array Value) (w : World) (g : Nat) (v : Value)
    (hp : tmps.getD p undef = .pointer (some ⟨g, 0, none⟩)) (hl : (loadVar ty ⟨g, 0, none⟩).run P w = .ok v w) :
    (results fn tmps).run P w = .ok v w := by
  have hp' : tmps[p]?.getD undef = .pointer (some ⟨g, 0, none⟩) := by simpa using hp
  simp [results, h, hp', Sem.run_bind, Result.andThen, asAddr, hl]

theorem cells3 {w : World} {g : Nat} {a b c : Value} {t : TypeId} (x y z : Value) (hg : w.heap[g]? = some (.cells #[a, b, c] t (0, 0))) :
    (((w.setCell ⟨g, 0, none⟩ x).setCell ⟨g, 1, none⟩ y).setCell ⟨g, 2, none⟩ z).heap[g]? = some (.cells #[x, y, z] t (0, 0)) := by
  have h1 := heap_setCell_same w g 0 _ t x hg
  have h2 := heap_setCell_same _ g 1 _ t y h1
  have h3 := heap_setCell_same _ g 2 _ t z h2
  simpa using h3
theorem other3 {w : World} {g : Nat} (x y z : Value) (k : Nat) (h : k ≠ g) :
    (((w.setCell ⟨g, 0, none⟩ x).setCell ⟨g, 1, none⟩ y).setCell ⟨g, 2, none⟩ z).heap[k]? = w.heap[k]? := by
  rw [heap_setCell_other _ _ _ _ h, heap_setCell_other _ _ _ _ h, heap_setCell_other _ _ _ _ h]
theorem Ext.set3 {a w : World} {g : Nat} (h : Ext a w) (hg : a.heap.size ≤ g) (x y z : Value) :
    Ext a (((w.setCell ⟨g, 0, none⟩ x).setCell ⟨g, 1, none⟩ y).setCell ⟨g, 2, none⟩ z) :=
  ((Below.setCell h (p := ⟨g, 0, none⟩) hg x).setCell (p := ⟨g, 1, none⟩) hg y).setCell (p := ⟨g, 2, none⟩) hg z

/-- what From answers -/
def fromP (L M : List (List UInt8)) : PV × Int := if L.Nodup ∧ M.Nodup then (⟨(common L M : Nat), L.drop (common L M), M.drop (common L M)⟩, 0) else (PV.zero, 2)
end Go.Proofs.Ytigcfbpgbenabaa
