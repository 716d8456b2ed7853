import Derived.Test.YtomdplbdndadcaaNtR
import Derived.Deep.Cut
namespace Go.Proofs.Ytomdplbdndadcaa
open Go.RowKit

set_option maxHeartbeats 4000000 in
theorem take_no (n : Int) (A : Option Addr) (c : Nat) (E : List EV) (rs : List Raw) (i : Int) (w : World) (hA : Es w A c E rs) (er : Int) (hat : atN ⟨n, E⟩ i = er) (her : er ≠ 0) :
    Calls Try.prog 11 #[.agg #[.int .i64 n, .slice A E.length c], .int .i64 i] w fun e w' => e = .returned (.tuple #[.agg #[.int .i64 0, .int .i64 0, .slice none 0 0], .agg #[.int .i64 0, .slice none 0 0], .int .i64 er]) ∧ Ext w w' := by
  obtain ⟨o1, ho1⟩ : ∃ o, o = Obj.cells #[.int .i64 n, .slice A E.length c] 27 := ⟨_, rfl⟩
  obtain ⟨o2, ho2⟩ : ∃ o, o = Obj.cells #[.int .i64 0, .int .i64 0, .slice none 0 0] 38 := ⟨_, rfl⟩
  obtain ⟨o3, ho3⟩ : ∃ o, o = Obj.cells #[.int .i64 0, .slice none 0 0] 27 := ⟨_, rfl⟩
  have x1 := Ext.alloc w o1
  have x2 := Ext.alloc (w.alloc o1) o2
  have x3 := Ext.alloc ((w.alloc o1).alloc o2) o3
  have h1 := heap_alloc_new w o1
  have h2 := heap_alloc_new (w.alloc o1) o2
  have h3 := heap_alloc_new ((w.alloc o1).alloc o2) o3
  have h1 := ((Ext.trans x2 x3).block _ (Array.getElem?_eq_some_iff.1 h1).1).trans h1
  have h2 := (x3.block _ (Array.getElem?_eq_some_iff.1 h2).1).trans h2
  rw [show (w.alloc o1).heap.size = w.heap.size + 1 by simp only [World.alloc, Array.size_push]] at h2
  rw [show ((w.alloc o1).alloc o2).heap.size = w.heap.size + 1 + 1 by simp only [World.alloc, Array.size_push]] at h3
  have x0 := Ext.trans (Ext.trans x1 x2) x3
  clear x1 x2 x3
  have hA0 := hA.below x0
  subst ho1
  subst ho2
  subst ho3
  have H1 := Lib.hid h1
  have H2 := Lib.hid h2
  have H3 := Lib.hid h3
  have HAT := Lib.hid hat
  clear h1 h2 h3 hat
  go_enter Try.func11, Try.ntmps11
  go_wp2_with fail
  generalize ((w.alloc _).alloc _).alloc _ = w0 at *
  refine (drop_no n A c E rs i w0 hA0 er HAT.out her).mono ?_
  rintro e w1 ⟨rfl, y1⟩
  have k2 := Lib.hid ((y1.block _ (Array.getElem?_eq_some_iff.1 H2.out).1).trans H2.out)
  have k3 := Lib.hid ((y1.block _ (Array.getElem?_eq_some_iff.1 H3.out).1).trans H3.out)
  have y3 := Ext.alloc w1 (.cells #[.int .i64 0, .slice none 0 0] 27)
  have K2 := Lib.hid ((y3.block _ (Array.getElem?_eq_some_iff.1 k2.out).1).trans k2.out)
  have K3 := Lib.hid ((y3.block _ (Array.getElem?_eq_some_iff.1 k3.out).1).trans k3.out)
  have Y1 := Lib.hid y1
  have Y3 := Lib.hid y3
  clear y1 y3 k2 k3
  obtain ⟨w2, hw2⟩ : ∃ w2, w2 = w1.alloc (.cells #[.int .i64 0, .slice none 0 0] 27) := ⟨_, rfl⟩
  rw [← hw2] at K2 K3 Y3
  have n2 : w2.cell? ⟨w.heap.size + 1, 0, none⟩ = some (.int .i64 0) := by rw [cell_of_row _ _ _ _ _ _ K2.out]; rfl
  have n3 : w2.cell? ⟨w.heap.size + 1, 1, none⟩ = some (.int .i64 0) := by rw [cell_of_row _ _ _ _ _ _ K2.out]; rfl
  have n4 : w2.cell? ⟨w.heap.size + 1, 2, none⟩ = some (.slice none 0 0) := by rw [cell_of_row _ _ _ _ _ _ K2.out]; rfl
  have n5 : w2.cell? ⟨w.heap.size + 1 + 1, 0, none⟩ = some (.int .i64 0) := by rw [cell_of_row _ _ _ _ _ _ K3.out]; rfl
  have n6 : w2.cell? ⟨w.heap.size + 1 + 1, 1, none⟩ = some (.slice none 0 0) := by rw [cell_of_row _ _ _ _ _ _ K3.out]; rfl
  have o1 := frozen_of_row w2 (w.heap.size + 1) 0 _ _ K2.out
  have o2 := frozen_of_row w2 (w.heap.size + 1) 1 _ _ K2.out
  have o3 := frozen_of_row w2 (w.heap.size + 1) 2 _ _ K2.out
  have o4 := frozen_of_row w2 (w.heap.size + 1 + 1) 0 _ _ K3.out
  have o5 := frozen_of_row w2 (w.heap.size + 1 + 1) 1 _ _ K3.out
  have HW2 := Lib.hid hw2
  clear hw2
  go_upto_region 3 with fail
  rw [← HW2.out]
  go_wp2_with fail
  have r3 := cells3 (.int .i64 0) (.int .i64 0) (.slice none 0 0) K2.out
  have r2 := (other3 (w := w2) (g := w.heap.size + 1) (.int .i64 0) (.int .i64 0) (.slice none 0 0) (w.heap.size + 1 + 1) (by omega)).trans K3.out
  have r4 := (other2 (g := w.heap.size + 1 + 1) (.int .i64 0) (.slice none 0 0) (w.heap.size + 1) (by omega)).trans r3
  have r5 := cells2 (.int .i64 0) (.slice none 0 0) r2
  have l1 := env_load r4
  have l2 := net_load r5
  refine bodyPost_ret (results_cct (fn := Try.f11) (p := 4) (q := 5) (u := 6) (t1 := 38) (t2 := 27) rfl _ _ (w.heap.size + 1) (w.heap.size + 1 + 1) _ _ rfl l1 rfl l2) rfl ?_
  exact ⟨rfl, Ext.set2 (Ext.set3 (Ext.trans (Ext.trans x0 Y1.out) Y3.out) (by omega) _ _ _) (by omega) _ _⟩
end Go.Proofs.Ytomdplbdndadcaa
