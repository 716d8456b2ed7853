import Derived.Test.YtomdplbdndadcaaNtN
namespace Go.Proofs.Ytomdplbdndadcaa
open Go.RowKit

set_option maxHeartbeats 1000000 in
theorem twice_ok (n : Int) (A : Option Addr) (c : Nat) (E : List EV) (rs : List Raw) (j : Nat) (w : World) (hA : Es w A c E rs) (hat : atN ⟨n, E⟩ (j : Int) = 0) (hj : j < E.length) (hE : E.length < 512) (hr : ∀ e ∈ E, e.r.length ≤ 100000) :
    Calls Try.prog 13 #[.agg #[.int .i64 n, .slice A E.length c], .int .i64 (j : Int)] w fun e w' => ∃ B d ss, e = .returned (.tuple #[.agg #[.int .i64 n, .slice B (E ++ [E[j]]).length d], .int .i64 0]) ∧ Es w' B d (E ++ [E[j]]) ss ∧ (∀ a, B = some a → w.heap.size ≤ a.block) ∧ Fr w' w.heap.size ss ∧ Ext w w' := by
  obtain ⟨o1, ho1⟩ : ∃ o, o = Obj.cells #[.int .i64 n, .slice A E.length c] 27 := ⟨_, rfl⟩
  obtain ⟨o2, ho2⟩ : ∃ o, o = Obj.cells #[.int .i64 (j : Int)] 3 := ⟨_, rfl⟩
  obtain ⟨o3, ho3⟩ : ∃ o, o = Obj.cells #[.int .i64 0, .slice none 0 0] 27 := ⟨_, rfl⟩
  have x1 := Ext.alloc w o1
  have x2 := Ext.alloc (w.alloc o1) o2
  have x3 := Ext.alloc ((w.alloc o1).alloc o2) o3
  have h1 := heap_alloc_new w o1
  have h2 := heap_alloc_new (w.alloc o1) o2
  have h3 := heap_alloc_new ((w.alloc o1).alloc o2) o3
  have h1 := ((Ext.trans x2 x3).block _ (Array.getElem?_eq_some_iff.1 h1).1).trans h1
  have h2 := (x3.block _ (Array.getElem?_eq_some_iff.1 h2).1).trans h2
  rw [show (w.alloc o1).heap.size = w.heap.size + 1 by simp only [World.alloc, Array.size_push]] at h2
  rw [show ((w.alloc o1).alloc o2).heap.size = w.heap.size + 1 + 1 by simp only [World.alloc, Array.size_push]] at h3
  have x0 := Ext.trans (Ext.trans x1 x2) x3
  clear x1 x2 x3
  have hA0 := hA.below x0
  subst ho1
  subst ho2
  subst ho3
  have H1 := Lib.hid h1
  have H2 := Lib.hid h2
  have H3 := Lib.hid h3
  have HAT := Lib.hid hat
  have hne : ¬ (E.length : Int) = 512 := by omega
  clear h1 h2 h3 hat
  go_enter Try.func13, Try.ntmps13
  go_wp2_with fail
  generalize ((w.alloc _).alloc _).alloc _ = w0 at *
  have hct := at_any _ ⟨n, E⟩ rs (j : Int) w0 ⟨A, c, rfl, hA0⟩
  rw [HAT.out] at hct
  refine hct.mono ?_
  rintro e w1 ⟨rfl, y1⟩
  clear hct
  have k1 := Lib.hid ((y1.block _ (Array.getElem?_eq_some_iff.1 H1.out).1).trans H1.out)
  have k2 := Lib.hid ((y1.block _ (Array.getElem?_eq_some_iff.1 H2.out).1).trans H2.out)
  have k3 := Lib.hid ((y1.block _ (Array.getElem?_eq_some_iff.1 H3.out).1).trans H3.out)
  have m0 : w1.cell? ⟨w.heap.size, 0, none⟩ = some (.int .i64 n) := by rw [cell_of_row _ _ _ _ _ _ k1.out]; rfl
  have m1 : w1.cell? ⟨w.heap.size, 1, none⟩ = some (.slice A E.length c) := by rw [cell_of_row _ _ _ _ _ _ k1.out]; rfl
  have mi : w1.cell? ⟨w.heap.size + 1, 0, none⟩ = some (.int .i64 (j : Int)) := by rw [cell_of_row _ _ _ _ _ _ k2.out]; rfl
  have hct := changed_some 28 (w.heap.size + 1) calls28 n A c E rs w1 (hA0.below y1) (by omega) hr (by omega) (E ++ [E[j]]) (w1.heap.size + 2)
    (twice_call (w.heap.size + 1) j E w1 (by omega) hj (hr _ (List.getElem_mem hj)) mi)
  go_wp2_with fail
  refine hct.mono ?_
  rintro e w2 ⟨B, d, ss, rfl, hE2, hB2, hss, y2⟩
  have q3 := Lib.hid ((y2.block _ (Array.getElem?_eq_some_iff.1 k3.out).1).trans k3.out)
  have p0 : w2.cell? ⟨w.heap.size + 1 + 1, 0, none⟩ = some (.int .i64 0) := by rw [cell_of_row _ _ _ _ _ _ q3.out]; rfl
  have p1 : w2.cell? ⟨w.heap.size + 1 + 1, 1, none⟩ = some (.slice none 0 0) := by rw [cell_of_row _ _ _ _ _ _ q3.out]; rfl
  have s0 := frozen_of_row w2 (w.heap.size + 1 + 1) 0 _ _ q3.out
  have s1 := frozen_of_row w2 (w.heap.size + 1 + 1) 1 _ _ q3.out
  have hz : w.heap.size + 1 + 1 < w1.heap.size := (Array.getElem?_eq_some_iff.1 k3.out).1
  obtain ⟨E2, hE2d⟩ : ∃ E2, E2 = E ++ [E[j]] := ⟨_, rfl⟩
  rw [← hE2d] at hE2 ⊢
  have HD := Lib.hid hE2d
  clear hct hE2d
  go_wp2_with fail
  have hd := HD.out
  clear HD
  subst hd
  refine bodyPost_ret (results_cell2 rfl _ _ (w.heap.size + 1 + 1) _ rfl (net_load (cells2 (.int .i64 n) (.slice B (E ++ [E[j]]).length d) q3.out))) rfl ?_
  refine ⟨B, d, ss, rfl, ⟨hE2.len, hE2.sl.keep (fun a ha _ => other2 _ _ _ (by have := hB2 a ha; omega)), fun i h1 h2 => Sl.keep (hE2.raw i h1 h2) (fun a ha _ => other2 _ _ _ (hss.ne (List.getElem_mem h2) ha q3.out (by decide)))⟩, fun a ha => by have := hB2 a ha; omega, hss.kept (by omega) (fun q hq a ha _ => other2 _ _ _ (hss.ne hq ha q3.out (by decide))), Ext.set2 (Ext.trans (Ext.trans x0 y1) y2) (by omega) _ _⟩
set_option maxHeartbeats 1000000 in
theorem twice_no (n : Int) (A : Option Addr) (c : Nat) (E : List EV) (rs : List Raw) (i : Int) (w : World) (hA : Es w A c E rs) (er : Int) (hat : atN ⟨n, E⟩ i = er) (her : er ≠ 0) :
    Calls Try.prog 13 #[.agg #[.int .i64 n, .slice A E.length c], .int .i64 i] w fun e w' => e = .returned (.tuple #[.agg #[.int .i64 0, .slice none 0 0], .int .i64 er]) ∧ Ext w w' := by
  obtain ⟨o1, ho1⟩ : ∃ o, o = Obj.cells #[.int .i64 n, .slice A E.length c] 27 := ⟨_, rfl⟩
  obtain ⟨o2, ho2⟩ : ∃ o, o = Obj.cells #[.int .i64 i] 3 := ⟨_, rfl⟩
  obtain ⟨o3, ho3⟩ : ∃ o, o = Obj.cells #[.int .i64 0, .slice none 0 0] 27 := ⟨_, rfl⟩
  have x1 := Ext.alloc w o1
  have x2 := Ext.alloc (w.alloc o1) o2
  have x3 := Ext.alloc ((w.alloc o1).alloc o2) o3
  have h1 := heap_alloc_new w o1
  have h2 := heap_alloc_new (w.alloc o1) o2
  have h3 := heap_alloc_new ((w.alloc o1).alloc o2) o3
  have h1 := ((Ext.trans x2 x3).block _ (Array.getElem?_eq_some_iff.1 h1).1).trans h1
  have h2 := (x3.block _ (Array.getElem?_eq_some_iff.1 h2).1).trans h2
  rw [show (w.alloc o1).heap.size = w.heap.size + 1 by simp only [World.alloc, Array.size_push]] at h2
  rw [show ((w.alloc o1).alloc o2).heap.size = w.heap.size + 1 + 1 by simp only [World.alloc, Array.size_push]] at h3
  have x0 := Ext.trans (Ext.trans x1 x2) x3
  clear x1 x2 x3
  have hA0 := hA.below x0
  subst ho1
  subst ho2
  subst ho3
  have H1 := Lib.hid h1
  have H2 := Lib.hid h2
  have H3 := Lib.hid h3
  have HAT := Lib.hid hat
  clear h1 h2 h3 hat
  go_enter Try.func13, Try.ntmps13
  go_wp2_with fail
  generalize ((w.alloc _).alloc _).alloc _ = w0 at *
  have hct := at_any _ ⟨n, E⟩ rs i w0 ⟨A, c, rfl, hA0⟩
  rw [HAT.out] at hct
  refine hct.mono ?_
  rintro e w1 ⟨rfl, y1⟩
  clear hct
  have k1 := Lib.hid ((y1.block _ (Array.getElem?_eq_some_iff.1 H1.out).1).trans H1.out)
  have k2 := Lib.hid ((y1.block _ (Array.getElem?_eq_some_iff.1 H2.out).1).trans H2.out)
  have k3 := Lib.hid ((y1.block _ (Array.getElem?_eq_some_iff.1 H3.out).1).trans H3.out)
  have p0 : w1.cell? ⟨w.heap.size + 1 + 1, 0, none⟩ = some (.int .i64 0) := by rw [cell_of_row _ _ _ _ _ _ k3.out]; rfl
  have p1 : w1.cell? ⟨w.heap.size + 1 + 1, 1, none⟩ = some (.slice none 0 0) := by rw [cell_of_row _ _ _ _ _ _ k3.out]; rfl
  have s0 := frozen_of_row w1 (w.heap.size + 1 + 1) 0 _ _ k3.out
  have s1 := frozen_of_row w1 (w.heap.size + 1 + 1) 1 _ _ k3.out
  go_wp2_with fail
  refine bodyPost_ret (results_cell2 rfl _ _ (w.heap.size + 1 + 1) _ rfl (net_load (cells2 (.int .i64 0) (.slice none 0 0) k3.out))) rfl ?_
  exact ⟨rfl, Ext.set2 (Ext.trans x0 y1) (by omega) _ _⟩

set_option maxHeartbeats 1000000 in
theorem twice_full (n : Int) (A : Option Addr) (c : Nat) (E : List EV) (rs : List Raw) (i : Int) (w : World) (hA : Es w A c E rs) (hat : atN ⟨n, E⟩ i = 0) (hE : (E.length : Int) = 512) :
    Calls Try.prog 13 #[.agg #[.int .i64 n, .slice A E.length c], .int .i64 i] w fun e w' => e = .returned (.tuple #[.agg #[.int .i64 0, .slice none 0 0], .int .i64 7]) ∧ Ext w w' := by
  obtain ⟨o1, ho1⟩ : ∃ o, o = Obj.cells #[.int .i64 n, .slice A E.length c] 27 := ⟨_, rfl⟩
  obtain ⟨o2, ho2⟩ : ∃ o, o = Obj.cells #[.int .i64 i] 3 := ⟨_, rfl⟩
  obtain ⟨o3, ho3⟩ : ∃ o, o = Obj.cells #[.int .i64 0, .slice none 0 0] 27 := ⟨_, rfl⟩
  have x1 := Ext.alloc w o1
  have x2 := Ext.alloc (w.alloc o1) o2
  have x3 := Ext.alloc ((w.alloc o1).alloc o2) o3
  have h1 := heap_alloc_new w o1
  have h2 := heap_alloc_new (w.alloc o1) o2
  have h3 := heap_alloc_new ((w.alloc o1).alloc o2) o3
  have h1 := ((Ext.trans x2 x3).block _ (Array.getElem?_eq_some_iff.1 h1).1).trans h1
  have h2 := (x3.block _ (Array.getElem?_eq_some_iff.1 h2).1).trans h2
  rw [show (w.alloc o1).heap.size = w.heap.size + 1 by simp only [World.alloc, Array.size_push]] at h2
  rw [show ((w.alloc o1).alloc o2).heap.size = w.heap.size + 1 + 1 by simp only [World.alloc, Array.size_push]] at h3
  have x0 := Ext.trans (Ext.trans x1 x2) x3
  clear x1 x2 x3
  have hA0 := hA.below x0
  subst ho1
  subst ho2
  subst ho3
  have H1 := Lib.hid h1
  have H2 := Lib.hid h2
  have H3 := Lib.hid h3
  have HAT := Lib.hid hat
  clear h1 h2 h3 hat
  go_enter Try.func13, Try.ntmps13
  go_wp2_with fail
  generalize ((w.alloc _).alloc _).alloc _ = w0 at *
  have hct := at_any _ ⟨n, E⟩ rs i w0 ⟨A, c, rfl, hA0⟩
  rw [HAT.out] at hct
  refine hct.mono ?_
  rintro e w1 ⟨rfl, y1⟩
  clear hct
  have k1 := Lib.hid ((y1.block _ (Array.getElem?_eq_some_iff.1 H1.out).1).trans H1.out)
  have k2 := Lib.hid ((y1.block _ (Array.getElem?_eq_some_iff.1 H2.out).1).trans H2.out)
  have k3 := Lib.hid ((y1.block _ (Array.getElem?_eq_some_iff.1 H3.out).1).trans H3.out)
  have m1 : w1.cell? ⟨w.heap.size, 1, none⟩ = some (.slice A E.length c) := by rw [cell_of_row _ _ _ _ _ _ k1.out]; rfl
  have p0 : w1.cell? ⟨w.heap.size + 1 + 1, 0, none⟩ = some (.int .i64 0) := by rw [cell_of_row _ _ _ _ _ _ k3.out]; rfl
  have p1 : w1.cell? ⟨w.heap.size + 1 + 1, 1, none⟩ = some (.slice none 0 0) := by rw [cell_of_row _ _ _ _ _ _ k3.out]; rfl
  have s0 := frozen_of_row w1 (w.heap.size + 1 + 1) 0 _ _ k3.out
  have s1 := frozen_of_row w1 (w.heap.size + 1 + 1) 1 _ _ k3.out
  go_wp2_with fail
  refine bodyPost_ret (results_cell2 rfl _ _ (w.heap.size + 1 + 1) _ rfl (net_load (cells2 (.int .i64 0) (.slice none 0 0) k3.out))) rfl ?_
  exact ⟨rfl, Ext.set2 (Ext.trans x0 y1) (by omega) _ _⟩

end Go.Proofs.Ytomdplbdndadcaa
