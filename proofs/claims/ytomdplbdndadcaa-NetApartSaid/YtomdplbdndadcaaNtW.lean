import Derived.Test.YtomdplbdndadcaaNtV
namespace Go.Proofs.Ytomdplbdndadcaa
open Go.RowKit

set_option maxHeartbeats 8000000 in
theorem put_long (m : Nat) (A : Option Addr) (c : Nat) (E : List EV) (rs : List Raw) (f o : Int) (C : Option Addr) (d : Nat) (r : List UInt8) (w : World) (hA : Es w A c E rs) (hC : Bs w C d r)
    (hc0 : checkN ⟨(m : Int), E⟩ = 0) (_ : m ≤ 7) (_ : E.length ≤ 512) (hr : ∀ e ∈ E, e.r.length ≤ 100000) (b1 : ¬ f < 0) (b2 : ¬ (m : Int) ≤ f) (b3 : ¬ o < -1) (b4 : ¬ (m : Int) ≤ o) (b5 : ¬ o = f) (hrl : 16384 < r.length) (hrm : r.length ≤ 100000) :
    Calls Try.prog 14 #[.agg #[.int .i64 (m : Int), .slice A E.length c], .int .i64 f, .agg #[.int .i64 o, .slice C r.length d]] w fun e w' => e = .returned (.tuple #[.agg #[.int .i64 0, .slice none 0 0], .int .i64 0, .int .i64 3]) ∧ Ext w w' := by
  obtain ⟨i0, hi0, hz0, hz1, hz2⟩ := info_parts env_info
  have HI := Lib.hid hi0
  have HZ0 := Lib.hid hz0
  have HZ1 := Lib.hid hz1
  have HZ2 := Lib.hid hz2
  clear hi0 hz0 hz1 hz2
  have HC0 := Lib.hid hc0
  have HR := Lib.hid hr
  have HCB := Lib.hid hC
  clear hc0 hr hC
  obtain ⟨o1, ho1⟩ : ∃ ob, ob = Obj.cells #[.int .i64 (m : Int), .slice A E.length c] 27 := ⟨_, rfl⟩
  obtain ⟨o2, ho2⟩ : ∃ ob, ob = Obj.cells #[.int .i64 o, .slice C r.length d] 34 := ⟨_, rfl⟩
  obtain ⟨o3, ho3⟩ : ∃ ob, ob = Obj.cells #[.int .i64 0, .slice none 0 0] 27 := ⟨_, rfl⟩
  have x1 := Ext.alloc w o1
  have x2 := Ext.alloc (w.alloc o1) o2
  have x3 := Ext.alloc ((w.alloc o1).alloc o2) o3
  have h1 := heap_alloc_new w o1
  have h2 := heap_alloc_new (w.alloc o1) o2
  have h3 := heap_alloc_new ((w.alloc o1).alloc o2) o3
  have hs1 : (w.alloc o1).heap.size = w.heap.size + 1 := by simp only [World.alloc, Array.size_push]
  have hs2 : ((w.alloc o1).alloc o2).heap.size = w.heap.size + 1 + 1 := by simp only [World.alloc, Array.size_push]
  rw [hs1] at h2
  rw [hs2] at h3
  have h1 := (Below.block (Ext.trans x2 x3) _ (Array.getElem?_eq_some_iff.1 h1).1).trans h1
  have h2 := (Below.block x3 _ (Array.getElem?_eq_some_iff.1 h2).1).trans h2
  have x0 := (Ext.trans (Ext.trans x1 x2) x3)
  clear x1 x2 x3 hs1 hs2
  have H1 := Lib.hid h1
  have H2 := Lib.hid h2
  have H3 := Lib.hid h3
  clear h1 h2 h3
  have X0 := Lib.hid x0
  subst ho1
  subst ho2
  subst ho3
  have hA0 := Lib.hid (hA.below x0)
  have hC0 := Lib.hid (Sl.below HCB.out x0)
  have q1 : decide (f < 0) = false := decide_eq_false b1
  have q2 : decide ((m : Int) ≤ f) = false := decide_eq_false b2
  have q3 : decide (o < -1) = false := decide_eq_false b3
  have q4 : decide ((m : Int) ≤ o) = false := decide_eq_false b4
  have q5 : (o == f) = false := beq_eq_false_iff_ne.2 b5
  have q6 : decide (16384 < (r.length : Int)) = true := decide_eq_true (by omega)
  have HB := Lib.hid (And.intro b1 (And.intro b2 (And.intro b3 (And.intro b4 b5))))
  clear b1 b2 b3 b4 b5
  go_enter Try.func14, Try.ntmps14
  go_wp2_with fail
  generalize ((w.alloc _).alloc _).alloc _ = w0 at *
  have hct := check_any _ ⟨(m : Int), E⟩ rs w0 ⟨A, c, rfl, hA0.out⟩
  rw [HC0.out] at hct
  refine hct.mono ?_
  rintro e w1 ⟨rfl, y1⟩
  have X1 := Lib.hid y1
  have k1 := Lib.hid ((y1.block _ (Array.getElem?_eq_some_iff.1 H1.out).1).trans H1.out)
  have k2 := Lib.hid ((y1.block _ (Array.getElem?_eq_some_iff.1 H2.out).1).trans H2.out)
  have k3 := Lib.hid ((y1.block _ (Array.getElem?_eq_some_iff.1 H3.out).1).trans H3.out)
  have hA1 := Lib.hid (hA0.out.below y1)
  have hC1 := Lib.hid (Sl.below hC0.out y1)
  have m1 : w1.cell? ⟨w.heap.size, 0, none⟩ = some (.int .i64 (m : Int)) := by rw [cell_of_row _ _ _ _ _ _ k1.out]; rfl
  have m2 : w1.cell? ⟨w.heap.size + 1, 0, none⟩ = some (.int .i64 o) := by rw [cell_of_row _ _ _ _ _ _ k2.out]; rfl
  have m3 : w1.cell? ⟨w.heap.size + 1, 1, none⟩ = some (.slice C r.length d) := by rw [cell_of_row _ _ _ _ _ _ k2.out]; rfl
  have hz1 : w.heap.size + 1 + 1 < w1.heap.size := (Array.getElem?_eq_some_iff.1 k3.out).1
  clear hct y1 x0
  have p0 : w1.cell? ⟨w.heap.size + 1 + 1, 0, none⟩ = some (.int .i64 0) := by rw [cell_of_row _ _ _ _ _ _ k3.out]; rfl
  have p1 : w1.cell? ⟨w.heap.size + 1 + 1, 1, none⟩ = some (.slice none 0 0) := by rw [cell_of_row _ _ _ _ _ _ k3.out]; rfl
  have s0 := frozen_of_row w1 (w.heap.size + 1 + 1) 0 _ _ k3.out
  have s1 := frozen_of_row w1 (w.heap.size + 1 + 1) 1 _ _ k3.out
  go_wp2_with fail
  refine bodyPost_ret (results_ctt (fn := Try.f14) (p := 6) (q := 7) (u := 8) (ty := 27) rfl _ _ (w.heap.size + 1 + 1) _ rfl (net_load (cells2 (.int .i64 0) (.slice none 0 0) k3.out))) rfl ?_
  exact ⟨rfl, Ext.set2 (Ext.trans X0.out X1.out) (by omega) _ _⟩
end Go.Proofs.Ytomdplbdndadcaa
