import Derived.Test.YtomdplbdndadcaaNtQ
import Derived.Deep.RegionHeld3
namespace Go.Proofs.Ytomdplbdndadcaa
open Go.RowKit

theorem cell_alloc {w : World} {a : Addr} {v : Value} {o : Obj} (h : w.cell? a = some v) : (w.alloc o).cell? a = some v := by
  rw [World.cell?_of_block (w := w) (Below.heap_alloc _ _ _ (World.block_lt_of_cell? w _ h))]; exact h
theorem cell_drew {w : World} {a : Addr} {v : Value} (h : w.cell? a = some v) : w.drew.cell? a = some v := h
theorem cell_set3 {w : World} {g : Nat} {x y z : Value} {a : Addr} {v : Value} (h : w.cell? a = some v) (hn : a.block ≠ g) :
    (((w.setCell ⟨g, 0, none⟩ x).setCell ⟨g, 1, none⟩ y).setCell ⟨g, 2, none⟩ z).cell? a = some v := by
  rw [World.cell?_of_block (w := w) (other3 x y z _ hn)]; exact h
theorem cell_set2 {w : World} {g : Nat} {x y : Value} {a : Addr} {v : Value} (h : w.cell? a = some v) (hn : a.block ≠ g) :
    ((w.setCell ⟨g, 0, none⟩ x).setCell ⟨g, 1, none⟩ y).cell? a = some v := by
  rw [World.cell?_of_block (w := w) (other2 x y _ hn)]; exact h

theorem results_cct {fn : Func} {p q u : Tmp} {t1 t2 : TypeId} {P : Program} (h : fn.results = #[.cell p t1, .cell q t2, .tmp u]) (tmps : Array Value) (w : World) (g1 g2 : Nat) (v1 v2 : Value)
    (hp : tmps.getD p undef = .pointer (some ⟨g1, 0, none⟩)) (hl : (loadVar t1 ⟨g1, 0, none⟩).run P w = .ok v1 w)
    (hq : tmps.getD q undef = .pointer (some ⟨g2, 0, none⟩)) (hm : (loadVar t2 ⟨g2, 0, none⟩).run P w = .ok v2 w) :
    (results fn tmps).run P w = .ok (.tuple #[v1, v2, tmps.getD u undef]) w := by
  have hp' : tmps[p]?.getD undef = .pointer (some ⟨g1, 0, none⟩) := by simpa using hp
  have hq' : tmps[q]?.getD undef = .pointer (some ⟨g2, 0, none⟩) := by simpa using hq
  simp [results, h, hp', hq', Result.andThen, asAddr, hl, hm]

set_option maxHeartbeats 4000000 in
theorem take_ok (n : Int) (A : Option Addr) (c : Nat) (E : List EV) (rs : List Raw) (j : Nat) (w : World) (hA : Es w A c E rs) (hat : atN ⟨n, E⟩ (j : Int) = 0) (hj : j < E.length) (hE : E.length ≤ 100000) (hr : ∀ e ∈ E, e.r.length ≤ 100000) :
    Calls Try.prog 11 #[.agg #[.int .i64 n, .slice A E.length c], .int .i64 (j : Int)] w fun e w' => ∃ B d ss X q, e = .returned (.tuple #[.agg #[.int .i64 E[j].f, .int .i64 E[j].t, .slice X E[j].r.length q], .agg #[.int .i64 n, .slice B (E.eraseIdx j).length d], .int .i64 0]) ∧ Es w' B d (E.eraseIdx j) ss ∧ (∀ a, B = some a → w.heap.size ≤ a.block) ∧ Fr w' w.heap.size ss ∧ Bs w' X q E[j].r ∧ Fr w' w.heap.size [(X, q)] ∧ Ext w w' := by
  obtain ⟨o1, ho1⟩ : ∃ o, o = Obj.cells #[.int .i64 n, .slice A E.length c] 27 := ⟨_, rfl⟩
  obtain ⟨o2, ho2⟩ : ∃ o, o = Obj.cells #[.int .i64 0, .int .i64 0, .slice none 0 0] 38 := ⟨_, rfl⟩
  obtain ⟨o3, ho3⟩ : ∃ o, o = Obj.cells #[.int .i64 0, .slice none 0 0] 27 := ⟨_, rfl⟩
  have x1 := Ext.alloc w o1
  have x2 := Ext.alloc (w.alloc o1) o2
  have x3 := Ext.alloc ((w.alloc o1).alloc o2) o3
  have h1 := heap_alloc_new w o1
  have h2 := heap_alloc_new (w.alloc o1) o2
  have h3 := heap_alloc_new ((w.alloc o1).alloc o2) o3
  have h1 := ((Ext.trans x2 x3).block _ (Array.getElem?_eq_some_iff.1 h1).1).trans h1
  have h2 := (x3.block _ (Array.getElem?_eq_some_iff.1 h2).1).trans h2
  rw [show (w.alloc o1).heap.size = w.heap.size + 1 by simp only [World.alloc, Array.size_push]] at h2
  rw [show ((w.alloc o1).alloc o2).heap.size = w.heap.size + 1 + 1 by simp only [World.alloc, Array.size_push]] at h3
  have x0 := Ext.trans (Ext.trans x1 x2) x3
  clear x1 x2 x3
  have hA0 := hA.below x0
  subst ho1
  subst ho2
  subst ho3
  have H1 := Lib.hid h1
  have H2 := Lib.hid h2
  have H3 := Lib.hid h3
  have HR := Lib.hid hr
  have HAT := Lib.hid hat
  clear h1 h2 h3 hat hr
  go_enter Try.func11, Try.ntmps11
  go_wp2_with fail
  generalize ((w.alloc _).alloc _).alloc _ = w0 at *
  refine (drop_ok n A c E rs j w0 hA0 HAT.out hj hE HR.out).mono ?_
  rintro e w1 ⟨B, d, ss, rfl, hE2, hB2, hss, y1⟩
  have k1 := Lib.hid ((y1.block _ (Array.getElem?_eq_some_iff.1 H1.out).1).trans H1.out)
  have k2 := Lib.hid ((y1.block _ (Array.getElem?_eq_some_iff.1 H2.out).1).trans H2.out)
  have k3 := Lib.hid ((y1.block _ (Array.getElem?_eq_some_iff.1 H3.out).1).trans H3.out)
  obtain ⟨m, hm⟩ : ∃ m, m = (E.eraseIdx j).length := ⟨_, rfl⟩
  rw [← hm]
  have HM := Lib.hid hm
  clear hm
  have y3 := Ext.alloc w1 (.cells #[.int .i64 n, .slice B m d] 27)
  have K1 := Lib.hid ((y3.block _ (Array.getElem?_eq_some_iff.1 k1.out).1).trans k1.out)
  have K2 := Lib.hid ((y3.block _ (Array.getElem?_eq_some_iff.1 k2.out).1).trans k2.out)
  have K3 := Lib.hid ((y3.block _ (Array.getElem?_eq_some_iff.1 k3.out).1).trans k3.out)
  have K4 := Lib.hid (heap_alloc_new w1 (.cells #[.int .i64 n, .slice B m d] 27))
  have hA1 := Lib.hid (hA0.below (Ext.trans y1 y3))
  have Y1 := Lib.hid y1
  have HSS := Lib.hid hss
  have HB2 := Lib.hid hB2
  have Y3 := Lib.hid y3
  have hE2' := Lib.hid hE2
  have hz1 : w.heap.size + 1 + 1 < w1.heap.size := (Array.getElem?_eq_some_iff.1 k3.out).1
  have e1 : ¬ w1.heap.size = w.heap.size + 1 := by omega
  have e2 : ¬ w.heap.size + 1 = w1.heap.size := by omega
  have e3 : ¬ w1.heap.size = w.heap.size + 1 + 1 := by omega
  have e4 : ¬ w.heap.size + 1 + 1 = w1.heap.size := by omega
  clear y1 y3 hE2 k1 k2 k3 hss hB2
  go_wp2_with fail
  generalize hw2 : w1.alloc _ = w2 at *
  have hs2 : w2.heap.size = w1.heap.size + 1 := by rw [← hw2]; simp only [World.alloc, Array.size_push]
  have HS2 := Lib.hid hs2
  have HW2 := Lib.hid hw2
  clear hs2 hw2
  have hA1 := hA1.out
  obtain ⟨ab, ao, rfl, hcc⟩ := hA1.at (by omega)
  obtain ⟨q1, q2, q3⟩ := hcc j hj (by rw [hA1.len]; exact hj)
  have hraw := hA1.raw j hj (by rw [hA1.len]; exact hj)
  have hrl := HR.out _ (List.getElem_mem hj)
  obtain ⟨q, hq⟩ : ∃ q, q = rs[j]'(by rw [hA1.len]; exact hj) := ⟨_, rfl⟩
  obtain ⟨x, hx⟩ : ∃ x, x = E[j] := ⟨_, rfl⟩
  rw [← hq] at q3 hraw
  rw [← hx] at q1 q2 q3 hraw hrl
  have HX := Lib.hid hx
  have m1 : w2.cell? ⟨w.heap.size, 1, none⟩ = some (.slice (some ⟨ab, ao, none⟩) E.length c) := by rw [cell_of_row _ _ _ _ _ _ K1.out]; rfl
  have m2 : w2.cell? ⟨w1.heap.size, 0, none⟩ = some (.int .i64 n) := by rw [cell_of_row _ _ _ _ _ _ K4.out]; rfl
  have m3 : w2.cell? ⟨w1.heap.size, 1, none⟩ = some (.slice B m d) := by rw [cell_of_row _ _ _ _ _ _ K4.out]; rfl
  have hraw2 := Lib.hid hraw.drew
  have hl1 := World.block_lt_of_cell? w2 _ m1
  have hl2 := World.block_lt_of_cell? w2 _ m2
  have hl3 := World.block_lt_of_cell? w2 _ q1
  have HL := Lib.hid (And.intro hl1 (And.intro hl2 hl3))
  have hab : ab < w.heap.size := by
    obtain ⟨b', o', he, hc'⟩ := hA.at (by omega)
    obtain ⟨k', _, _⟩ := hc' j hj (by rw [hA.len]; exact hj)
    cases he
    exact World.block_lt_of_cell? w _ k'
  have HAB := Lib.hid hab
  clear hcc hq hx hraw hl1 hl2 hl3 hab
  go_region_held3 (fun u => u.cell? ⟨w.heap.size, 1, none⟩ = some (.slice (some ⟨ab, ao, none⟩) E.length c) ∧ u.cell? ⟨ab, ao + j * 3, none⟩ = some (.int .i64 x.f) ∧ u.cell? ⟨ab, ao + j * 3 + 1, none⟩ = some (.int .i64 x.t) ∧ u.cell? ⟨ab, ao + j * 3 + 2, none⟩ = some (.slice q.1 x.r.length q.2) ∧ u.cell? ⟨w1.heap.size, 0, none⟩ = some (.int .i64 n) ∧ u.cell? ⟨w1.heap.size, 1, none⟩ = some (.slice B m d)) (refine ⟨?_, ?_, ?_, ?_, ?_, ?_⟩ <;> first | with_reducible assumption | (with_reducible refine cell_drew ?_; with_reducible assumption) | ((with_reducible refine cell_set3 ?_ ?_) <;> (first | with_reducible assumption | (have := HAB.out; dsimp only; omega))) | ((with_reducible refine cell_set2 (cell_set3 ?_ ?_) ?_) <;> (first | with_reducible assumption | (have := HAB.out; dsimp only; omega)))) (first
    | (go_at_call 23
       refine (own_any x.f x.t q.1 q.2 x.r w2.drew hraw2.out (by omega)).mono ?_
       rintro e w3 ⟨X, xc, rfl, hX, hXb, y4⟩
       have J2 := (y4.block _ (Array.getElem?_eq_some_iff.1 K2.out).1).trans K2.out
       have J3 := (y4.block _ (Array.getElem?_eq_some_iff.1 K3.out).1).trans K3.out
       have J4 := (y4.block _ (Array.getElem?_eq_some_iff.1 K4.out).1).trans K4.out
       have JJ2 := Lib.hid J2
       have JJ3 := Lib.hid J3
       have JJ4 := Lib.hid J4
       have n0 : w3.cell? ⟨w1.heap.size, 0, none⟩ = some (.int .i64 n) := by rw [cell_of_row _ _ _ _ _ _ J4]; rfl
       have n1 : w3.cell? ⟨w1.heap.size, 1, none⟩ = some (.slice B m d) := by rw [cell_of_row _ _ _ _ _ _ J4]; rfl
       have n2 : w3.cell? ⟨w.heap.size + 1, 0, none⟩ = some (.int .i64 0) := by rw [cell_of_row _ _ _ _ _ _ J2]; rfl
       have n3 : w3.cell? ⟨w.heap.size + 1, 1, none⟩ = some (.int .i64 0) := by rw [cell_of_row _ _ _ _ _ _ J2]; rfl
       have n4 : w3.cell? ⟨w.heap.size + 1, 2, none⟩ = some (.slice none 0 0) := by rw [cell_of_row _ _ _ _ _ _ J2]; rfl
       have n5 : w3.cell? ⟨w.heap.size + 1 + 1, 0, none⟩ = some (.int .i64 0) := by rw [cell_of_row _ _ _ _ _ _ J3]; rfl
       have n6 : w3.cell? ⟨w.heap.size + 1 + 1, 1, none⟩ = some (.slice none 0 0) := by rw [cell_of_row _ _ _ _ _ _ J3]; rfl
       have p1 : w3.cell? ⟨w.heap.size, 1, none⟩ = some (.slice (some ⟨ab, ao, none⟩) E.length c) := by rw [y4.cell (by have := HL.out; exact this.1)]; exact m1
       have p2 : w3.cell? ⟨ab, ao + j * 3, none⟩ = some (.int .i64 x.f) := by rw [y4.cell (by have := HL.out; exact this.2.2)]; exact q1
       have p3 : w3.cell? ⟨ab, ao + j * 3 + 1, none⟩ = some (.int .i64 x.t) := by rw [y4.cell (by have := HL.out; exact this.2.2)]; exact q2
       have p4 : w3.cell? ⟨ab, ao + j * 3 + 2, none⟩ = some (.slice q.1 x.r.length q.2) := by rw [y4.cell (by have := HL.out; exact this.2.2)]; exact q3
       have o1 := frozen_of_row w3 (w.heap.size + 1) 0 _ _ J2
       have o2 := frozen_of_row w3 (w.heap.size + 1) 1 _ _ J2
       have o3 := frozen_of_row w3 (w.heap.size + 1) 2 _ _ J2
       have o4 := frozen_of_row w3 (w.heap.size + 1 + 1) 0 _ _ J3
       have o5 := frozen_of_row w3 (w.heap.size + 1 + 1) 1 _ _ J3
       have Y4 := Lib.hid y4
       have hX' := Lib.hid hX
       have hXb' := Lib.hid hXb
       clear J2 J3 J4 y4 hX hXb)
    | fail)
  all_goals
    go_wp2_with fail
    have r3 := cells3 (.int .i64 x.f) (.int .i64 x.t) (.slice X x.r.length xc) JJ2.out
    have r2 := (other3 (w := w3) (g := w.heap.size + 1) (.int .i64 x.f) (.int .i64 x.t) (.slice X x.r.length xc) (w.heap.size + 1 + 1) (by omega)).trans JJ3.out
    have r4 := (other2 (g := w.heap.size + 1 + 1) (.int .i64 n) (.slice B m d) (w.heap.size + 1) (by omega)).trans r3
    have r5 := cells2 (.int .i64 n) (.slice B m d) r2
    have l1 := env_load r4
    have l2 := net_load r5
    refine bodyPost_ret (results_cct (fn := Try.f11) (p := 4) (q := 5) (u := 6) (t1 := 38) (t2 := 27) rfl _ _ (w.heap.size + 1) (w.heap.size + 1 + 1) _ _ rfl l1 rfl l2) rfl ?_
    have hx := HX.out
    have hm := HM.out
    have hs0 := x0.size
    have hs1 := Y1.out.size
    have hs2 := HS2.out
    have hs3 := Y4.out.size
    have hbb := fun a ha => HB2.out a ha
    have hlt0 : w.heap.size + 1 + 1 < w0.heap.size := (Array.getElem?_eq_some_iff.1 H3.out).1
    have hoth : ∀ k, k ≠ w.heap.size + 1 → k ≠ w.heap.size + 1 + 1 → (((((w3.setCell ⟨w.heap.size + 1, 0, none⟩ (.int .i64 x.f)).setCell ⟨w.heap.size + 1, 1, none⟩ (.int .i64 x.t)).setCell ⟨w.heap.size + 1, 2, none⟩ (.slice X x.r.length xc)).setCell ⟨w.heap.size + 1 + 1, 0, none⟩ (.int .i64 n)).setCell ⟨w.heap.size + 1 + 1, 1, none⟩ (.slice B m d)).heap[k]? = w3.heap[k]? := fun k h1 h2 => by
      rw [other2 _ _ _ h2, other3 _ _ _ _ h1]
    have hE3 : Es w3 B d (E.eraseIdx j) ss := (hE2'.out.below Y3.out).below (Ext.trans (Ext.drew w2) Y4.out)
    subst hx
    subst hm
    have hS3 : Fr w3 w.heap.size ss := HSS.out.ext (by omega) (Ext.trans Y3.out (Ext.trans (Ext.drew w2) Y4.out))
    have hX3 : Fr w3 w.heap.size [(X, xc)] := by
      intro q' hq' a ha
      simp at hq'
      subst hq'
      obtain ⟨hge, hcur⟩ := hXb'.out a ha
      have : w2.drew.heap.size = w2.heap.size := rfl
      exact ⟨by omega, hcur⟩
    have hkS : ∀ rs', Fr w3 w.heap.size rs' → ∀ q ∈ rs', ∀ a, q.1 = some a → (((((w3.setCell ⟨w.heap.size + 1, 0, none⟩ (.int .i64 E[j].f)).setCell ⟨w.heap.size + 1, 1, none⟩ (.int .i64 E[j].t)).setCell ⟨w.heap.size + 1, 2, none⟩ (.slice X E[j].r.length xc)).setCell ⟨w.heap.size + 1 + 1, 0, none⟩ (.int .i64 n)).setCell ⟨w.heap.size + 1 + 1, 1, none⟩ (.slice B (E.eraseIdx j).length d)).heap[a.block]? = w3.heap[a.block]? := fun rs' h q hq a ha => hoth _ (h.ne hq ha JJ2.out (by decide)) (h.ne hq ha JJ3.out (by decide))
    refine ⟨B, d, ss, X, xc, rfl, ⟨hE3.len, hE3.sl.keep (fun a ha _ => hoth _ (by have := hbb a ha; omega) (by have := hbb a ha; omega)), fun i h1 h2 => Sl.keep (hE3.raw i h1 h2) (fun a ha _ => hkS ss hS3 _ (List.getElem_mem h2) a ha)⟩, fun a ha => by have := hbb a ha; omega, hS3.kept (Nat.le_refl _) (fun q hq a ha _ => hkS ss hS3 q hq a ha), Sl.keep hX'.out (fun a ha _ => hkS _ hX3 (X, xc) (by simp) a ha), hX3.kept (Nat.le_refl _) (fun q hq a ha _ => hkS _ hX3 q hq a ha), ?_⟩
    exact Ext.set2 (Ext.set3 (Ext.trans (Ext.trans x0 Y1.out) (Ext.trans Y3.out (Ext.trans (Ext.drew w2) Y4.out))) (by omega) _ _ _) (by omega) _ _
end Go.Proofs.Ytomdplbdndadcaa
