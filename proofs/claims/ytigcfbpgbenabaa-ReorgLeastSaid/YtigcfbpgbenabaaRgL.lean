import Derived.Test.YtigcfbpgbenabaaRgK
import Derived.Deep.RegionWith
namespace Go.Proofs.Ytigcfbpgbenabaa
open Go.RowKit

theorem plan_info58 : (Try.prog.info? 58).map (·.size) = some 3 := by kernel_rfl
theorem plan_load58 {w : World} {g : Nat} {a b c : Value} (hg : w.heap[g]? = some (.cells #[a, b, c] 58 (0, 0))) :
    (loadVar 58 ⟨g, 0, none⟩).run Try.prog w = .ok (.agg #[a, b, c]) w :=
  run_loadVar_row w g 58 58 #[a, b, c] (0, 0) _ hg Try.underlying58 rfl plan_info58
theorem cells2 {w : World} {g : Nat} {a b c : Value} {t : TypeId} (y z : Value) (hg : w.heap[g]? = some (.cells #[a, b, c] t (0, 0))) :
    ((w.setCell ⟨g, 1, none⟩ y).setCell ⟨g, 2, none⟩ z).heap[g]? = some (.cells #[a, y, z] t (0, 0)) := by
  have h2 := heap_setCell_same _ g 1 _ t y hg
  have h3 := heap_setCell_same _ g 2 _ t z h2
  simpa using h3
theorem other2 {w : World} {g : Nat} (y z : Value) (k : Nat) (h : k ≠ g) :
    ((w.setCell ⟨g, 1, none⟩ y).setCell ⟨g, 2, none⟩ z).heap[k]? = w.heap[k]? := by
  rw [heap_setCell_other _ _ _ _ h, heap_setCell_other _ _ _ _ h]
theorem Ext.set2 {a w : World} {g : Nat} (h : Ext a w) (hg : a.heap.size ≤ g) (y z : Value) :
    Ext a ((w.setCell ⟨g, 1, none⟩ y).setCell ⟨g, 2, none⟩ z) :=
  ((Below.setCell h (p := ⟨g, 1, none⟩) hg y).setCell (p := ⟨g, 2, none⟩) hg z)

set_option maxHeartbeats 2000000 in
theorem plan_any (v : Value) (P : PV) (w : World) (hv : IsPlan w v P) (hu : P.u.length ≤ 4000000000000) (hd : P.d.length ≤ 4000000000000) :
    Calls Try.prog 15 #[v] w fun e w' => ∃ v, e = .returned v ∧ IsPlan w' v P ∧ Ext w w' := by
  obtain ⟨A, c, B, d, rfl, hA, hB⟩ := hv
  obtain ⟨K, U, D⟩ := P
  simp only at *
  obtain ⟨o1, ho1⟩ : ∃ o, o = Obj.cells #[.int .i64 K, .slice A U.length c, .slice B D.length d] 25 := ⟨_, rfl⟩
  obtain ⟨o2, ho2⟩ : ∃ o, o = Obj.cells #[.int .i64 0, .slice none 0 0, .slice none 0 0] 25 := ⟨_, rfl⟩
  have h1 := heap_alloc_new w o1
  have h2 := heap_alloc_new (w.alloc o1) o2
  have x1 : Ext w (w.alloc o1) := (Below.refl _ w).alloc (Nat.le_refl _) _
  have x2 : Ext (w.alloc o1) ((w.alloc o1).alloc o2) := (Below.refl _ _).alloc (Nat.le_refl _) _
  have h1 := (x2.block _ (Array.getElem?_eq_some_iff.1 h1).1).trans h1
  rw [show (w.alloc o1).heap.size = w.heap.size + 1 by simp only [World.alloc, Array.size_push]] at h2
  have x0 := Ext.trans x1 x2
  have hA := hA.below x0
  have hB := hB.below x0
  clear x1 x2
  subst ho1
  subst ho2
  go_enter Try.func15, Try.ntmps15
  go_wp2_with fail
  generalize (w.alloc _).alloc _ = w0 at *
  have hlt1 := (Array.getElem?_eq_some_iff.1 h1).1
  have hlt2 := (Array.getElem?_eq_some_iff.1 h2).1
  have m00 : w0.cell? ⟨w.heap.size, 0, none⟩ = some (.int .i64 K) := by rw [cell_of_row _ _ _ _ _ _ h1]; rfl
  have m10 : w0.cell? ⟨w.heap.size, 1, none⟩ = some (.slice A U.length c) := by rw [cell_of_row _ _ _ _ _ _ h1]; rfl
  have m20 : w0.cell? ⟨w.heap.size, 2, none⟩ = some (.slice B D.length d) := by rw [cell_of_row _ _ _ _ _ _ h1]; rfl
  have n10 := frozen_of_row w0 w.heap.size 1 _ _ h1
  have n20 := frozen_of_row w0 w.heap.size 2 _ _ h1
  go_region_with (first
    | (go_at_call 12
       refine (kitnames_any B d D _ (hB.drew.below x4) hd).mono ?_
       rintro e w5 ⟨v2, rfl, hown2, x5⟩
       obtain ⟨Av2, cv2, rfl, hsv2, hgev2⟩ := Sl.of_own hown2
       have x05 : Ext w0 w5 := Ext.trans (Ext.trans (Ext.drew w0) x4) x5
       have h15 := (x05.block _ hlt1).trans h1
       have m05 : w5.cell? ⟨w.heap.size, 0, none⟩ = some (.int .i64 K) := by rw [cell_of_row _ _ _ _ _ _ h15]; rfl
       have m15 : w5.cell? ⟨w.heap.size, 1, none⟩ = some (.slice A U.length c) := by rw [cell_of_row _ _ _ _ _ _ h15]; rfl
       have m25 : w5.cell? ⟨w.heap.size, 2, none⟩ = some (.slice B D.length d) := by rw [cell_of_row _ _ _ _ _ _ h15]; rfl
       have n15 := frozen_of_row w5 w.heap.size 1 _ _ h15
       have n25 := frozen_of_row w5 w.heap.size 2 _ _ h15
       )
    | (go_at_call 12
       refine (kitnames_any A c U w0.drew hA.drew hu).mono ?_
       rintro e w4 ⟨v1, rfl, hown1, x4⟩
       obtain ⟨Av1, cv1, rfl, hsv1, hgev1⟩ := Sl.of_own hown1
       have h14 := ((Ext.trans (Ext.drew w0) x4).block _ hlt1).trans h1
       have m04 : w4.cell? ⟨w.heap.size, 0, none⟩ = some (.int .i64 K) := by rw [cell_of_row _ _ _ _ _ _ h14]; rfl
       have m14 : w4.cell? ⟨w.heap.size, 1, none⟩ = some (.slice A U.length c) := by rw [cell_of_row _ _ _ _ _ _ h14]; rfl
       have m24 : w4.cell? ⟨w.heap.size, 2, none⟩ = some (.slice B D.length d) := by rw [cell_of_row _ _ _ _ _ _ h14]; rfl
       have n14 := frozen_of_row w4 w.heap.size 1 _ _ h14
       have n24 := frozen_of_row w4 w.heap.size 2 _ _ h14
       )
    | fail)
  all_goals
    have hg1 := cells2 (.slice Av1 U.length cv1) (.slice Av2 D.length cv2) h15
    have hg2 : ((w5.setCell ⟨w.heap.size, 1, none⟩ (.slice Av1 U.length cv1)).setCell ⟨w.heap.size, 2, none⟩ (.slice Av2 D.length cv2)).heap[w.heap.size + 1]? = _ := (other2 _ _ _ (by omega)).trans ((x05.block _ hlt2).trans h2)
    have hz5 : w0.heap.size ≤ w4.heap.size := x4.size
    have hgev1 : ∀ a, Av1 = some a → w0.heap.size ≤ a.block := hgev1
    have d1 : Ds w4 Av1 cv1 U := ⟨hsv1, hA.ok⟩
    have d2 : Ds w5 Av2 cv2 D := ⟨hsv2, hB.ok⟩
    have f1 := (d1.below x5).keep (w' := (w5.setCell ⟨w.heap.size, 1, none⟩ (.slice Av1 U.length cv1)).setCell ⟨w.heap.size, 2, none⟩ (.slice Av2 D.length cv2)) (fun a ha _ => other2 _ _ _ (by have := hgev1 a ha; omega))
    have f2 := d2.keep (w' := (w5.setCell ⟨w.heap.size, 1, none⟩ (.slice Av1 U.length cv1)).setCell ⟨w.heap.size, 2, none⟩ (.slice Av2 D.length cv2)) (fun a ha _ => other2 _ _ _ (by have := hgev2 a ha; omega))
    have xw : Ext w ((w5.setCell ⟨w.heap.size, 1, none⟩ (.slice Av1 U.length cv1)).setCell ⟨w.heap.size, 2, none⟩ (.slice Av2 D.length cv2)) := (Ext.trans x0 x05).set2 (Nat.le_refl _) _ _
    clear m05 m15 m25 n15 n25 m04 m14 m24 n14 n24 m00 m10 m20 n10 n20
    generalize (w5.setCell ⟨w.heap.size, 1, none⟩ (.slice Av1 U.length cv1)).setCell ⟨w.heap.size, 2, none⟩ (.slice Av2 D.length cv2) = w6 at *
    have q0 : w6.cell? ⟨w.heap.size, 0, none⟩ = some (.int .i64 K) := by rw [cell_of_row _ _ _ _ _ _ hg1]; rfl
    have q1 : w6.cell? ⟨w.heap.size, 1, none⟩ = some (.slice Av1 U.length cv1) := by rw [cell_of_row _ _ _ _ _ _ hg1]; rfl
    have q2 : w6.cell? ⟨w.heap.size, 2, none⟩ = some (.slice Av2 D.length cv2) := by rw [cell_of_row _ _ _ _ _ _ hg1]; rfl
    have r0 : w6.cell? ⟨w.heap.size + 1, 0, none⟩ = some (.int .i64 0) := by rw [cell_of_row _ _ _ _ _ _ hg2]; rfl
    have r1 : w6.cell? ⟨w.heap.size + 1, 1, none⟩ = some (.slice none 0 0) := by rw [cell_of_row _ _ _ _ _ _ hg2]; rfl
    have r2 : w6.cell? ⟨w.heap.size + 1, 2, none⟩ = some (.slice none 0 0) := by rw [cell_of_row _ _ _ _ _ _ hg2]; rfl
    have s0 := frozen_of_row w6 (w.heap.size + 1) 0 _ _ hg2
    have s1 := frozen_of_row w6 (w.heap.size + 1) 1 _ _ hg2
    have s2 := frozen_of_row w6 (w.heap.size + 1) 2 _ _ hg2
    go_wp2_with fail
    refine bodyPost_ret (results_plan1 rfl _ _ (w.heap.size + 1) _ rfl (plan_load (cells3 (.int .i64 K) (.slice Av1 U.length cv1) (.slice Av2 D.length cv2) hg2))) rfl ?_
    exact ⟨_, rfl, ⟨Av1, cv1, Av2, cv2, rfl, f1.keep (fun a ha _ => other3 _ _ _ _ (by have := hgev1 a ha; omega)), f2.keep (fun a ha _ => other3 _ _ _ _ (by have := hgev2 a ha; omega))⟩, xw.set3 (by omega) _ _ _⟩

set_option maxHeartbeats 2000000 in
theorem turned_any (v : Value) (P : PV) (w : World) (hv : IsPlan w v P) (hu : P.u.length ≤ 4000000000000) (hd : P.d.length ≤ 4000000000000) :
    Calls Try.prog 32 #[v] w fun e w' => ∃ v, e = .returned v ∧ IsPlan w' v ⟨P.k, P.d, P.u⟩ ∧ Ext w w' := by
  obtain ⟨A, c, B, d, rfl, hA, hB⟩ := hv
  obtain ⟨K, U, D⟩ := P
  simp only at *
  obtain ⟨o1, ho1⟩ : ∃ o, o = Obj.cells #[.int .i64 K, .slice A U.length c, .slice B D.length d] 58 := ⟨_, rfl⟩
  obtain ⟨o2, ho2⟩ : ∃ o, o = Obj.cells #[.int .i64 0, .slice none 0 0, .slice none 0 0] 58 := ⟨_, rfl⟩
  have h1 := heap_alloc_new w o1
  have h2 := heap_alloc_new (w.alloc o1) o2
  have x1 : Ext w (w.alloc o1) := (Below.refl _ w).alloc (Nat.le_refl _) _
  have x2 : Ext (w.alloc o1) ((w.alloc o1).alloc o2) := (Below.refl _ _).alloc (Nat.le_refl _) _
  have h1 := (x2.block _ (Array.getElem?_eq_some_iff.1 h1).1).trans h1
  rw [show (w.alloc o1).heap.size = w.heap.size + 1 by simp only [World.alloc, Array.size_push]] at h2
  have x0 := Ext.trans x1 x2
  have hA := hA.below x0
  have hB := hB.below x0
  clear x1 x2
  subst ho1
  subst ho2
  go_enter Try.func32, Try.ntmps32
  go_wp2_with fail
  generalize (w.alloc _).alloc _ = w0 at *
  have hlt1 := (Array.getElem?_eq_some_iff.1 h1).1
  have hlt2 := (Array.getElem?_eq_some_iff.1 h2).1
  have m00 : w0.cell? ⟨w.heap.size, 0, none⟩ = some (.int .i64 K) := by rw [cell_of_row _ _ _ _ _ _ h1]; rfl
  have m10 : w0.cell? ⟨w.heap.size, 1, none⟩ = some (.slice A U.length c) := by rw [cell_of_row _ _ _ _ _ _ h1]; rfl
  have m20 : w0.cell? ⟨w.heap.size, 2, none⟩ = some (.slice B D.length d) := by rw [cell_of_row _ _ _ _ _ _ h1]; rfl
  have n10 := frozen_of_row w0 w.heap.size 1 _ _ h1
  have n20 := frozen_of_row w0 w.heap.size 2 _ _ h1
  go_region_with (first
    | (go_at_call 26
       refine (clone_any A c U _ (hA.drew.below x4) hu).mono ?_
       rintro e w5 ⟨v2, rfl, hown2, x5⟩
       obtain ⟨Av2, cv2, rfl, hsv2, hgev2⟩ := Sl.of_own hown2
       have x05 : Ext w0 w5 := Ext.trans (Ext.trans (Ext.drew w0) x4) x5
       have h15 := (x05.block _ hlt1).trans h1
       have m05 : w5.cell? ⟨w.heap.size, 0, none⟩ = some (.int .i64 K) := by rw [cell_of_row _ _ _ _ _ _ h15]; rfl
       have m15 : w5.cell? ⟨w.heap.size, 1, none⟩ = some (.slice A U.length c) := by rw [cell_of_row _ _ _ _ _ _ h15]; rfl
       have m25 : w5.cell? ⟨w.heap.size, 2, none⟩ = some (.slice B D.length d) := by rw [cell_of_row _ _ _ _ _ _ h15]; rfl
       have n15 := frozen_of_row w5 w.heap.size 1 _ _ h15
       have n25 := frozen_of_row w5 w.heap.size 2 _ _ h15
       )
    | (go_at_call 26
       refine (clone_any B d D w0.drew hB.drew hd).mono ?_
       rintro e w4 ⟨v1, rfl, hown1, x4⟩
       obtain ⟨Av1, cv1, rfl, hsv1, hgev1⟩ := Sl.of_own hown1
       have h14 := ((Ext.trans (Ext.drew w0) x4).block _ hlt1).trans h1
       have m04 : w4.cell? ⟨w.heap.size, 0, none⟩ = some (.int .i64 K) := by rw [cell_of_row _ _ _ _ _ _ h14]; rfl
       have m14 : w4.cell? ⟨w.heap.size, 1, none⟩ = some (.slice A U.length c) := by rw [cell_of_row _ _ _ _ _ _ h14]; rfl
       have m24 : w4.cell? ⟨w.heap.size, 2, none⟩ = some (.slice B D.length d) := by rw [cell_of_row _ _ _ _ _ _ h14]; rfl
       have n14 := frozen_of_row w4 w.heap.size 1 _ _ h14
       have n24 := frozen_of_row w4 w.heap.size 2 _ _ h14
       )
    | fail)
  all_goals
    have hg1 := cells2 (.slice Av1 D.length cv1) (.slice Av2 U.length cv2) h15
    have hg2 : ((w5.setCell ⟨w.heap.size, 1, none⟩ (.slice Av1 D.length cv1)).setCell ⟨w.heap.size, 2, none⟩ (.slice Av2 U.length cv2)).heap[w.heap.size + 1]? = _ := (other2 _ _ _ (by omega)).trans ((x05.block _ hlt2).trans h2)
    have hz5 : w0.heap.size ≤ w4.heap.size := x4.size
    have hgev1 : ∀ a, Av1 = some a → w0.heap.size ≤ a.block := hgev1
    have d1 : Ds w4 Av1 cv1 D := ⟨hsv1, hB.ok⟩
    have d2 : Ds w5 Av2 cv2 U := ⟨hsv2, hA.ok⟩
    have f1 := (d1.below x5).keep (w' := (w5.setCell ⟨w.heap.size, 1, none⟩ (.slice Av1 D.length cv1)).setCell ⟨w.heap.size, 2, none⟩ (.slice Av2 U.length cv2)) (fun a ha _ => other2 _ _ _ (by have := hgev1 a ha; omega))
    have f2 := d2.keep (w' := (w5.setCell ⟨w.heap.size, 1, none⟩ (.slice Av1 D.length cv1)).setCell ⟨w.heap.size, 2, none⟩ (.slice Av2 U.length cv2)) (fun a ha _ => other2 _ _ _ (by have := hgev2 a ha; omega))
    have xw : Ext w ((w5.setCell ⟨w.heap.size, 1, none⟩ (.slice Av1 D.length cv1)).setCell ⟨w.heap.size, 2, none⟩ (.slice Av2 U.length cv2)) := (Ext.trans x0 x05).set2 (Nat.le_refl _) _ _
    clear m05 m15 m25 n15 n25 m04 m14 m24 n14 n24 m00 m10 m20 n10 n20
    generalize (w5.setCell ⟨w.heap.size, 1, none⟩ (.slice Av1 D.length cv1)).setCell ⟨w.heap.size, 2, none⟩ (.slice Av2 U.length cv2) = w6 at *
    have q0 : w6.cell? ⟨w.heap.size, 0, none⟩ = some (.int .i64 K) := by rw [cell_of_row _ _ _ _ _ _ hg1]; rfl
    have q1 : w6.cell? ⟨w.heap.size, 1, none⟩ = some (.slice Av1 D.length cv1) := by rw [cell_of_row _ _ _ _ _ _ hg1]; rfl
    have q2 : w6.cell? ⟨w.heap.size, 2, none⟩ = some (.slice Av2 U.length cv2) := by rw [cell_of_row _ _ _ _ _ _ hg1]; rfl
    have r0 : w6.cell? ⟨w.heap.size + 1, 0, none⟩ = some (.int .i64 0) := by rw [cell_of_row _ _ _ _ _ _ hg2]; rfl
    have r1 : w6.cell? ⟨w.heap.size + 1, 1, none⟩ = some (.slice none 0 0) := by rw [cell_of_row _ _ _ _ _ _ hg2]; rfl
    have r2 : w6.cell? ⟨w.heap.size + 1, 2, none⟩ = some (.slice none 0 0) := by rw [cell_of_row _ _ _ _ _ _ hg2]; rfl
    have s0 := frozen_of_row w6 (w.heap.size + 1) 0 _ _ hg2
    have s1 := frozen_of_row w6 (w.heap.size + 1) 1 _ _ hg2
    have s2 := frozen_of_row w6 (w.heap.size + 1) 2 _ _ hg2
    go_wp2_with fail
    refine bodyPost_ret (results_plan1 rfl _ _ (w.heap.size + 1) _ rfl (plan_load58 (cells3 (.int .i64 K) (.slice Av1 D.length cv1) (.slice Av2 U.length cv2) hg2))) rfl ?_
    exact ⟨_, rfl, ⟨Av1, cv1, Av2, cv2, rfl, f1.keep (fun a ha _ => other3 _ _ _ _ (by have := hgev1 a ha; omega)), f2.keep (fun a ha _ => other3 _ _ _ _ (by have := hgev2 a ha; omega))⟩, xw.set3 (by omega) _ _ _⟩
end Go.Proofs.Ytigcfbpgbenabaa
