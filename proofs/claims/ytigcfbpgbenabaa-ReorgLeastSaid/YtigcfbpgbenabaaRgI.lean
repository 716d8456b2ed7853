import Derived.Test.YtigcfbpgbenabaaPl
import Derived.Deep.RegionWith
namespace Go.Proofs.Ytigcfbpgbenabaa
open Go.RowKit

set_option maxHeartbeats 1000000 in
theorem from_ok (A : Option Addr) (c : Nat) (L : List (List UInt8)) (B : Option Addr) (d : Nat) (M : List (List UInt8)) (w : World) (hA : Ds w A c L) (hB : Ds w B d M) (hl : L.length ≤ 3000000000000) (hm : M.length ≤ 3000000000000) (hL : L.Nodup) (hM : M.Nodup) :
    Calls Try.prog 11 #[.slice A L.length c, .slice B M.length d] w fun e w' => ∃ v, e = .returned (.tuple #[v, .int .i64 0]) ∧ IsPlan w' v ⟨(common L M : Nat), L.drop (common L M), M.drop (common L M)⟩ ∧ Ext w w' := by
  have HL := Lib.hid (decide_eq_true hL)
  have HM := Lib.hid (decide_eq_true hM)
  clear hL hM
  obtain ⟨k, hk⟩ : ∃ k, k = common L M := ⟨_, rfl⟩
  have hk1 : k ≤ L.length := by rw [hk]; exact (common_le L M).1
  have hk2 : k ≤ M.length := by rw [hk]; exact (common_le L M).2.1
  rw [← hk]
  have hc1 := hA.sl.le
  have hd1 := hB.sl.le
  have HK := Lib.hid hk
  clear hk
  go_enter Try.func11, Try.ntmps11
  go_wp2_with fail
  have x0 : Ext w (w.alloc (Obj.cells #[.int .i64 0, .slice none 0 0, .slice none 0 0] 25)) := (Below.refl _ w).alloc (Nat.le_refl _) _
  have hA0 := hA.alloc (Obj.cells #[.int .i64 0, .slice none 0 0, .slice none 0 0] 25)
  have hB0 := hB.alloc (Obj.cells #[.int .i64 0, .slice none 0 0, .slice none 0 0] 25)
  refine (once_any A c L _ hA0 hl).mono ?_
  rw [HL.out]
  rintro e w1 ⟨rfl, x1⟩
  go_wp2_with fail
  refine (once_any B d M _ (hB0.below x1) hm).mono ?_
  rw [HM.out]
  rintro e w2 ⟨rfl, x2⟩
  go_wp2_with fail
  refine (common_any A c L B d M _ ((hA0.below x1).below x2) ((hB0.below x1).below x2)).mono ?_
  rw [← HK.out]
  rintro e w3 ⟨rfl, x3⟩
  have hblk3 : w3.heap[w.heap.size]? = some (.cells #[.int .i64 0, .slice none 0 0, .slice none 0 0] 25 (0, 0)) := by
    have h0 := heap_alloc_new w (.cells #[.int .i64 0, .slice none 0 0, .slice none 0 0] 25)
    have x13 := Ext.trans (Ext.trans x1 x2) x3
    exact (x13.block _ (Array.getElem?_eq_some_iff.1 h0).1).trans h0
  have hA3 : Ds w3 A c L := ((hA0.below x1).below x2).below x3
  have hB3 : Ds w3 B d M := ((hB0.below x1).below x2).below x3
  have hcA := hA3.cut (lo := k) (hi := L.length) hk1 (Nat.le_refl _)
  have hcB := hB3.cut (lo := k) (hi := M.length) hk2 (Nat.le_refl _)
  rw [List.take_length] at hcA hcB
  have e1 : (L.drop k).length = L.length - k := by simp
  have e2 : (M.drop k).length = M.length - k := by simp
  have E1 := Lib.hid e1
  have E2 := Lib.hid e2
  clear e1 e2
  go_wp2_with fail
  go_region_with (first
    | (go_at_call 26
       rw [← E2.out]
       refine (clone_any _ _ (M.drop k) w4 hcB4 (by simp; omega)).mono ?_
       rintro e w5 ⟨v2, rfl, hown2, x5⟩
       obtain ⟨Av2, cv2, rfl, hsv2, hgev2⟩ := Sl.of_own hown2
       have x35 : Ext w3.drew w5 := Ext.trans x4 x5
       have hblk5 : w5.heap[w.heap.size]? = some (.cells #[.int .i64 0, .slice none 0 0, .slice none 0 0] 25 (0, 0)) := (x35.block _ (Array.getElem?_eq_some_iff.1 hblk3).1).trans hblk3
       have m0 : w5.cell? ⟨w.heap.size, 0, none⟩ = some (.int .i64 0) := by rw [cell_of_row _ _ _ _ _ _ hblk5]; rfl
       have m1 : w5.cell? ⟨w.heap.size, 1, none⟩ = some (.slice none 0 0) := by rw [cell_of_row _ _ _ _ _ _ hblk5]; rfl
       have m2 : w5.cell? ⟨w.heap.size, 2, none⟩ = some (.slice none 0 0) := by rw [cell_of_row _ _ _ _ _ _ hblk5]; rfl
       have n0 := frozen_of_row w5 w.heap.size 0 _ _ hblk5
       have n1 := frozen_of_row w5 w.heap.size 1 _ _ hblk5
       have n2 := frozen_of_row w5 w.heap.size 2 _ _ hblk5)
    | (go_at_call 26
       go_loud (
       generalize (if c = k then A else Option.map (fun x => x.add (k * 32)) A) = A1 at *
       generalize (if d = k then B else Option.map (fun x => x.add (k * 32)) B) = B1 at *
       rw [← E1.out]
       refine (clone_any _ _ (L.drop k) w3.drew hcA.drew (by simp; omega)).mono ?_
       rintro e w4 ⟨v1, rfl, hown1, x4⟩
       obtain ⟨Av1, cv1, rfl, hsv1, hgev1⟩ := Sl.of_own hown1
       have hcB4 := hcB.drew.below x4))
    | fail)
  go_wp2_with fail
  have hblk8 := cells3 (.int .i64 k) (.slice Av1 (L.length - k) cv1) (.slice Av2 (M.length - k) cv2) hblk5
  have xw : Ext w w5 := Ext.trans (Ext.trans (Ext.trans (Ext.trans (Ext.trans x0 x1) x2) x3) (Ext.drew w3)) x35
  have hz3 : w.heap.size < w3.heap.size := (Array.getElem?_eq_some_iff.1 hblk3).1
  have hz4 : w3.heap.size ≤ w4.heap.size := x4.size
  have hgev1 : ∀ a, Av1 = some a → w3.heap.size ≤ a.block := hgev1
  have d1 : Ds w4 Av1 cv1 (L.drop k) := ⟨hsv1, fun x hx => hA.ok x (List.mem_of_mem_drop hx)⟩
  have d2 : Ds w5 Av2 cv2 (M.drop k) := ⟨hsv2, fun x hx => hB.ok x (List.mem_of_mem_drop hx)⟩
  have d15 := d1.below x5
  have f1 := d15.keep (w' := ((w5.setCell ⟨w.heap.size, 0, none⟩ (.int .i64 k)).setCell ⟨w.heap.size, 1, none⟩ (.slice Av1 (L.length - k) cv1)).setCell ⟨w.heap.size, 2, none⟩ (.slice Av2 (M.length - k) cv2))
    (fun a ha _ => other3 _ _ _ _ (by have := hgev1 a ha; omega))
  have f2 := d2.keep (w' := ((w5.setCell ⟨w.heap.size, 0, none⟩ (.int .i64 k)).setCell ⟨w.heap.size, 1, none⟩ (.slice Av1 (L.length - k) cv1)).setCell ⟨w.heap.size, 2, none⟩ (.slice Av2 (M.length - k) cv2))
    (fun a ha _ => other3 _ _ _ _ (by have := hgev2 a ha; omega))
  refine bodyPost_ret (results_plan2 rfl _ _ w.heap.size _ rfl (plan_load hblk8)) rfl ?_
  exact ⟨_, rfl, ⟨Av1, cv1, Av2, cv2, by rw [E1.out, E2.out], f1, f2⟩, xw.set3 (Nat.le_refl _) _ _ _⟩

set_option maxHeartbeats 1000000 in
theorem from_no (A : Option Addr) (c : Nat) (L : List (List UInt8)) (B : Option Addr) (d : Nat) (M : List (List UInt8)) (w : World) (hA : Ds w A c L) (hB : Ds w B d M) (hl : L.length ≤ 3000000000000) (hm : M.length ≤ 3000000000000) (hLM : ¬ (L.Nodup ∧ M.Nodup)) :
    Calls Try.prog 11 #[.slice A L.length c, .slice B M.length d] w fun e w' => ∃ v, e = .returned (.tuple #[v, .int .i64 2]) ∧ IsPlan w' v PV.zero ∧ Ext w w' := by
  have HLM := Lib.hid hLM
  clear hLM
  go_enter Try.func11, Try.ntmps11
  go_wp2_with fail
  have x0 : Ext w (w.alloc (Obj.cells #[.int .i64 0, .slice none 0 0, .slice none 0 0] 25)) := (Below.refl _ w).alloc (Nat.le_refl _) _
  have hA0 := hA.alloc (Obj.cells #[.int .i64 0, .slice none 0 0, .slice none 0 0] 25)
  have hB0 := hB.alloc (Obj.cells #[.int .i64 0, .slice none 0 0, .slice none 0 0] 25)
  have h0 := heap_alloc_new w (.cells #[.int .i64 0, .slice none 0 0, .slice none 0 0] 25)
  refine (once_any A c L _ hA0 hl).mono ?_
  rintro e w1 ⟨rfl, x1⟩
  by_cases hL : L.Nodup
  · rw [decide_eq_true hL]
    have hM : ¬ M.Nodup := fun k => HLM.out ⟨hL, k⟩
    have HM := Lib.hid (decide_eq_false hM)
    clear hM hL
    go_wp2_with fail
    refine (once_any B d M _ (hB0.below x1) hm).mono ?_
    rw [HM.out]
    rintro e w2 ⟨rfl, x2⟩
    have x12 := Ext.trans x1 x2
    have hblk : w2.heap[w.heap.size]? = _ := (x12.block _ (Array.getElem?_eq_some_iff.1 h0).1).trans h0
    have m0 : w2.cell? ⟨w.heap.size, 0, none⟩ = some (.int .i64 0) := by rw [cell_of_row _ _ _ _ _ _ hblk]; rfl
    have m1 : w2.cell? ⟨w.heap.size, 1, none⟩ = some (.slice none 0 0) := by rw [cell_of_row _ _ _ _ _ _ hblk]; rfl
    have m2 : w2.cell? ⟨w.heap.size, 2, none⟩ = some (.slice none 0 0) := by rw [cell_of_row _ _ _ _ _ _ hblk]; rfl
    have n0 := frozen_of_row w2 w.heap.size 0 _ _ hblk
    have n1 := frozen_of_row w2 w.heap.size 1 _ _ hblk
    have n2 := frozen_of_row w2 w.heap.size 2 _ _ hblk
    go_wp2_with fail
    have hblk8 := cells3 (.int .i64 0) (.slice none 0 0) (.slice none 0 0) hblk
    refine bodyPost_ret (results_plan2 rfl _ _ w.heap.size _ rfl (plan_load hblk8)) rfl ?_
    exact ⟨_, rfl, IsPlan.zero _, (Ext.trans x0 x12).set3 (Nat.le_refl _) _ _ _⟩
  · rw [decide_eq_false hL]
    clear hL
    have hblk : w1.heap[w.heap.size]? = _ := (x1.block _ (Array.getElem?_eq_some_iff.1 h0).1).trans h0
    have m0 : w1.cell? ⟨w.heap.size, 0, none⟩ = some (.int .i64 0) := by rw [cell_of_row _ _ _ _ _ _ hblk]; rfl
    have m1 : w1.cell? ⟨w.heap.size, 1, none⟩ = some (.slice none 0 0) := by rw [cell_of_row _ _ _ _ _ _ hblk]; rfl
    have m2 : w1.cell? ⟨w.heap.size, 2, none⟩ = some (.slice none 0 0) := by rw [cell_of_row _ _ _ _ _ _ hblk]; rfl
    have n0 := frozen_of_row w1 w.heap.size 0 _ _ hblk
    have n1 := frozen_of_row w1 w.heap.size 1 _ _ hblk
    have n2 := frozen_of_row w1 w.heap.size 2 _ _ hblk
    go_wp2_with fail
    have hblk8 := cells3 (.int .i64 0) (.slice none 0 0) (.slice none 0 0) hblk
    refine bodyPost_ret (results_plan2 rfl _ _ w.heap.size _ rfl (plan_load hblk8)) rfl ?_
    exact ⟨_, rfl, IsPlan.zero _, (Ext.trans x0 x1).set3 (Nat.le_refl _) _ _ _⟩

theorem from_any (A : Option Addr) (c : Nat) (L : List (List UInt8)) (B : Option Addr) (d : Nat) (M : List (List UInt8)) (w : World) (hA : Ds w A c L) (hB : Ds w B d M) (hl : L.length ≤ 3000000000000) (hm : M.length ≤ 3000000000000) :
    Calls Try.prog 11 #[.slice A L.length c, .slice B M.length d] w fun e w' => ∃ v, e = .returned (.tuple #[v, .int .i64 (fromP L M).2]) ∧ IsPlan w' v (fromP L M).1 ∧ Ext w w' := by
  by_cases hLM : L.Nodup ∧ M.Nodup
  · rw [show fromP L M = (⟨(common L M : Nat), L.drop (common L M), M.drop (common L M)⟩, 0) by simp [fromP, hLM]]
    exact from_ok A c L B d M w hA hB hl hm hLM.1 hLM.2
  · rw [show fromP L M = (PV.zero, 2) by simp [fromP, hLM]]
    exact from_no A c L B d M w hA hB hl hm hLM
end Go.Proofs.Ytigcfbpgbenabaa
