import Derived.Test.YtomdplbdndadcaaNtY
import Derived.Deep.Cut
import Derived.Lib.SlBytesConst
namespace Go.Proofs.Ytomdplbdndadcaa
open Go.RowKit

theorem fresh_lives : freshN 1 (-1) [97] 3 = [⟨1, 0, [97]⟩, ⟨1, 2, [97]⟩] := by decide
theorem new_lives (w : World) : Calls Try.prog 9 #[.int .i64 3] w fun e w' => e = .returned (.tuple #[.agg #[.int .i64 3, .slice none 0 0], .int .i64 0]) ∧ Ext w w' := new_any 3 w
theorem put_lives (w : World) (C : Option Addr) (d : Nat) (hC : Bs w C d [97]) :
    Calls Try.prog 14 #[.agg #[.int .i64 3, .slice none 0 0], .int .i64 1, .agg #[.int .i64 (-1), .slice C 1 d]] w fun e w' => ∃ B d ss, e = .returned (.tuple #[.agg #[.int .i64 3, .slice B 2 d], .int .i64 2, .int .i64 0]) ∧ Es w' B d [⟨1, 0, [97]⟩, ⟨1, 2, [97]⟩] ss ∧ (∀ a, B = some a → w.heap.size ≤ a.block) ∧ Fr w' w.heap.size ss ∧ Ext w w' := by
  refine (put_good 3 none 0 [] [] 1 (-1) C d [97] w (Es.nil w) hC (by decide) (by decide) (by decide) (by intro e he; cases he) (by decide) (by decide) (by decide) (by decide) (by decide) (by decide)).mono ?_
  rintro e w' (⟨h, _⟩ | ⟨_, B, d, ss, rfl, h1, h2, h3, h4⟩)
  · rw [fresh_lives] at h; simp at h
  · rw [fresh_lives] at h1 ⊢; exact ⟨B, d, ss, rfl, h1, h2, h3, h4⟩
theorem take_lives (w : World) (B : Option Addr) (d : Nat) (ss : List Raw) (hE : Es w B d [⟨1, 0, [97]⟩, ⟨1, 2, [97]⟩] ss) :
    Calls Try.prog 11 #[.agg #[.int .i64 3, .slice B 2 d], .int .i64 0] w fun e w' => ∃ B d ss X q, e = .returned (.tuple #[.agg #[.int .i64 1, .int .i64 0, .slice X 1 q], .agg #[.int .i64 3, .slice B 1 d], .int .i64 0]) ∧ Es w' B d [⟨1, 2, [97]⟩] ss ∧ Ext w w' :=
  (take_ok 3 B d [⟨1, 0, [97]⟩, ⟨1, 2, [97]⟩] ss 0 w hE (by decide) (by decide) (by decide) (by decide)).mono fun e w' ⟨B, d, ss, X, q, h1, h2, _, _, _, _, h3⟩ => ⟨B, d, ss, X, q, h1, h2, h3⟩
theorem to_lives (w : World) (B : Option Addr) (d : Nat) (ss : List Raw) (hE : Es w B d [⟨1, 2, [97]⟩] ss) :
    Calls Try.prog 20 #[.agg #[.int .i64 3, .slice B 1 d], .int .i64 2] w fun e w' => ∃ B d, e = .returned (.slice B 1 d) ∧ Is w' B d [0] ∧ Ext w w' :=
  (to_ok 3 2 B d [⟨1, 2, [97]⟩] ss w hE (by decide) (by decide)).mono fun e w' ⟨B, d, h1, h2, _, h3⟩ => ⟨B, d, h1, h2, h3⟩
theorem ints_lives (w : World) (B C : Option Addr) (d c : Nat) (h1 : Is w B d [0]) (h2 : Is w C c [0]) :
    Calls Try.prog 22 #[.slice B 1 d, .slice C 1 c] w fun e w' => e = .returned (.bool true) ∧ Ext w w' := ints_any B d [0] C c [0] w h1 h2

theorem lit_bytes (w : World) (fr : Nat × Nat) : Bs (w.alloc (.cells #[.int .u8 97] 5 fr)) (some ⟨w.heap.size, 0, none⟩) 1 [97] := by
  refine ⟨rfl, Nat.le_refl _, by simp [maxLen], (fun h => by cases h), ?_⟩
  rintro a ⟨⟩ j u hu
  rw [Addr.add_lit, Nat.zero_add, World.cell?_alloc_mark]
  cases j with
  | zero => simpa [bc] using hu
  | succ j => simp at hu

set_option maxHeartbeats 4000000 in
theorem lives_any (w : World) : Calls Try.prog 7 #[] w fun e w' => e = .returned (.bool true) ∧ Ext w w' := by
  go_enter Try.func7, Try.ntmps7
  go_wp2_with fail
  refine (new_lives w).mono ?_
  rintro e w1 ⟨rfl, y1⟩
  have xa := Ext.alloc w1 (.cells #[.int .i64 3, .slice none 0 0] 27)
  have xb := Ext.alloc (w1.alloc (.cells #[.int .i64 3, .slice none 0 0] 27)) (.cells #[.int .u8 97] 5 (1, 2))
  have ha := heap_alloc_new w1 (.cells #[.int .i64 3, .slice none 0 0] 27)
  have ha := (xb.block _ (Array.getElem?_eq_some_iff.1 ha).1).trans ha
  have hb := lit_bytes (w1.alloc (.cells #[.int .i64 3, .slice none 0 0] 27)) (1, 2)
  have hcv := Lib.run_convert_bytes_const (P := Try.prog) (w1.alloc (.cells #[.int .i64 3, .slice none 0 0] 27)) 32 5 #[.int .u8 97] 1 1 Try.underlying32 Try.underlying5
  have hs1 : (w1.alloc (.cells #[.int .i64 3, .slice none 0 0] 27)).heap.size = w1.heap.size + 1 := by simp only [World.alloc, Array.size_push]
  rw [hs1] at hb hcv
  have xab := Ext.trans xa xb
  have hl : w1.heap.size + 1 < ((w1.alloc (.cells #[.int .i64 3, .slice none 0 0] 27)).alloc (.cells #[.int .u8 97] 5 (1, 2))).heap.size := by simp only [World.alloc, Array.size_push]; omega
  have Y1 := Lib.hid y1
  have HA := Lib.hid ha
  have HB := Lib.hid hb
  have XAB := Lib.hid xab
  have HL := Lib.hid hl
  clear xa xb ha hb hs1 xab y1 hl
  go_wp2_with fail
  clear hcv
  generalize (w1.alloc _).alloc (.cells #[.int .u8 97] 5 (1, 2)) = wa at *
  refine (put_lives wa _ _ HB.out).mono ?_
  rintro e w2 ⟨B, d, ss, rfl, hE, hB, hF, y2⟩
  have R1 := Lib.hid ((y2.block _ (Array.getElem?_eq_some_iff.1 HA.out).1).trans HA.out)
  have a0 : w2.cell? ⟨w1.heap.size, 0, none⟩ = some (.int .i64 3) := by rw [cell_of_row _ _ _ _ _ _ R1.out]; rfl
  have a1 : w2.cell? ⟨w1.heap.size, 1, none⟩ = some (.slice none 0 0) := by rw [cell_of_row _ _ _ _ _ _ R1.out]; rfl
  have f0 := frozen_of_row w2 w1.heap.size 0 _ _ R1.out
  have f1 := frozen_of_row w2 w1.heap.size 1 _ _ R1.out
  have HE := Lib.hid hE
  have HB2 := Lib.hid hB
  have HF := Lib.hid hF
  have Y2 := Lib.hid y2
  clear hE hB hF y2
  go_upto_region 3 with fail
  obtain ⟨w3, hw3⟩ : ∃ w3, w3 = (w2.setCell ⟨w1.heap.size, 0, none⟩ (.int .i64 3)).setCell ⟨w1.heap.size, 1, none⟩ (.slice B 2 d) := ⟨_, rfl⟩
  have r3 := cells2 (.int .i64 3) (.slice B 2 d) R1.out
  have hk3 : ∀ k, k ≠ w1.heap.size → w3.heap[k]? = w2.heap[k]? := fun k hk => by rw [hw3]; exact other2 _ _ k hk
  have hl := HL.out
  have hE3 : Es w3 B d [⟨1, 0, [97]⟩, ⟨1, 2, [97]⟩] ss := ⟨HE.out.len, HE.out.sl.keep (fun a ha _ => hk3 _ (by have := HB2.out a ha; omega)), fun i h1 h2 => Sl.keep (HE.out.raw i h1 h2) (fun a ha _ => hk3 _ (by have := (HF.out _ (List.getElem_mem h2) a ha).1; omega))⟩
  have x3 : Ext w w3 := by rw [hw3]; exact Ext.set2 (Ext.trans (Ext.trans Y1.out XAB.out) Y2.out) Y1.out.size _ _
  rw [← hw3] at r3 ⊢
  have R3 := Lib.hid r3
  have HE3 := Lib.hid hE3
  have X3 := Lib.hid x3
  have HW3 := Lib.hid hw3
  clear hw3 r3 hk3 hE3 x3 a0 a1 f0 f1 hl
  have b0 : w3.cell? ⟨w1.heap.size, 0, none⟩ = some (.int .i64 3) := by rw [cell_of_row _ _ _ _ _ _ R3.out]; rfl
  have b1 : w3.cell? ⟨w1.heap.size, 1, none⟩ = some (.slice B 2 d) := by rw [cell_of_row _ _ _ _ _ _ R3.out]; rfl
  go_wp2_with fail
  refine (take_lives w3 B d ss HE3.out).mono ?_
  rintro e w4 ⟨B2, d2, ss2, X, q, rfl, hE2, y4⟩
  have R4 := Lib.hid ((y4.block _ (Array.getElem?_eq_some_iff.1 R3.out).1).trans R3.out)
  have HE4 := Lib.hid (HE3.out.below y4)
  have HE2 := Lib.hid hE2
  have Y4 := Lib.hid y4
  clear hE2 y4 b0 b1
  go_upto_region 4 with fail
  have xa := Ext.alloc w4 (.cells #[.int .i64 1, .int .i64 0, .slice X 1 q] 38)
  have xb := Ext.alloc (w4.alloc (.cells #[.int .i64 1, .int .i64 0, .slice X 1 q] 38)) (.cells #[.int .i64 3, .slice B2 1 d2] 27)
  have ha := heap_alloc_new w4 (.cells #[.int .i64 1, .int .i64 0, .slice X 1 q] 38)
  have hb := heap_alloc_new (w4.alloc (.cells #[.int .i64 1, .int .i64 0, .slice X 1 q] 38)) (.cells #[.int .i64 3, .slice B2 1 d2] 27)
  have ha := (xb.block _ (Array.getElem?_eq_some_iff.1 ha).1).trans ha
  have hs1 : (w4.alloc (.cells #[.int .i64 1, .int .i64 0, .slice X 1 q] 38)).heap.size = w4.heap.size + 1 := by simp only [World.alloc, Array.size_push]
  rw [hs1] at hb
  have xab := Ext.trans xa xb
  generalize (w4.alloc _).alloc (.cells #[.int .i64 3, .slice B2 1 d2] 27) = w5 at *
  have R5 := (xab.block _ (Array.getElem?_eq_some_iff.1 R4.out).1).trans R4.out
  have hE5 := HE4.out.below xab
  have hF5 := HE2.out.below xab
  obtain ⟨eb, eo, rfl, hcc⟩ := hE5.at (by decide)
  have hl5 := hE5.len
  have e1 := (hcc 0 (by decide) (by rw [hl5]; decide)).2.1
  have e2 := (hcc 1 (by decide) (by rw [hl5]; decide)).2.1
  simp only [Nat.zero_mul, Nat.one_mul, Nat.add_zero, List.getElem_cons_zero, List.getElem_cons_succ] at e1 e2
  have b1 : w5.cell? ⟨w1.heap.size, 1, none⟩ = some (.slice (some ⟨eb, eo, none⟩) 2 d) := by rw [cell_of_row _ _ _ _ _ _ R5]; rfl
  have b2 : w5.cell? ⟨w4.heap.size, 1, none⟩ = some (.int .i64 0) := by rw [cell_of_row _ _ _ _ _ _ ha]; rfl
  have b3 : w5.cell? ⟨w4.heap.size + 1, 0, none⟩ = some (.int .i64 3) := by rw [cell_of_row _ _ _ _ _ _ hb]; rfl
  have b4 : w5.cell? ⟨w4.heap.size + 1, 1, none⟩ = some (.slice B2 1 d2) := by rw [cell_of_row _ _ _ _ _ _ hb]; rfl
  have HF5 := Lib.hid hF5
  have XAB2 := Lib.hid xab
  clear xa xb ha hb hs1 R5 hE5 hF5 hcc hl5 xab
  go_wp2_with fail
  refine (to_lives w5 B2 d2 ss2 HF5.out).mono ?_
  rintro e w6 ⟨B3, d3, rfl, hI, y6⟩
  have hI2 : Is (w6.alloc (.cells #[.int .i64 0] 3)) (some ⟨w6.heap.size, 0, none⟩) 1 [0] := Sl.one _ (.int .i64 0) 3
  have hI1 : Is (w6.alloc (.cells #[.int .i64 0] 3)) B3 d3 [0] := Sl.alloc hI _
  have hct := ints_lives _ _ _ _ _ hI1 hI2
  have HCT := Lib.hid hct
  have Y6 := Lib.hid y6
  have xw := Ext.alloc w6 (.cells #[.int .i64 0] 3)
  have XW := Lib.hid xw
  clear hI hI1 hI2 hct y6 xw
  go_wp2_with fail
  refine HCT.out.mono ?_
  rintro e w7 ⟨rfl, y7⟩
  have Y7 := Lib.hid y7
  clear y7
  go_wp2_with fail
  go_ret
  exact ⟨rfl, Ext.trans X3.out (Ext.trans Y4.out (Ext.trans XAB2.out (Ext.trans Y6.out (Ext.trans XW.out Y7.out))))⟩
end Go.Proofs.Ytomdplbdndadcaa
