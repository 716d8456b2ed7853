import Derived.Test.YtomdplbdndadcaaNtZ
import Derived.Laws.MakeOwn
namespace Go.Proofs.Ytomdplbdndadcaa
open Go.RowKit

theorem new8 (w : World) : Calls Try.prog 9 #[.int .i64 8] w fun e w' => e = .returned (.tuple #[.agg #[.int .i64 0, .slice none 0 0], .int .i64 2]) ∧ Ext w w' := new_any 8 w
theorem put_n1 (w : World) : Calls Try.prog 14 #[.agg #[.int .i64 3, .slice none 0 0], .int .i64 1, .agg #[.int .i64 1, .slice none 0 0]] w fun e w' => e = .returned (.tuple #[.agg #[.int .i64 0, .slice none 0 0], .int .i64 0, .int .i64 2]) ∧ Ext w w' :=
  put_bad 3 none 0 [] [] 1 1 none 0 [] w (Es.nil w) (by decide)
theorem put_n2 (w : World) (C : Option Addr) (d : Nat) (hC : Bs w C d (List.replicate 16385 0)) : Calls Try.prog 14 #[.agg #[.int .i64 3, .slice none 0 0], .int .i64 1, .agg #[.int .i64 0, .slice C 16385 d]] w fun e w' => e = .returned (.tuple #[.agg #[.int .i64 0, .slice none 0 0], .int .i64 0, .int .i64 3]) ∧ Ext w w' := by
  have h := put_long 3 none 0 [] [] 1 0 C d (List.replicate 16385 0) w (Es.nil w) hC (by decide) (by decide) (by decide) (by intro e he; cases he) (by decide) (by decide) (by decide) (by decide) (by decide) (by rw [List.length_replicate]; decide) (by rw [List.length_replicate]; decide)
  rw [List.length_replicate] at h
  exact h
theorem take_n (w : World) : Calls Try.prog 11 #[.agg #[.int .i64 3, .slice none 0 0], .int .i64 0] w fun e w' => e = .returned (.tuple #[.agg #[.int .i64 0, .int .i64 0, .slice none 0 0], .agg #[.int .i64 0, .slice none 0 0], .int .i64 6]) ∧ Ext w w' := take_no 3 none 0 [] [] 0 w (Es.nil w) 6 (by decide) (by decide)
theorem drop_n (w : World) : Calls Try.prog 12 #[.agg #[.int .i64 3, .slice none 0 0], .int .i64 (-1)] w fun e w' => e = .returned (.tuple #[.agg #[.int .i64 0, .slice none 0 0], .int .i64 6]) ∧ Ext w w' := drop_no 3 none 0 [] [] (-1) w (Es.nil w) 6 (by decide) (by decide)
theorem twice_n (w : World) : Calls Try.prog 13 #[.agg #[.int .i64 0, .slice none 0 0], .int .i64 0] w fun e w' => e = .returned (.tuple #[.agg #[.int .i64 0, .slice none 0 0], .int .i64 2]) ∧ Ext w w' := twice_no 0 none 0 [] [] 0 w (Es.nil w) 2 (by decide) (by decide)
theorem check_n (w : World) : Calls Try.prog 17 #[.agg #[.int .i64 3, .slice none 0 0]] w fun e w' => e = .returned (.int .i64 0) ∧ Ext w w' := check_any _ ⟨3, []⟩ [] w ⟨none, 0, rfl, Es.nil w⟩
theorem same_n (w : World) : Calls Try.prog 21 #[.agg #[.int .i64 3, .slice none 0 0], .agg #[.int .i64 3, .slice none 0 0]] w fun e w' => e = .returned (.bool true) ∧ Ext w w' := by
  refine (same_any _ ⟨3, []⟩ [] _ ⟨3, []⟩ [] w ⟨none, 0, rfl, Es.nil w⟩ ⟨none, 0, rfl, Es.nil w⟩).mono ?_
  rintro e w' ⟨rfl, h⟩
  exact ⟨by rw [show sameN ⟨3, []⟩ ⟨3, []⟩ = true by decide], h⟩
theorem mk_run (MD : Array Value) (hMD : MD = madeCells #[.int .u8 0] 16385) (W : World) : (Instr.makeSlice 32 (.int .i64 16385) (.int .i64 16385)).run Try.prog W = .ok (.slice (some ⟨W.heap.size, 0, none⟩) 16385 16385) (W.alloc (.cells MD 5)) := by
  obtain ⟨i0, hi0, hz0, hz1, hz2⟩ := info_parts u8_info
  have h := run_makeSlice (P := Try.prog) W 32 5 i0 _ Try.underlying32 hi0 hz0 .i64 .i64 16385 16385 (by decide) (by decide) (by rw [hz1]; decide) (by rw [hz2]; decide) (by decide)
  rw [hMD, h, hz1]
  rfl
theorem mk_bytes (MD : Array Value) (hMD : MD = madeCells #[.int .u8 0] 16385) (W : World) : Bs (W.alloc (.cells MD 5)) (some ⟨W.heap.size, 0, none⟩) 16385 (List.replicate 16385 0) := by
  have hsz : (List.map bc (List.replicate 16385 (0 : UInt8))).length = 16385 := by rw [List.length_map, List.length_replicate]
  refine ⟨by rw [List.length_map, Nat.mul_one], by rw [List.length_replicate]; exact Nat.le_refl _, by unfold maxLen; decide, (fun h => by cases h), ?_⟩
  rintro a ⟨⟩ j u hu
  rw [Addr.add_lit, Nat.zero_add, cell_of_row _ _ _ _ _ _ (heap_alloc_new _ _), hMD]
  have hj : j < 16385 := by have := (List.getElem?_eq_some_iff.1 hu).1; rwa [hsz] at this
  rw [List.map_replicate, List.getElem?_replicate, if_pos hj] at hu
  unfold madeCells
  rw [Array.getElem?_map, Array.getElem?_range, if_pos hj] 
  simp at hu ⊢
  rw [← hu, Nat.mod_one]
  rfl

set_option maxHeartbeats 4000000 in
theorem names_any (w : World) : Calls Try.prog 6 #[] w fun e w' => e = .returned (.bool true) ∧ Ext w w' := by
  obtain ⟨MD, hMD⟩ : ∃ MD, MD = madeCells #[.int .u8 0] 16385 := ⟨_, rfl⟩
  have hmk := mk_run MD hMD
  have HMD := Lib.hid hMD
  clear hMD
  go_enter Try.func6, Try.ntmps6
  go_wp2_with fail
  refine (new_lives w).mono ?_
  rintro e w1 ⟨rfl, y1⟩
  have Y1 := Lib.hid y1
  have xa := Ext.alloc w1 (.cells #[.int .i64 3, .slice none 0 0] 27)
  have r1 := heap_alloc_new w1 (.cells #[.int .i64 3, .slice none 0 0] 27)
  have R1 := Lib.hid r1
  have XA := Lib.hid xa
  clear y1 xa r1
  go_upto_region 2 with fail
  generalize w1.alloc _ = w2 at *
  go_wp2_with fail
  refine (new8 w2).mono ?_
  rintro e w3 ⟨rfl, y3⟩
  have xb := Ext.alloc w3 (.cells #[.int .i64 0, .slice none 0 0] 27)
  have R2 := Lib.hid ((Below.block (Ext.trans y3 xb) _ (Array.getElem?_eq_some_iff.1 R1.out).1).trans R1.out)
  have X2 := Lib.hid (Ext.trans (Ext.trans Y1.out XA.out) (Ext.trans y3 xb))
  clear y3 xb
  go_upto_region 3 with fail
  generalize w3.alloc _ = w4 at *
  have c0 : w4.cell? ⟨w1.heap.size, 0, none⟩ = some (.int .i64 3) := by rw [cell_of_row _ _ _ _ _ _ R2.out]; rfl
  have c1 : w4.cell? ⟨w1.heap.size, 1, none⟩ = some (.slice none 0 0) := by rw [cell_of_row _ _ _ _ _ _ R2.out]; rfl
  go_wp2_with fail
  refine (put_n1 w4).mono ?_
  rintro e w5 ⟨rfl, y5⟩
  have xb := Ext.alloc w5 (.cells #[.int .i64 0, .slice none 0 0] 27)
  have R3 := Lib.hid ((Below.block (Ext.trans y5 xb) _ (Array.getElem?_eq_some_iff.1 R2.out).1).trans R2.out)
  have X3 := Lib.hid (Ext.trans X2.out (Ext.trans y5 xb))
  clear y5 xb c0 c1
  go_upto_region 4 with fail
  generalize w5.alloc _ = w6 at *
  have c0 : w6.cell? ⟨w1.heap.size, 0, none⟩ = some (.int .i64 3) := by rw [cell_of_row _ _ _ _ _ _ R3.out]; rfl
  have c1 : w6.cell? ⟨w1.heap.size, 1, none⟩ = some (.slice none 0 0) := by rw [cell_of_row _ _ _ _ _ _ R3.out]; rfl
  have hb1 := mk_bytes MD HMD.out w6
  have hb2 := Sl.alloc hb1 (.cells #[.int .i64 0, .slice none 0 0] 27)
  have hb3 := mk_bytes MD HMD.out (w6.alloc (.cells #[.int .i64 0, .slice none 0 0] 27))
  have hsm : (w6.alloc (.cells MD 5)).heap.size = w6.heap.size + 1 := by simp only [World.alloc, Array.size_push]
  have hsn : (w6.alloc (.cells #[.int .i64 0, .slice none 0 0] 27)).heap.size = w6.heap.size + 1 := by simp only [World.alloc, Array.size_push]
  rw [hsn] at hb3
  have j2 := heap_alloc_new (w6.alloc (.cells MD 5)) (.cells #[.int .i64 0, .slice none 0 0] 27)
  rw [hsm] at j2
  have j3 := heap_alloc_new w6 (.cells #[.int .i64 0, .slice none 0 0] 27)
  have j3 := (Below.block (Ext.alloc (w6.alloc (.cells #[.int .i64 0, .slice none 0 0] 27)) (.cells MD 5)) _ (Array.getElem?_eq_some_iff.1 j3).1).trans j3
  have J2 := Lib.hid j2
  have J3 := Lib.hid j3
  have e1 : ¬ w1.heap.size = w6.heap.size := by have := World.block_lt_of_cell? w6 _ c0; dsimp only at this; omega
  have e2 : ¬ w1.heap.size = w6.heap.size + 1 := by have := World.block_lt_of_cell? w6 _ c0; dsimp only at this; omega
  have hp1 := put_n2 _ _ _ (Sl.drew hb1)
  have hp2 := put_n2 _ _ _ (Sl.drew hb2)
  have hp3 := put_n2 _ _ _ (Sl.drew hb3)
  have HP1 := Lib.hid hp1
  have HP2 := Lib.hid hp2
  have HP3 := Lib.hid hp3
  clear hb1 hb2 hb3 hsm hsn j2 j3 hp1 hp2 hp3
  go_region_held3 (fun u => u.cell? ⟨w1.heap.size, 0, none⟩ = some (.int .i64 3) ∧ u.cell? ⟨w1.heap.size, 1, none⟩ = some (.slice none 0 0)) (refine ⟨?_, ?_⟩ <;> (repeat' (first | with_reducible assumption | with_reducible refine cell_drew ?_ | with_reducible refine cell_alloc ?_ | with_reducible refine cell_set2 ?_ ?_))) (first
    | (go_at_call 14
       with_reducible refine Calls.mono HP1.out ?_
       rintro e w7 ⟨rfl, y7⟩
       have x7 : Ext w6 w7 := Ext.trans (Ext.trans (Ext.alloc _ _) (Ext.drew _)) y7
       have z0 : w7.cell? ⟨w1.heap.size, 0, none⟩ = some (.int .i64 3) := by rw [Below.cell x7 (World.block_lt_of_cell? w6 _ c0)]; exact c0
       have z1 : w7.cell? ⟨w1.heap.size, 1, none⟩ = some (.slice none 0 0) := by rw [Below.cell x7 (World.block_lt_of_cell? w6 _ c1)]; exact c1
       have X7 := Lib.hid x7
       clear x7 y7)
    | (go_at_call 14
       with_reducible refine Calls.mono HP2.out ?_
       rintro e w7 ⟨rfl, y7⟩
       have x7 : Ext w6 w7 := Ext.trans (Ext.trans (Ext.trans (Ext.alloc _ _) (Ext.alloc _ _)) (Ext.drew _)) y7
       have z0 : w7.cell? ⟨w1.heap.size, 0, none⟩ = some (.int .i64 3) := by rw [Below.cell x7 (World.block_lt_of_cell? w6 _ c0)]; exact c0
       have z1 : w7.cell? ⟨w1.heap.size, 1, none⟩ = some (.slice none 0 0) := by rw [Below.cell x7 (World.block_lt_of_cell? w6 _ c1)]; exact c1
       have J := (Below.block y7 _ (Array.getElem?_eq_some_iff.1 J2.out).1).trans J2.out
       have n0 : w7.cell? ⟨w6.heap.size + 1, 0, none⟩ = some (.int .i64 0) := by rw [cell_of_row _ _ _ _ _ _ J]; rfl
       have n1 : w7.cell? ⟨w6.heap.size + 1, 1, none⟩ = some (.slice none 0 0) := by rw [cell_of_row _ _ _ _ _ _ J]; rfl
       have n2 := frozen_of_row w7 (w6.heap.size + 1) 0 _ _ J
       have n3 := frozen_of_row w7 (w6.heap.size + 1) 1 _ _ J
       clear J
       have X7 := Lib.hid x7
       clear x7 y7)
    | (go_at_call 14
       with_reducible refine Calls.mono HP3.out ?_
       rintro e w7 ⟨rfl, y7⟩
       have x7 : Ext w6 w7 := Ext.trans (Ext.trans (Ext.trans (Ext.alloc _ _) (Ext.alloc _ _)) (Ext.drew _)) y7
       have z0 : w7.cell? ⟨w1.heap.size, 0, none⟩ = some (.int .i64 3) := by rw [Below.cell x7 (World.block_lt_of_cell? w6 _ c0)]; exact c0
       have z1 : w7.cell? ⟨w1.heap.size, 1, none⟩ = some (.slice none 0 0) := by rw [Below.cell x7 (World.block_lt_of_cell? w6 _ c1)]; exact c1
       have J := (Below.block y7 _ (Array.getElem?_eq_some_iff.1 J3.out).1).trans J3.out
       have n0 : w7.cell? ⟨w6.heap.size, 0, none⟩ = some (.int .i64 0) := by rw [cell_of_row _ _ _ _ _ _ J]; rfl
       have n1 : w7.cell? ⟨w6.heap.size, 1, none⟩ = some (.slice none 0 0) := by rw [cell_of_row _ _ _ _ _ _ J]; rfl
       have n2 := frozen_of_row w7 (w6.heap.size) 0 _ _ J
       have n3 := frozen_of_row w7 (w6.heap.size) 1 _ _ J
       clear J
       have X7 := Lib.hid x7
       clear x7 y7)
    | fail)
  all_goals
    have R7 := Lib.hid ((X7.out.block _ (Array.getElem?_eq_some_iff.1 R3.out).1).trans R3.out)
    have xx7 := Ext.trans X3.out X7.out
    have hsz6 := X3.out.size
    go_upto_region 5 with fail
    first
      | (obtain ⟨w8, hw8⟩ : ∃ w8, w8 = w7.alloc (.cells #[.int .i64 0, .slice none 0 0] 27) := ⟨_, rfl⟩
         rw [← hw8]
         have R8 : Hid (w8.heap[w1.heap.size]? = some (.cells #[.int .i64 3, .slice none 0 0] 27 (0, 0))) := by rw [hw8]; exact ((Ext.alloc w7 _).block _ (Array.getElem?_eq_some_iff.1 R7.out).1).trans R7.out
         have X8 : Hid (Ext w w8) := by rw [hw8]; exact Ext.trans xx7 (Ext.alloc w7 _))
      | (obtain ⟨w8, hw8⟩ : ∃ w8, w8 = (w7.setCell ⟨w6.heap.size, 0, none⟩ (.int .i64 0)).setCell ⟨w6.heap.size, 1, none⟩ (.slice none 0 0) := ⟨_, rfl⟩
         rw [← hw8]
         have R8 : Hid (w8.heap[w1.heap.size]? = some (.cells #[.int .i64 3, .slice none 0 0] 27 (0, 0))) := by rw [hw8]; exact (other2 _ _ _ e1).trans R7.out
         have X8 : Hid (Ext w w8) := by rw [hw8]; exact Ext.set2 xx7 (by omega) _ _)
      | (obtain ⟨w8, hw8⟩ : ∃ w8, w8 = (w7.setCell ⟨w6.heap.size + 1, 0, none⟩ (.int .i64 0)).setCell ⟨w6.heap.size + 1, 1, none⟩ (.slice none 0 0) := ⟨_, rfl⟩
         rw [← hw8]
         have R8 : Hid (w8.heap[w1.heap.size]? = some (.cells #[.int .i64 3, .slice none 0 0] 27 (0, 0))) := by rw [hw8]; exact (other2 _ _ _ e2).trans R7.out
         have X8 : Hid (Ext w w8) := by rw [hw8]; exact Ext.set2 xx7 (by omega) _ _)
    clear hw8 xx7 c0 c1
    have c0 : w8.cell? ⟨w1.heap.size, 0, none⟩ = some (.int .i64 3) := by rw [cell_of_row _ _ _ _ _ _ R8.out]; rfl
    have c1 : w8.cell? ⟨w1.heap.size, 1, none⟩ = some (.slice none 0 0) := by rw [cell_of_row _ _ _ _ _ _ R8.out]; rfl
    go_wp2_with fail
    refine (take_n w8).mono ?_
    rintro e w9 ⟨rfl, y9⟩
    have xb := Ext.trans (Ext.alloc w9 (.cells #[.int .i64 0, .int .i64 0, .slice none 0 0] 38)) (Ext.alloc (w9.alloc (.cells #[.int .i64 0, .int .i64 0, .slice none 0 0] 38)) (.cells #[.int .i64 0, .slice none 0 0] 27))
    have R9 := Lib.hid ((Below.block (Ext.trans y9 xb) _ (Array.getElem?_eq_some_iff.1 R8.out).1).trans R8.out)
    have X9 := Lib.hid (Ext.trans X8.out (Ext.trans y9 xb))
    clear y9 xb c0 c1
    go_upto_region 6 with fail
    generalize (w9.alloc _).alloc _ = w10 at *
    have c0 : w10.cell? ⟨w1.heap.size, 0, none⟩ = some (.int .i64 3) := by rw [cell_of_row _ _ _ _ _ _ R9.out]; rfl
    have c1 : w10.cell? ⟨w1.heap.size, 1, none⟩ = some (.slice none 0 0) := by rw [cell_of_row _ _ _ _ _ _ R9.out]; rfl
    go_wp2_with fail
    refine (drop_n w10).mono ?_
    rintro e w11 ⟨rfl, y11⟩
    have xb := Ext.alloc w11 (.cells #[.int .i64 0, .slice none 0 0] 27)
    have R11 := Lib.hid ((Below.block (Ext.trans y11 xb) _ (Array.getElem?_eq_some_iff.1 R9.out).1).trans R9.out)
    have X11 := Lib.hid (Ext.trans X9.out (Ext.trans y11 xb))
    clear y11 xb c0 c1
    go_upto_region 7 with fail
    generalize w11.alloc _ = w12 at *
    go_wp2_with fail
    refine (twice_n w12).mono ?_
    rintro e w13 ⟨rfl, y13⟩
    have xb := Ext.alloc w13 (.cells #[.int .i64 0, .slice none 0 0] 27)
    have R13 := Lib.hid ((Below.block (Ext.trans y13 xb) _ (Array.getElem?_eq_some_iff.1 R11.out).1).trans R11.out)
    have X13 := Lib.hid (Ext.trans X11.out (Ext.trans y13 xb))
    clear y13 xb
    go_upto_region 8 with fail
    generalize w13.alloc _ = w14 at *
    go_wp2_with fail
    refine (lives_any w14).mono ?_
    rintro e w15 ⟨rfl, y15⟩
    have R15 := Lib.hid ((y15.block _ (Array.getElem?_eq_some_iff.1 R13.out).1).trans R13.out)
    have Y15 := Lib.hid y15
    have c0 : w15.cell? ⟨w1.heap.size, 0, none⟩ = some (.int .i64 3) := by rw [cell_of_row _ _ _ _ _ _ R15.out]; rfl
    have c1 : w15.cell? ⟨w1.heap.size, 1, none⟩ = some (.slice none 0 0) := by rw [cell_of_row _ _ _ _ _ _ R15.out]; rfl
    clear y15
    go_wp2_with fail
    refine (check_n w15).mono ?_
    rintro e w16 ⟨rfl, y16⟩
    have R16 := Lib.hid ((y16.block _ (Array.getElem?_eq_some_iff.1 R15.out).1).trans R15.out)
    have Y16 := Lib.hid y16
    have c0 : w16.cell? ⟨w1.heap.size, 0, none⟩ = some (.int .i64 3) := by rw [cell_of_row _ _ _ _ _ _ R16.out]; rfl
    have c1 : w16.cell? ⟨w1.heap.size, 1, none⟩ = some (.slice none 0 0) := by rw [cell_of_row _ _ _ _ _ _ R16.out]; rfl
    clear y16
    go_wp2_with fail
    refine (same_n w16).mono ?_
    rintro e w17 ⟨rfl, y17⟩
    have Y17 := Lib.hid y17
    clear y17 c0 c1
    go_wp2_with fail
    go_ret
    exact ⟨rfl, Ext.trans X13.out (Ext.trans Y15.out (Ext.trans Y16.out Y17.out))⟩
end Go.Proofs.Ytomdplbdndadcaa
