import Derived.Test.YtigcfbpgbenabaaRgN
namespace Go.Proofs.Ytigcfbpgbenabaa
open Go.RowKit

/-- two plans, one after the other -/
def thenP (P Q : PV) (L : List (List UInt8)) : PV × Int :=
  if (applyP P L).2 ≠ 0 then (PV.zero, (applyP P L).2)
  else if (applyP Q (applyP P L).1).2 ≠ 0 then (PV.zero, (applyP Q (applyP P L).1).2)
  else fromP L (applyP Q (applyP P L).1).1

theorem applyP_len (P : PV) (L : List (List UInt8)) : (applyP P L).1.length ≤ L.length + P.d.length := by
  unfold applyP
  split
  · simp
  · split
    · simp
    · split
      · simp
      · simp only [List.length_append, List.length_take]; omega

theorem idx60_0 (a b c d e f : Value) (w : World) : (Instr.index 60 (.agg #[a, b, c, d, e, f]) (.int .i64 0)).run Try.prog w = .ok (.agg #[a, b, c]) w := by kernel_rfl
theorem idx60_1 (a b c d e f : Value) (w : World) : (Instr.index 60 (.agg #[a, b, c, d, e, f]) (.int .i64 1)).run Try.prog w = .ok (.agg #[d, e, f]) w := by kernel_rfl

set_option maxHeartbeats 1000000 in
theorem then_any (v : Value) (P : PV) (v2 : Value) (Q : PV) (C : Option Addr) (e : Nat) (L : List (List UInt8)) (w : World) (hv : IsPlan w v P) (hv2 : IsPlan w v2 Q) (hC : Ds w C e L)
    (hu : P.u.length ≤ 1000000) (hd : P.d.length ≤ 1000000) (hu2 : Q.u.length ≤ 1000000) (hd2 : Q.d.length ≤ 1000000) (hl : L.length ≤ 1000000) :
    Calls Try.prog 22 #[v, v2, .slice C L.length e] w fun e w' => ∃ v, e = .returned (.tuple #[v, .int .i64 (thenP P Q L).2]) ∧ IsPlan w' v (thenP P Q L).1 ∧ Ext w w' := by
  have hv0 := hv
  have hv20 := hv2
  obtain ⟨A, c, B, d, rfl, hA, hB⟩ := hv
  obtain ⟨A2, c2, B2, d2, rfl, hA2, hB2⟩ := hv2
  obtain ⟨o1, ho1⟩ : ∃ o, o = Obj.cells #[.int .i64 P.k, .slice A P.u.length c, .slice B P.d.length d] 25 := ⟨_, rfl⟩
  obtain ⟨o2, ho2⟩ : ∃ o, o = Obj.cells #[.int .i64 Q.k, .slice A2 Q.u.length c2, .slice B2 Q.d.length d2] 25 := ⟨_, rfl⟩
  obtain ⟨o3, ho3⟩ : ∃ o, o = Obj.cells #[.int .i64 0, .slice none 0 0, .slice none 0 0] 25 := ⟨_, rfl⟩
  have x1 : Ext w (w.alloc o1) := (Below.refl _ w).alloc (Nat.le_refl _) _
  have x2 : Ext (w.alloc o1) ((w.alloc o1).alloc o2) := (Below.refl _ _).alloc (Nat.le_refl _) _
  have x3 : Ext ((w.alloc o1).alloc o2) (((w.alloc o1).alloc o2).alloc o3) := (Below.refl _ _).alloc (Nat.le_refl _) _
  have h3 := heap_alloc_new ((w.alloc o1).alloc o2) o3
  rw [show ((w.alloc o1).alloc o2).heap.size = w.heap.size + 1 + 1 by simp only [World.alloc, Array.size_push]] at h3
  have x0 := Ext.trans (Ext.trans x1 x2) x3
  clear x1 x2 x3
  subst ho1
  subst ho2
  subst ho3
  have hal := applyP_len P L
  have hal2 := applyP_len Q (applyP P L).1
  obtain ⟨L1, r1, hp1⟩ : ∃ L1 r1, applyP P L = (L1, r1) := ⟨_, _, rfl⟩
  obtain ⟨L2, r2, hp2⟩ : ∃ L2 r2, applyP Q L1 = (L2, r2) := ⟨_, _, rfl⟩
  obtain ⟨F, rf, hf⟩ : ∃ F rf, fromP L L2 = (F, rf) := ⟨_, _, rfl⟩
  have hR : thenP P Q L = if r1 ≠ 0 then (PV.zero, r1) else if r2 ≠ 0 then (PV.zero, r2) else (F, rf) := by unfold thenP; rw [hp1]; simp only [hp2, hf]
  rw [hp1] at hal hal2
  simp only at hal hal2
  rw [hp2] at hal2
  simp only at hal2
  obtain ⟨R, hRR⟩ : ∃ R, R = thenP P Q L := ⟨_, rfl⟩
  rw [← hRR]
  rw [← hRR] at hR
  have HR := Lib.hid hR
  have HP1 := Lib.hid hp1
  have HP2 := Lib.hid hp2
  have HF := Lib.hid hf
  have HA1 := Lib.hid hal
  have HA2 := Lib.hid hal2
  have hL1 := Lib.hid (show L1.length ≤ 2000000 by omega)
  have hL2 := Lib.hid (show L2.length ≤ 3000000 by omega)
  clear hal hal2 hR hp1 hp2 hf hRR
  go_enter Try.func22, Try.ntmps22
  go_wp2_with fail
  generalize ((w.alloc _).alloc _).alloc _ = w0 at *
  have hC0 := hC.below x0
  have i0 := fun w => idx60_0 (.int .i64 P.k) (.slice A P.u.length c) (.slice B P.d.length d) (.int .i64 Q.k) (.slice A2 Q.u.length c2) (.slice B2 Q.d.length d2) w
  have i1 := fun w => idx60_1 (.int .i64 P.k) (.slice A P.u.length c) (.slice B P.d.length d) (.int .i64 Q.k) (.slice A2 Q.u.length c2) (.slice B2 Q.d.length d2) w
  refine wp_loop_rounds 3 ?_
  rw [rounds_succ]
  go_wp2_with fail
  have y1 : Ext w0 (w0.alloc (Obj.cells #[.int .i64 P.k, .slice A P.u.length c, .slice B P.d.length d] 25)) := (Below.refl _ _).alloc (Nat.le_refl _) _
  have hct := apply_any _ P C e L _ ((hv0.ext x0).ext y1) (hC0.below y1) (by omega) (by omega) (by omega)
  rw [HP1.out] at hct
  refine hct.mono ?_
  rintro e1 w1 ⟨va, rfl, ⟨C1, n1, rfl, hC1⟩, y2⟩
  clear hct
  simp only at hC1 ⊢
  have y12 := Ext.trans y1 y2
  clear y1
  by_cases hr1 : r1 = 0
  · subst hr1
    have HR2 : R = if r2 ≠ 0 then (PV.zero, r2) else (F, rf) := by rw [HR.out, if_neg (by simp)]
    have HR2 := Lib.hid HR2
    go_wp2_with fail
    rw [rounds_succ]
    go_wp2_with fail
    have y3 : Ext w1 (w1.alloc (Obj.cells #[.int .i64 Q.k, .slice A2 Q.u.length c2, .slice B2 Q.d.length d2] 25)) := (Below.refl _ _).alloc (Nat.le_refl _) _
    have hct := apply_any _ Q C1 n1 L1 _ (((hv20.ext x0).ext y12).ext y3) (hC1.below y3) (by omega) (by omega) (by have := hL1.out; omega)
    rw [HP2.out] at hct
    refine hct.mono ?_
    rintro e2 w2 ⟨va, rfl, ⟨C2, n2, rfl, hC2⟩, y4⟩
    clear hct
    simp only at hC2 ⊢
    have y34 := Ext.trans y12 (Ext.trans y3 y4)
    clear y3
    by_cases hr2 : r2 = 0
    · subst hr2
      have hRF : R = (F, rf) := by rw [HR2.out, if_neg (by simp)]
      subst hRF
      go_wp2_with fail
      rw [rounds_succ]
      go_wp2_with fail
      have hct := from_any C e L C2 n2 L2 _ (hC0.below y34) hC2 (by omega) (by have := hL2.out; omega)
      rw [HF.out] at hct
      refine hct.mono ?_
      rintro e3 w3 ⟨va, rfl, ⟨A3, c3, B3, d3, rfl, f1, f2⟩, y5⟩
      clear hct
      simp only at f1 f2 ⊢
      have y45 := Ext.trans y34 y5
      have k3 := (y45.block _ (Array.getElem?_eq_some_iff.1 h3).1).trans h3
      have q0 : w3.cell? ⟨w.heap.size + 1 + 1, 0, none⟩ = some (.int .i64 0) := by rw [cell_of_row _ _ _ _ _ _ k3]; rfl
      have q1 : w3.cell? ⟨w.heap.size + 1 + 1, 1, none⟩ = some (.slice none 0 0) := by rw [cell_of_row _ _ _ _ _ _ k3]; rfl
      have q2 : w3.cell? ⟨w.heap.size + 1 + 1, 2, none⟩ = some (.slice none 0 0) := by rw [cell_of_row _ _ _ _ _ _ k3]; rfl
      have s0 := frozen_of_row w3 (w.heap.size + 1 + 1) 0 _ _ k3
      have s1 := frozen_of_row w3 (w.heap.size + 1 + 1) 1 _ _ k3
      have s2 := frozen_of_row w3 (w.heap.size + 1 + 1) 2 _ _ k3
      go_wp2_with fail
      refine bodyPost_ret (results_plan2 rfl _ _ (w.heap.size + 1 + 1) _ rfl (plan_load (cells3 (.int .i64 F.k) (.slice A3 F.u.length c3) (.slice B3 F.d.length d3) k3))) rfl ?_
      exact ⟨_, rfl, ⟨A3, c3, B3, d3, rfl, f1.apart k3 _ (other3 _ _ _), f2.apart k3 _ (other3 _ _ _)⟩, (Ext.trans x0 y45).set3 (by omega) _ _ _⟩
    · have hRF : R = (PV.zero, r2) := by rw [HR2.out, if_pos hr2]
      subst hRF
      have k3 := (y34.block _ (Array.getElem?_eq_some_iff.1 h3).1).trans h3
      have q0 : w2.cell? ⟨w.heap.size + 1 + 1, 0, none⟩ = some (.int .i64 0) := by rw [cell_of_row _ _ _ _ _ _ k3]; rfl
      have q1 : w2.cell? ⟨w.heap.size + 1 + 1, 1, none⟩ = some (.slice none 0 0) := by rw [cell_of_row _ _ _ _ _ _ k3]; rfl
      have q2 : w2.cell? ⟨w.heap.size + 1 + 1, 2, none⟩ = some (.slice none 0 0) := by rw [cell_of_row _ _ _ _ _ _ k3]; rfl
      have s0 := frozen_of_row w2 (w.heap.size + 1 + 1) 0 _ _ k3
      have s1 := frozen_of_row w2 (w.heap.size + 1 + 1) 1 _ _ k3
      have s2 := frozen_of_row w2 (w.heap.size + 1 + 1) 2 _ _ k3
      go_wp2_with fail
      refine bodyPost_ret (results_plan2 rfl _ _ (w.heap.size + 1 + 1) _ rfl (plan_load (cells3 (.int .i64 0) (.slice none 0 0) (.slice none 0 0) k3))) rfl ?_
      exact ⟨_, rfl, IsPlan.zero _, (Ext.trans x0 y34).set3 (by omega) _ _ _⟩
  · have hRF : R = (PV.zero, r1) := by rw [HR.out, if_pos hr1]
    subst hRF
    have k3 := (y12.block _ (Array.getElem?_eq_some_iff.1 h3).1).trans h3
    have q0 : w1.cell? ⟨w.heap.size + 1 + 1, 0, none⟩ = some (.int .i64 0) := by rw [cell_of_row _ _ _ _ _ _ k3]; rfl
    have q1 : w1.cell? ⟨w.heap.size + 1 + 1, 1, none⟩ = some (.slice none 0 0) := by rw [cell_of_row _ _ _ _ _ _ k3]; rfl
    have q2 : w1.cell? ⟨w.heap.size + 1 + 1, 2, none⟩ = some (.slice none 0 0) := by rw [cell_of_row _ _ _ _ _ _ k3]; rfl
    have s0 := frozen_of_row w1 (w.heap.size + 1 + 1) 0 _ _ k3
    have s1 := frozen_of_row w1 (w.heap.size + 1 + 1) 1 _ _ k3
    have s2 := frozen_of_row w1 (w.heap.size + 1 + 1) 2 _ _ k3
    go_wp2_with fail
    refine bodyPost_ret (results_plan2 rfl _ _ (w.heap.size + 1 + 1) _ rfl (plan_load (cells3 (.int .i64 0) (.slice none 0 0) (.slice none 0 0) k3))) rfl ?_
    exact ⟨_, rfl, IsPlan.zero _, (Ext.trans x0 y12).set3 (by omega) _ _ _⟩
end Go.Proofs.Ytigcfbpgbenabaa
