import Derived.Test.YtigcfbpgbenabaaLiv
namespace Go.Proofs.Ytigcfbpgbenabaa
open Go.RowKit

theorem n_from : fromP ([1, 2].map nd) ([1, 3].map nd) = (⟨1, [2].map nd, [3].map nd⟩, 0) := by kernel_rfl
theorem n_back : backP ⟨1, [2].map nd, [3].map nd⟩ = (⟨1, [3].map nd, [2].map nd⟩, 0) := by kernel_rfl
theorem n_twice : fromP ([1, 1].map nd) [] = (PV.zero, 2) := by kernel_rfl
theorem n_apply : applyP ⟨1, [3].map nd, [2].map nd⟩ ([1, 3].map nd) = ([1, 2].map nd, 0) := by kernel_rfl
theorem n_check : checkP ⟨-1, [], []⟩ = 2 := by kernel_rfl
theorem n_check2 : checkP ⟨0, [1, 2].map nd, [1, 2].map nd⟩ = 2 := by kernel_rfl
theorem n_depth : depthP ⟨1, [2].map nd, [3].map nd⟩ = 1 := by kernel_rfl
theorem n_spares : sparesP ⟨1, [2].map nd, [3].map nd⟩ 1 = true := by kernel_rfl
theorem n_spares2 : sparesP ⟨1, [2].map nd, [3].map nd⟩ 2 = false := by kernel_rfl
theorem n_same : samePV ⟨1, [2].map nd, [3].map nd⟩ ⟨1, [3].map nd, [2].map nd⟩ = false := by kernel_rfl

set_option maxHeartbeats 4000000 in
theorem rnames_any (w : World) : Calls Try.prog 5 #[] w fun e w' => e = .returned (.bool true) ∧ Ext w w' := by
  have hF := n_from
  have hB := n_back
  have hT := n_twice
  have hA := n_apply
  have hC2 := n_check2
  have hDP := n_depth
  have hS1 := n_spares
  have hS2 := n_spares2
  have hSQ := n_same
  obtain ⟨L1, hL1⟩ : ∃ L, L = [1, 2].map nd := ⟨_, rfl⟩
  obtain ⟨L2, hL2⟩ : ∃ L, L = [1, 3].map nd := ⟨_, rfl⟩
  obtain ⟨M2, hM2⟩ : ∃ L, L = [2].map nd := ⟨_, rfl⟩
  obtain ⟨M3, hM3⟩ : ∃ L, L = [3].map nd := ⟨_, rfl⟩
  obtain ⟨L6, hL6⟩ : ∃ L, L = [1, 1].map nd := ⟨_, rfl⟩
  rw [← hL1, ← hL2, ← hM2, ← hM3] at hF
  rw [← hM2, ← hM3] at hB hDP hS1 hS2 hSQ
  rw [← hL6] at hT
  rw [← hM2, ← hM3, ← hL1, ← hL2] at hA
  rw [← hL1] at hC2
  have l1 : L1.length ≤ 40 := by rw [hL1]; decide
  have l2 : L2.length ≤ 40 := by rw [hL2]; decide
  have l3 : M2.length ≤ 40 := by rw [hM2]; decide
  have l4 : M3.length ≤ 40 := by rw [hM3]; decide
  have l5 : L6.length ≤ 40 := by rw [hL6]; decide
  have HL1 := Lib.hid hL1
  have HL2 := Lib.hid hL2
  have HM2 := Lib.hid hM2
  have HM3 := Lib.hid hM3
  have HL6 := Lib.hid hL6
  have HF := Lib.hid hF
  have HB := Lib.hid hB
  have HT := Lib.hid hT
  have HA := Lib.hid hA
  have HC1 := Lib.hid n_check
  have HC2 := Lib.hid hC2
  have HDP := Lib.hid hDP
  have HS1 := Lib.hid hS1
  have HS2 := Lib.hid hS2
  have HSQ := Lib.hid hSQ
  have HSP := Lib.hid (samePV_refl ⟨1, M2, M3⟩)
  have HK := Lib.hid (samePV_refl ⟨1, M3, M2⟩)
  have HD := Lib.hid (sameD_refl L1)
  clear hL1 hL2 hM2 hM3 hL6 hF hB hT hA hC2 hDP hS1 hS2 hSQ
  go_enter Try.func5, Try.ntmps5
  go_wp2_with fail
  refine (names_lit [1, 2] L1 HL1.out _ _ _ _ rfl (Is.new w [1, 2] 3 2 rfl (by decide) _ rfl) (by decide)).mono ?_
  rintro e w1 ⟨_, rfl, ⟨A1, c1, rfl, d1⟩, x1⟩
  go_wp2_with fail
  refine (names_lit [1, 3] L2 HL2.out _ _ _ _ rfl (Is.new w1 [1, 3] 3 2 rfl (by decide) _ rfl) (by decide)).mono ?_
  rintro e w2 ⟨_, rfl, ⟨A2, c2, rfl, d2⟩, x2⟩
  have x02 : Ext w w2 := Ext.trans (Ext.trans (Ext.alloc w _) x1) (Ext.trans (Ext.alloc w1 _) x2)
  have d1 := d1.below (Ext.trans (Ext.alloc w1 _) x2)
  clear x1 x2
  go_wp2_with fail
  have hct := from_any A1 c1 L1 A2 c2 L2 w2 d1 d2 (by omega) (by omega)
  rw [HF.out] at hct
  refine hct.mono ?_
  rintro e w3 ⟨_, rfl, ⟨A3, c3, B3, d3, rfl, f1, f2⟩, x3⟩
  simp only at f1 f2 ⊢
  clear hct
  obtain ⟨g3, hg3⟩ : ∃ g, g = w3.heap.size := ⟨_, rfl⟩
  have r3 : (w3.alloc (.cells #[.int .i64 1, .slice A3 M2.length c3, .slice B3 M3.length d3] 25)).heap[g3]? = some (.cells #[.int .i64 1, .slice A3 M2.length c3, .slice B3 M3.length d3] 25 (0, 0)) := by rw [hg3]; exact heap_alloc_new w3 _
  have x4 := Ext.alloc w3 (.cells #[.int .i64 1, .slice A3 M2.length c3, .slice B3 M3.length d3] 25)
  have x34 := Ext.trans x3 x4
  have hpp : IsPlan (w3.alloc (.cells #[.int .i64 1, .slice A3 M2.length c3, .slice B3 M3.length d3] 25)) (.agg #[.int .i64 1, .slice A3 M2.length c3, .slice B3 M3.length d3]) ⟨1, M2, M3⟩ := ⟨A3, c3, B3, d3, rfl, f1.below x4, f2.below x4⟩
  have d1 := d1.below x34
  have d2 := d2.below x34
  have x04 := Ext.trans x02 x34
  clear x02 x3 x4 x34 f1 f2
  subst hg3
  go_wp2_with fail
  generalize w3.alloc (.cells #[.int .i64 1, .slice A3 M2.length c3, .slice B3 M3.length d3] 25) = w4 at *
  have hct := back_any _ ⟨1, M2, M3⟩ w4 hpp (by dsimp only; omega) (by dsimp only; omega)
  rw [HB.out] at hct
  refine hct.mono ?_
  rintro e w5 ⟨_, rfl, ⟨A4, c4, B4, d4, rfl, f1, f2⟩, x5⟩
  simp only at f1 f2 ⊢
  clear hct
  have r3 := (x5.block _ (Array.getElem?_eq_some_iff.1 r3).1).trans r3
  have x6 := Ext.alloc w5 (.cells #[.int .i64 1, .slice A4 M3.length c4, .slice B4 M2.length d4] 25)
  have r5 : (w5.alloc (.cells #[.int .i64 1, .slice A4 M3.length c4, .slice B4 M2.length d4] 25)).heap[w5.heap.size]? = some (.cells #[.int .i64 1, .slice A4 M3.length c4, .slice B4 M2.length d4] 25 (0, 0)) := heap_alloc_new w5 _
  have x56 := Ext.trans x5 x6
  have r3 := (x6.block _ (Array.getElem?_eq_some_iff.1 r3).1).trans r3
  have hpq : IsPlan (w5.alloc (.cells #[.int .i64 1, .slice A4 M3.length c4, .slice B4 M2.length d4] 25)) (.agg #[.int .i64 1, .slice A4 M3.length c4, .slice B4 M2.length d4]) ⟨1, M3, M2⟩ := ⟨A4, c4, B4, d4, rfl, f1.below x6, f2.below x6⟩
  have hpp := hpp.ext x56
  have d1 := d1.below x56
  have d2 := d2.below x56
  have x06 := Ext.trans x04 x56
  clear x04 x5 x6 x56 f1 f2
  have r3 := Lib.hid r3
  have r5 := Lib.hid r5
  have hI := Is.new (w5.alloc (.cells #[.int .i64 1, .slice A4 M3.length c4, .slice B4 M2.length d4] 25)) [1, 1] 3 2 rfl (by decide) _ rfl
  rw [show (w5.alloc (.cells #[.int .i64 1, .slice A4 M3.length c4, .slice B4 M2.length d4] 25)).heap.size = w5.heap.size + 1 by simp only [World.alloc, Array.size_push]] at hI
  go_wp2_with fail
  generalize w5.alloc (.cells #[.int .i64 1, .slice A4 M3.length c4, .slice B4 M2.length d4] 25) = w6 at *
  refine (names_lit [1, 1] L6 HL6.out _ _ _ _ rfl hI (by decide)).mono ?_
  clear hI
  rintro e w7 ⟨_, rfl, ⟨A6, c6, rfl, d6⟩, x7⟩
  go_wp2_with fail
  have hct := from_any A6 c6 L6 none 0 [] w7 d6 (Ds.nil _) (by omega) (by simp)
  rw [HT.out] at hct
  refine hct.mono ?_
  rintro e w8 ⟨_, rfl, ⟨A8, c8, B8, d8, rfl, f1, f2⟩, x8⟩
  simp only [PV.zero, List.length_nil] at f1 f2 ⊢
  clear hct f1 f2
  have x68 : Ext w6 w8 := Ext.trans (Ext.alloc w6 _) (Ext.trans x7 x8)
  clear x7 x8
  have x69 := Ext.trans x68 (Ext.alloc w8 (.cells #[.int .i64 0, .slice A8 0 c8, .slice B8 0 d8] 25))
  have r3 := Lib.hid ((x69.block _ (Array.getElem?_eq_some_iff.1 r3.out).1).trans r3.out)
  have r5 := Lib.hid ((x69.block _ (Array.getElem?_eq_some_iff.1 r5.out).1).trans r5.out)
  have hpp := hpp.ext x69
  have hpq := hpq.ext x69
  have d1 := d1.below x69
  have d2 := d2.below x69
  have x09 := Ext.trans x06 x69
  clear x06 x68 x69
  have q0 : (w8.alloc (.cells #[.int .i64 0, .slice A8 0 c8, .slice B8 0 d8] 25)).cell? ⟨w5.heap.size, 0, none⟩ = some (.int .i64 1) := by rw [cell_of_row _ _ _ _ _ _ r5.out]; rfl
  have q1 : (w8.alloc (.cells #[.int .i64 0, .slice A8 0 c8, .slice B8 0 d8] 25)).cell? ⟨w5.heap.size, 1, none⟩ = some (.slice A4 M3.length c4) := by rw [cell_of_row _ _ _ _ _ _ r5.out]; rfl
  have q2 : (w8.alloc (.cells #[.int .i64 0, .slice A8 0 c8, .slice B8 0 d8] 25)).cell? ⟨w5.heap.size, 2, none⟩ = some (.slice B4 M2.length d4) := by rw [cell_of_row _ _ _ _ _ _ r5.out]; rfl
  go_wp2_with fail
  generalize w8.alloc _ = wb at *
  have hct := apply_any _ ⟨1, M3, M2⟩ A2 c2 L2 wb hpq d2 (by dsimp only; omega) (by dsimp only; omega) (by omega)
  rw [HA.out] at hct
  refine hct.mono ?_
  rintro e wc ⟨_, rfl, ⟨A9, c9, rfl, hd9⟩, xc⟩
  simp only at hd9 ⊢
  clear hct q0 q1 q2
  have hpp := hpp.ext xc
  have hpq := hpq.ext xc
  have hd1 := d1.below xc
  have r3 := Lib.hid ((xc.block _ (Array.getElem?_eq_some_iff.1 r3.out).1).trans r3.out)
  have r5 := Lib.hid ((xc.block _ (Array.getElem?_eq_some_iff.1 r5.out).1).trans r5.out)
  have x0c := Ext.trans x09 xc
  clear d1 d2 xc x09
  go_wp2_with fail
  have hrowp : ∀ u, Ext wc u → u.heap[w3.heap.size]? = some (.cells #[.int .i64 1, .slice A3 M2.length c3, .slice B3 M3.length d3] 25 (0, 0)) := fun u hu => (hu.block _ (Array.getElem?_eq_some_iff.1 r3.out).1).trans r3.out
  have hrowq : ∀ u, Ext wc u → u.heap[w5.heap.size]? = some (.cells #[.int .i64 1, .slice A4 M3.length c4, .slice B4 M2.length d4] 25 (0, 0)) := fun u hu => (hu.block _ (Array.getElem?_eq_some_iff.1 r5.out).1).trans r5.out
  clear r3 r5
  refine wp_region_layt [Fact.val (.bool true), Fact.val (.bool true), Fact.val (.int .i64 (0)), Fact.val (.bool true), Fact.val (.bool true), Fact.val (.bool true), Fact.val (.agg #[.int .i64 1, .slice A4 M3.length c4, .slice B4 M2.length d4]), Fact.ints ([3]), Fact.ds (M3), Fact.ints ([2]), Fact.ds (M2), Fact.plan (⟨1, M3, M2⟩), Fact.val (.bool true), Fact.val (.bool true), Fact.val (.bool true), Fact.val (.int .i64 (2)), Fact.val (.bool true), Fact.val (.bool true), Fact.val (.bool true), Fact.val (.int .i64 (0)), Fact.val (.bool true), Fact.val (.bool true), Fact.val (.bool true), Fact.val (.slice A9 L1.length c9), Fact.val (.slice A1 L1.length c1), Fact.val (.bool true), Fact.val (.bool true), Fact.val (.bool true), Fact.plan (⟨(-1), [], []⟩), Fact.val (.int .i64 2), Fact.val (.bool true), Fact.val (.bool true), Fact.val (.bool true), Fact.val (.slice A1 L1.length c1), Fact.val (.slice A1 L1.length c1), Fact.plan (⟨0, L1, L1⟩), Fact.val (.int .i64 2), Fact.val (.bool true), Fact.val (.bool true), Fact.val (.bool true), Fact.val (.agg #[.int .i64 1, .slice A3 M2.length c3, .slice B3 M3.length d3]), Fact.val (.int .i64 1), Fact.val (.bool true), Fact.val (.bool true), Fact.val (.bool true), Fact.val (.agg #[.int .i64 1, .slice A3 M2.length c3, .slice B3 M3.length d3]), Fact.val (.bool true), Fact.val (.bool true), Fact.val (.bool true), Fact.val (.agg #[.int .i64 1, .slice A3 M2.length c3, .slice B3 M3.length d3]), Fact.val (.bool false), Fact.val (.bool true), Fact.val (.bool true), Fact.val (.bool true), Fact.val (.agg #[.int .i64 1, .slice A3 M2.length c3, .slice B3 M3.length d3]), Fact.val (.agg #[.int .i64 1, .slice A3 M2.length c3, .slice B3 M3.length d3]), Fact.val (.bool true), Fact.val (.bool true), Fact.val (.bool true), Fact.val (.agg #[.int .i64 1, .slice A3 M2.length c3, .slice B3 M3.length d3]), Fact.val (.agg #[.int .i64 1, .slice A4 M3.length c4, .slice B4 M2.length d4]), Fact.val (.bool false), Fact.val (.bool true), Fact.val (.bool true), Fact.val (.bool true)] (wc) _ 65 (by kernel_rfl) (by kernel_rfl) (by kernel_rfl) (by kernel_rfl) (by kernel_rfl) (by kernel_rfl) (Ext.refl _) ?_ ?_
  · refine ⟨?_, ?_, ?_, ?_, ?_, ?_, ?_, ?_, ?_, ?_, ?_, ?_, ?_, ?_, ?_, ?_, ?_, ?_, ?_, ?_, ?_, ?_, ?_, ?_, ?_, ?_, ?_, ?_, ?_, ?_, ?_, ?_, ?_, ?_, ?_, ?_, ?_, ?_, ?_, ?_, ?_, ?_, ?_, ?_, ?_, ?_, ?_, ?_, ?_, ?_, ?_, ?_, ?_, ?_, ?_, ?_, ?_, ?_, ?_, ?_, ?_, ?_, ?_, ?_, ?_, trivial⟩
    · intro a u hx hd hr
      rw [if_pos (wanted_none rfl)]
      clear hd hr
      refine Y_calls (f := 7) (args := #[]) (by go_simp) ?_
      exact (lives_any _).mono fun e u2 k => ⟨_, k.1, rfl, k.2⟩
    · intro a u hx hd hr
      rw [if_pos (wanted_none rfl)]
      exact Y_copy (.inl rfl) (hd 0 38 rfl rfl)
    · intro a u hx hd hr
      have eg : a.eval (.tmp 39) = .bool true := hd 1 39 rfl rfl
      rw [if_pos (by rw [wanted_some rfl rfl eg]; rfl)]
      exact Y_copy (.inl rfl) (hr 6 rfl)
    · intro a u hx hd hr
      have eg : a.eval (.tmp 39) = .bool true := hd 1 39 rfl rfl
      rw [if_pos (by rw [wanted_some rfl rfl eg]; rfl)]
      have e40 : a.eval (.tmp 40) = .int .i64 (0) := hd 2 40 rfl rfl
      clear hd hr
      simp only [Act.eval, Array.getD_eq_getD_getElem?] at e40
      exact Y_val (v := .bool true) (by go_simp) rfl
    · intro a u hx hd hr
      rw [if_pos (wanted_none rfl)]
      have e39 : a.eval (.tmp 39) = .bool true := hd 1 39 rfl rfl
      exact Y_pick rfl e39 (hd 3 41 rfl rfl)
    · intro a u hx hd hr
      rw [if_pos (wanted_none rfl)]
      exact Y_copy (.inl rfl) (hd 4 42 rfl rfl)
    · intro a u hx hd hr
      have eg : a.eval (.tmp 43) = .bool true := hd 5 43 rfl rfl
      rw [if_pos (by rw [wanted_some rfl rfl eg]; rfl)]
      have e5 : a.eval (.tmp 5) = .pointer (some ⟨w5.heap.size, 0, none⟩) := hr 5 rfl
      exact Y_load_row 25 (.tmp 5) rfl _ e5 _ _ _ _ (hrowq _ hx) Try.underlying25 rfl (by kernel_rfl) rfl
    · intro a u hx hd hr
      have eg : a.eval (.tmp 43) = .bool true := hd 5 43 rfl rfl
      rw [if_pos (by rw [wanted_some rfl rfl eg]; rfl)]
      clear hd hr
      exact Y_value (v := .slice (some ⟨u.heap.size, 0, none⟩) 1 1) (w' := u.alloc (.cells #[.int .i64 3] 3)) (by go_simp) ⟨some ⟨u.heap.size, 0, none⟩, 1, rfl, Is.new u [3] 3 1 rfl (by decide) _ rfl⟩ (Ext.alloc u _)
    · intro a u hx hd hr
      have eg : a.eval (.tmp 43) = .bool true := hd 5 43 rfl rfl
      rw [if_pos (by rw [wanted_some rfl rfl eg]; rfl)]
      obtain ⟨A45, c45, e45, d45⟩ : IsI ([3]) (a.eval (.tmp 45)) u := hd 7 45 rfl rfl
      clear hd hr
      refine Y_calls (f := 9) (args := #[(a.eval (.tmp 45))]) (by go_simp) ?_
      rw [e45]
      exact names_lit [3] M3 HM3.out A45 c45 _ _ rfl d45 (by decide)
    · intro a u hx hd hr
      have eg : a.eval (.tmp 43) = .bool true := hd 5 43 rfl rfl
      rw [if_pos (by rw [wanted_some rfl rfl eg]; rfl)]
      clear hd hr
      exact Y_value (v := .slice (some ⟨u.heap.size, 0, none⟩) 1 1) (w' := u.alloc (.cells #[.int .i64 2] 3)) (by go_simp) ⟨some ⟨u.heap.size, 0, none⟩, 1, rfl, Is.new u [2] 3 1 rfl (by decide) _ rfl⟩ (Ext.alloc u _)
    · intro a u hx hd hr
      have eg : a.eval (.tmp 43) = .bool true := hd 5 43 rfl rfl
      rw [if_pos (by rw [wanted_some rfl rfl eg]; rfl)]
      obtain ⟨A47, c47, e47, d47⟩ : IsI ([2]) (a.eval (.tmp 47)) u := hd 9 47 rfl rfl
      clear hd hr
      refine Y_calls (f := 9) (args := #[(a.eval (.tmp 47))]) (by go_simp) ?_
      rw [e47]
      exact names_lit [2] M2 HM2.out A47 c47 _ _ rfl d47 (by decide)
    · intro a u hx hd hr
      have eg : a.eval (.tmp 43) = .bool true := hd 5 43 rfl rfl
      rw [if_pos (by rw [wanted_some rfl rfl eg]; rfl)]
      obtain ⟨A46, c46, e46, d46⟩ : IsD (M3) (a.eval (.tmp 46)) u := hd 8 46 rfl rfl
      obtain ⟨A48, c48, e48, d48⟩ : IsD (M2) (a.eval (.tmp 48)) u := hd 10 48 rfl rfl
      clear hd hr
      simp only [Act.eval, Array.getD_eq_getD_getElem?] at e46 e48
      exact Y_val (v := .agg #[.int .i64 1, .slice A46 (M3).length c46, .slice A48 (M2).length c48]) (by go_simp) ⟨A46, c46, A48, c48, rfl, d46, d48⟩
    · intro a u hx hd hr
      have eg : a.eval (.tmp 43) = .bool true := hd 5 43 rfl rfl
      rw [if_pos (by rw [wanted_some rfl rfl eg]; rfl)]
      have e44 : a.eval (.tmp 44) = .agg #[.int .i64 1, .slice A4 M3.length c4, .slice B4 M2.length d4] := hd 6 44 rfl rfl
      obtain ⟨v49, e49, d49⟩ : ∃ v, a.eval (.tmp 49) = v ∧ IsPlan u v (⟨1, M3, M2⟩) := ⟨_, rfl, hd 11 49 rfl rfl⟩
      clear hd hr
      refine Y_calls (f := 16) (args := #[(a.eval (.tmp 44)), (a.eval (.tmp 49))]) (by go_simp) ?_
      rw [e44, e49]
      exact (kitplan_s _ (⟨1, M3, M2⟩) _ (⟨1, M3, M2⟩) _ (hpq.ext hx) d49).mono fun e u2 k => ⟨_, k.1.trans (by rw [HK.out]), rfl, k.2⟩
    · intro a u hx hd hr
      rw [if_pos (wanted_none rfl)]
      have e43 : a.eval (.tmp 43) = .bool true := hd 5 43 rfl rfl
      exact Y_pick rfl e43 (hd 12 50 rfl rfl)
    · intro a u hx hd hr
      rw [if_pos (wanted_none rfl)]
      exact Y_copy (.inl rfl) (hd 13 51 rfl rfl)
    · intro a u hx hd hr
      have eg : a.eval (.tmp 52) = .bool true := hd 14 52 rfl rfl
      rw [if_pos (by rw [wanted_some rfl rfl eg]; rfl)]
      exact Y_copy (.inl rfl) (hr 8 rfl)
    · intro a u hx hd hr
      have eg : a.eval (.tmp 52) = .bool true := hd 14 52 rfl rfl
      rw [if_pos (by rw [wanted_some rfl rfl eg]; rfl)]
      have e53 : a.eval (.tmp 53) = .int .i64 (2) := hd 15 53 rfl rfl
      clear hd hr
      simp only [Act.eval, Array.getD_eq_getD_getElem?] at e53
      exact Y_val (v := .bool true) (by go_simp) rfl
    · intro a u hx hd hr
      rw [if_pos (wanted_none rfl)]
      have e52 : a.eval (.tmp 52) = .bool true := hd 14 52 rfl rfl
      exact Y_pick rfl e52 (hd 16 54 rfl rfl)
    · intro a u hx hd hr
      rw [if_pos (wanted_none rfl)]
      exact Y_copy (.inl rfl) (hd 17 55 rfl rfl)
    · intro a u hx hd hr
      have eg : a.eval (.tmp 56) = .bool true := hd 18 56 rfl rfl
      rw [if_pos (by rw [wanted_some rfl rfl eg]; rfl)]
      exact Y_copy (.inl rfl) (hr 10 rfl)
    · intro a u hx hd hr
      have eg : a.eval (.tmp 56) = .bool true := hd 18 56 rfl rfl
      rw [if_pos (by rw [wanted_some rfl rfl eg]; rfl)]
      have e57 : a.eval (.tmp 57) = .int .i64 (0) := hd 19 57 rfl rfl
      clear hd hr
      simp only [Act.eval, Array.getD_eq_getD_getElem?] at e57
      exact Y_val (v := .bool true) (by go_simp) rfl
    · intro a u hx hd hr
      rw [if_pos (wanted_none rfl)]
      have e56 : a.eval (.tmp 56) = .bool true := hd 18 56 rfl rfl
      exact Y_pick rfl e56 (hd 20 58 rfl rfl)
    · intro a u hx hd hr
      rw [if_pos (wanted_none rfl)]
      exact Y_copy (.inl rfl) (hd 21 59 rfl rfl)
    · intro a u hx hd hr
      have eg : a.eval (.tmp 60) = .bool true := hd 22 60 rfl rfl
      rw [if_pos (by rw [wanted_some rfl rfl eg]; rfl)]
      exact Y_copy (.inl rfl) (hr 9 rfl)
    · intro a u hx hd hr
      have eg : a.eval (.tmp 60) = .bool true := hd 22 60 rfl rfl
      rw [if_pos (by rw [wanted_some rfl rfl eg]; rfl)]
      exact Y_copy (.inl rfl) (hr 1 rfl)
    · intro a u hx hd hr
      have eg : a.eval (.tmp 60) = .bool true := hd 22 60 rfl rfl
      rw [if_pos (by rw [wanted_some rfl rfl eg]; rfl)]
      have e61 : a.eval (.tmp 61) = .slice A9 L1.length c9 := hd 23 61 rfl rfl
      have e62 : a.eval (.tmp 62) = .slice A1 L1.length c1 := hd 24 62 rfl rfl
      clear hd hr
      refine Y_calls (f := 13) (args := #[(a.eval (.tmp 61)), (a.eval (.tmp 62))]) (by go_simp) ?_
      rw [e61, e62]
      exact (digests_s A9 c9 L1 A1 c1 L1 _ (hd9.below hx) (hd1.below hx)).mono fun e u2 k => ⟨_, k.1.trans (by rw [HD.out]), rfl, k.2⟩
    · intro a u hx hd hr
      rw [if_pos (wanted_none rfl)]
      have e60 : a.eval (.tmp 60) = .bool true := hd 22 60 rfl rfl
      exact Y_pick rfl e60 (hd 25 63 rfl rfl)
    · intro a u hx hd hr
      rw [if_pos (wanted_none rfl)]
      exact Y_copy (.inl rfl) (hd 26 64 rfl rfl)
    · intro a u hx hd hr
      have eg : a.eval (.tmp 65) = .bool true := hd 27 65 rfl rfl
      rw [if_pos (by rw [wanted_some rfl rfl eg]; rfl)]
      clear hd hr
      exact Y_val (v := .agg #[.int .i64 (-1), .slice none 0 0, .slice none 0 0]) (by go_simp) ⟨none, 0, none, 0, rfl, (Ds.nil _), (Ds.nil _)⟩
    · intro a u hx hd hr
      have eg : a.eval (.tmp 65) = .bool true := hd 27 65 rfl rfl
      rw [if_pos (by rw [wanted_some rfl rfl eg]; rfl)]
      obtain ⟨v66, e66, d66⟩ : ∃ v, a.eval (.tmp 66) = v ∧ IsPlan u v (⟨(-1), [], []⟩) := ⟨_, rfl, hd 28 66 rfl rfl⟩
      clear hd hr
      refine Y_calls (f := 17) (args := #[(a.eval (.tmp 66))]) (by go_simp) ?_
      rw [e66]
      exact (check_any _ (⟨(-1), [], []⟩) _ d66 (by first | omega | (dsimp only; omega) | (simp; done) | (simp; omega)) (by first | omega | (dsimp only; omega) | (simp; done) | (simp; omega))).mono fun e u2 k => ⟨_, k.1.trans (by rw [HC1.out]), rfl, k.2⟩
    · intro a u hx hd hr
      have eg : a.eval (.tmp 65) = .bool true := hd 27 65 rfl rfl
      rw [if_pos (by rw [wanted_some rfl rfl eg]; rfl)]
      have e67 : a.eval (.tmp 67) = .int .i64 2 := hd 29 67 rfl rfl
      clear hd hr
      simp only [Act.eval, Array.getD_eq_getD_getElem?] at e67
      exact Y_val (v := .bool true) (by go_simp) rfl
    · intro a u hx hd hr
      rw [if_pos (wanted_none rfl)]
      have e65 : a.eval (.tmp 65) = .bool true := hd 27 65 rfl rfl
      exact Y_pick rfl e65 (hd 30 68 rfl rfl)
    · intro a u hx hd hr
      rw [if_pos (wanted_none rfl)]
      exact Y_copy (.inl rfl) (hd 31 69 rfl rfl)
    · intro a u hx hd hr
      have eg : a.eval (.tmp 70) = .bool true := hd 32 70 rfl rfl
      rw [if_pos (by rw [wanted_some rfl rfl eg]; rfl)]
      exact Y_copy (.inl rfl) (hr 1 rfl)
    · intro a u hx hd hr
      have eg : a.eval (.tmp 70) = .bool true := hd 32 70 rfl rfl
      rw [if_pos (by rw [wanted_some rfl rfl eg]; rfl)]
      exact Y_copy (.inl rfl) (hr 1 rfl)
    · intro a u hx hd hr
      have eg : a.eval (.tmp 70) = .bool true := hd 32 70 rfl rfl
      rw [if_pos (by rw [wanted_some rfl rfl eg]; rfl)]
      have e71 : a.eval (.tmp 71) = .slice A1 L1.length c1 := hd 33 71 rfl rfl
      have e72 : a.eval (.tmp 72) = .slice A1 L1.length c1 := hd 34 72 rfl rfl
      clear hd hr
      simp only [Act.eval, Array.getD_eq_getD_getElem?] at e71 e72
      exact Y_val (v := .agg #[.int .i64 0, .slice A1 (L1).length c1, .slice A1 (L1).length c1]) (by go_simp) ⟨A1, c1, A1, c1, rfl, (hd1.below hx), (hd1.below hx)⟩
    · intro a u hx hd hr
      have eg : a.eval (.tmp 70) = .bool true := hd 32 70 rfl rfl
      rw [if_pos (by rw [wanted_some rfl rfl eg]; rfl)]
      obtain ⟨v73, e73, d73⟩ : ∃ v, a.eval (.tmp 73) = v ∧ IsPlan u v (⟨0, L1, L1⟩) := ⟨_, rfl, hd 35 73 rfl rfl⟩
      clear hd hr
      refine Y_calls (f := 17) (args := #[(a.eval (.tmp 73))]) (by go_simp) ?_
      rw [e73]
      exact (check_any _ (⟨0, L1, L1⟩) _ d73 (by first | omega | (dsimp only; omega) | (simp; done) | (simp; omega)) (by first | omega | (dsimp only; omega) | (simp; done) | (simp; omega))).mono fun e u2 k => ⟨_, k.1.trans (by rw [HC2.out]), rfl, k.2⟩
    · intro a u hx hd hr
      have eg : a.eval (.tmp 70) = .bool true := hd 32 70 rfl rfl
      rw [if_pos (by rw [wanted_some rfl rfl eg]; rfl)]
      have e74 : a.eval (.tmp 74) = .int .i64 2 := hd 36 74 rfl rfl
      clear hd hr
      simp only [Act.eval, Array.getD_eq_getD_getElem?] at e74
      exact Y_val (v := .bool true) (by go_simp) rfl
    · intro a u hx hd hr
      rw [if_pos (wanted_none rfl)]
      have e70 : a.eval (.tmp 70) = .bool true := hd 32 70 rfl rfl
      exact Y_pick rfl e70 (hd 37 75 rfl rfl)
    · intro a u hx hd hr
      rw [if_pos (wanted_none rfl)]
      exact Y_copy (.inl rfl) (hd 38 76 rfl rfl)
    · intro a u hx hd hr
      have eg : a.eval (.tmp 77) = .bool true := hd 39 77 rfl rfl
      rw [if_pos (by rw [wanted_some rfl rfl eg]; rfl)]
      have e3 : a.eval (.tmp 3) = .pointer (some ⟨w3.heap.size, 0, none⟩) := hr 3 rfl
      exact Y_load_row 25 (.tmp 3) rfl _ e3 _ _ _ _ (hrowp _ hx) Try.underlying25 rfl (by kernel_rfl) rfl
    · intro a u hx hd hr
      have eg : a.eval (.tmp 77) = .bool true := hd 39 77 rfl rfl
      rw [if_pos (by rw [wanted_some rfl rfl eg]; rfl)]
      have e78 : a.eval (.tmp 78) = .agg #[.int .i64 1, .slice A3 M2.length c3, .slice B3 M3.length d3] := hd 40 78 rfl rfl
      clear hd hr
      refine Y_calls (f := 18) (args := #[(a.eval (.tmp 78))]) (by go_simp) ?_
      rw [e78]
      exact (depth_s _ (⟨1, M2, M3⟩) _ (hpp.ext hx) (by first | omega | (dsimp only; omega) | (simp; done) | (simp; omega)) (by first | omega | (dsimp only; omega) | (simp; done) | (simp; omega))).mono fun e u2 k => ⟨_, k.1.trans (by rw [HDP.out]), rfl, k.2⟩
    · intro a u hx hd hr
      have eg : a.eval (.tmp 77) = .bool true := hd 39 77 rfl rfl
      rw [if_pos (by rw [wanted_some rfl rfl eg]; rfl)]
      have e79 : a.eval (.tmp 79) = .int .i64 1 := hd 41 79 rfl rfl
      clear hd hr
      simp only [Act.eval, Array.getD_eq_getD_getElem?] at e79
      exact Y_val (v := .bool true) (by go_simp) rfl
    · intro a u hx hd hr
      rw [if_pos (wanted_none rfl)]
      have e77 : a.eval (.tmp 77) = .bool true := hd 39 77 rfl rfl
      exact Y_pick rfl e77 (hd 42 80 rfl rfl)
    · intro a u hx hd hr
      rw [if_pos (wanted_none rfl)]
      exact Y_copy (.inl rfl) (hd 43 81 rfl rfl)
    · intro a u hx hd hr
      have eg : a.eval (.tmp 82) = .bool true := hd 44 82 rfl rfl
      rw [if_pos (by rw [wanted_some rfl rfl eg]; rfl)]
      have e3 : a.eval (.tmp 3) = .pointer (some ⟨w3.heap.size, 0, none⟩) := hr 3 rfl
      exact Y_load_row 25 (.tmp 3) rfl _ e3 _ _ _ _ (hrowp _ hx) Try.underlying25 rfl (by kernel_rfl) rfl
    · intro a u hx hd hr
      have eg : a.eval (.tmp 82) = .bool true := hd 44 82 rfl rfl
      rw [if_pos (by rw [wanted_some rfl rfl eg]; rfl)]
      have e83 : a.eval (.tmp 83) = .agg #[.int .i64 1, .slice A3 M2.length c3, .slice B3 M3.length d3] := hd 45 83 rfl rfl
      clear hd hr
      refine Y_calls (f := 21) (args := #[(a.eval (.tmp 83)), (.int .i64 1)]) (by go_simp) ?_
      rw [e83]
      exact (spares_s _ (⟨1, M2, M3⟩) 1 _ (hpp.ext hx) (by first | omega | (dsimp only; omega) | (simp; done) | (simp; omega)) (by first | omega | (dsimp only; omega) | (simp; done) | (simp; omega))).mono fun e u2 k => ⟨_, k.1.trans (by rw [HS1.out]), rfl, k.2⟩
    · intro a u hx hd hr
      rw [if_pos (wanted_none rfl)]
      have e82 : a.eval (.tmp 82) = .bool true := hd 44 82 rfl rfl
      exact Y_pick rfl e82 (hd 46 84 rfl rfl)
    · intro a u hx hd hr
      rw [if_pos (wanted_none rfl)]
      exact Y_copy (.inl rfl) (hd 47 85 rfl rfl)
    · intro a u hx hd hr
      have eg : a.eval (.tmp 86) = .bool true := hd 48 86 rfl rfl
      rw [if_pos (by rw [wanted_some rfl rfl eg]; rfl)]
      have e3 : a.eval (.tmp 3) = .pointer (some ⟨w3.heap.size, 0, none⟩) := hr 3 rfl
      exact Y_load_row 25 (.tmp 3) rfl _ e3 _ _ _ _ (hrowp _ hx) Try.underlying25 rfl (by kernel_rfl) rfl
    · intro a u hx hd hr
      have eg : a.eval (.tmp 86) = .bool true := hd 48 86 rfl rfl
      rw [if_pos (by rw [wanted_some rfl rfl eg]; rfl)]
      have e87 : a.eval (.tmp 87) = .agg #[.int .i64 1, .slice A3 M2.length c3, .slice B3 M3.length d3] := hd 49 87 rfl rfl
      clear hd hr
      refine Y_calls (f := 21) (args := #[(a.eval (.tmp 87)), (.int .i64 2)]) (by go_simp) ?_
      rw [e87]
      exact (spares_s _ (⟨1, M2, M3⟩) 2 _ (hpp.ext hx) (by first | omega | (dsimp only; omega) | (simp; done) | (simp; omega)) (by first | omega | (dsimp only; omega) | (simp; done) | (simp; omega))).mono fun e u2 k => ⟨_, k.1.trans (by rw [HS2.out]), rfl, k.2⟩
    · intro a u hx hd hr
      have eg : a.eval (.tmp 86) = .bool true := hd 48 86 rfl rfl
      rw [if_pos (by rw [wanted_some rfl rfl eg]; rfl)]
      have e88 : a.eval (.tmp 88) = .bool false := hd 50 88 rfl rfl
      clear hd hr
      simp only [Act.eval, Array.getD_eq_getD_getElem?] at e88
      exact Y_val (v := .bool true) (by go_simp) rfl
    · intro a u hx hd hr
      rw [if_pos (wanted_none rfl)]
      have e86 : a.eval (.tmp 86) = .bool true := hd 48 86 rfl rfl
      exact Y_pick rfl e86 (hd 51 89 rfl rfl)
    · intro a u hx hd hr
      rw [if_pos (wanted_none rfl)]
      exact Y_copy (.inl rfl) (hd 52 90 rfl rfl)
    · intro a u hx hd hr
      have eg : a.eval (.tmp 91) = .bool true := hd 53 91 rfl rfl
      rw [if_pos (by rw [wanted_some rfl rfl eg]; rfl)]
      have e3 : a.eval (.tmp 3) = .pointer (some ⟨w3.heap.size, 0, none⟩) := hr 3 rfl
      exact Y_load_row 25 (.tmp 3) rfl _ e3 _ _ _ _ (hrowp _ hx) Try.underlying25 rfl (by kernel_rfl) rfl
    · intro a u hx hd hr
      have eg : a.eval (.tmp 91) = .bool true := hd 53 91 rfl rfl
      rw [if_pos (by rw [wanted_some rfl rfl eg]; rfl)]
      have e3 : a.eval (.tmp 3) = .pointer (some ⟨w3.heap.size, 0, none⟩) := hr 3 rfl
      exact Y_load_row 25 (.tmp 3) rfl _ e3 _ _ _ _ (hrowp _ hx) Try.underlying25 rfl (by kernel_rfl) rfl
    · intro a u hx hd hr
      have eg : a.eval (.tmp 91) = .bool true := hd 53 91 rfl rfl
      rw [if_pos (by rw [wanted_some rfl rfl eg]; rfl)]
      have e92 : a.eval (.tmp 92) = .agg #[.int .i64 1, .slice A3 M2.length c3, .slice B3 M3.length d3] := hd 54 92 rfl rfl
      have e93 : a.eval (.tmp 93) = .agg #[.int .i64 1, .slice A3 M2.length c3, .slice B3 M3.length d3] := hd 55 93 rfl rfl
      clear hd hr
      refine Y_calls (f := 19) (args := #[(a.eval (.tmp 92)), (a.eval (.tmp 93))]) (by go_simp) ?_
      rw [e92, e93]
      exact (same_s _ (⟨1, M2, M3⟩) _ (⟨1, M2, M3⟩) _ (hpp.ext hx) (hpp.ext hx)).mono fun e u2 k => ⟨_, k.1.trans (by rw [HSP.out]), rfl, k.2⟩
    · intro a u hx hd hr
      rw [if_pos (wanted_none rfl)]
      have e91 : a.eval (.tmp 91) = .bool true := hd 53 91 rfl rfl
      exact Y_pick rfl e91 (hd 56 94 rfl rfl)
    · intro a u hx hd hr
      rw [if_pos (wanted_none rfl)]
      exact Y_copy (.inl rfl) (hd 57 95 rfl rfl)
    · intro a u hx hd hr
      have eg : a.eval (.tmp 96) = .bool true := hd 58 96 rfl rfl
      rw [if_pos (by rw [wanted_some rfl rfl eg]; rfl)]
      have e3 : a.eval (.tmp 3) = .pointer (some ⟨w3.heap.size, 0, none⟩) := hr 3 rfl
      exact Y_load_row 25 (.tmp 3) rfl _ e3 _ _ _ _ (hrowp _ hx) Try.underlying25 rfl (by kernel_rfl) rfl
    · intro a u hx hd hr
      have eg : a.eval (.tmp 96) = .bool true := hd 58 96 rfl rfl
      rw [if_pos (by rw [wanted_some rfl rfl eg]; rfl)]
      have e5 : a.eval (.tmp 5) = .pointer (some ⟨w5.heap.size, 0, none⟩) := hr 5 rfl
      exact Y_load_row 25 (.tmp 5) rfl _ e5 _ _ _ _ (hrowq _ hx) Try.underlying25 rfl (by kernel_rfl) rfl
    · intro a u hx hd hr
      have eg : a.eval (.tmp 96) = .bool true := hd 58 96 rfl rfl
      rw [if_pos (by rw [wanted_some rfl rfl eg]; rfl)]
      have e97 : a.eval (.tmp 97) = .agg #[.int .i64 1, .slice A3 M2.length c3, .slice B3 M3.length d3] := hd 59 97 rfl rfl
      have e98 : a.eval (.tmp 98) = .agg #[.int .i64 1, .slice A4 M3.length c4, .slice B4 M2.length d4] := hd 60 98 rfl rfl
      clear hd hr
      refine Y_calls (f := 19) (args := #[(a.eval (.tmp 97)), (a.eval (.tmp 98))]) (by go_simp) ?_
      rw [e97, e98]
      exact (same_s _ (⟨1, M2, M3⟩) _ (⟨1, M3, M2⟩) _ (hpp.ext hx) (hpq.ext hx)).mono fun e u2 k => ⟨_, k.1.trans (by rw [HSQ.out]), rfl, k.2⟩
    · intro a u hx hd hr
      have eg : a.eval (.tmp 96) = .bool true := hd 58 96 rfl rfl
      rw [if_pos (by rw [wanted_some rfl rfl eg]; rfl)]
      have e99 : a.eval (.tmp 99) = .bool false := hd 61 99 rfl rfl
      clear hd hr
      simp only [Act.eval, Array.getD_eq_getD_getElem?] at e99
      exact Y_val (v := .bool true) (by go_simp) rfl
    · intro a u hx hd hr
      rw [if_pos (wanted_none rfl)]
      have e96 : a.eval (.tmp 96) = .bool true := hd 58 96 rfl rfl
      exact Y_pick rfl e96 (hd 62 100 rfl rfl)
    · intro a u hx hd hr
      rw [if_pos (wanted_none rfl)]
      exact Y_copy (.inr rfl) (hd 63 101 rfl rfl)
  intro f wq hwq hF
  have fz : f 64 = .bool true := hF 64 0 (by decide) rfl
  clear hF
  refine wpList_nil ?_
  generalize hq : puts f 0 _ _ = aq
  have hs : aq.tmps.getD 0 undef = .bool true := by rw [← fz, ← hq]; kernel_rfl
  have hdf : aq.defers = [] := by rw [← hq]; kernel_rfl
  clear hq fz f
  go_wp2_with fail
  refine bodyPost_ret (v := .bool true) (by rw [results_tmp rfl, hs]) hdf ⟨rfl, Ext.trans x0c hwq⟩
end Go.Proofs.Ytigcfbpgbenabaa
