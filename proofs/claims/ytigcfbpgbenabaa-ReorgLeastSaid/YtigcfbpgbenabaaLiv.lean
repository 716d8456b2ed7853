import Derived.Test.YtigcfbpgbenabaaLayT
namespace Go.Proofs.Ytigcfbpgbenabaa
open Go.RowKit

theorem lives_from : fromP ([1, 2, 3].map nd) ([1, 3, 2].map nd) = (⟨1, [2, 3].map nd, [3, 2].map nd⟩, 0) := by kernel_rfl
theorem lives_apply : applyP ⟨1, [2, 3].map nd, [3, 2].map nd⟩ ([1, 2, 4].map nd) = ([], 4) := by kernel_rfl

set_option maxHeartbeats 2000000 in
theorem lives_any (w : World) : Calls Try.prog 7 #[] w fun e w' => e = .returned (.bool true) ∧ Ext w w' := by
  have hF := lives_from
  have hA := lives_apply
  obtain ⟨L1, hL1⟩ : ∃ L, L = [1, 2, 3].map nd := ⟨_, rfl⟩
  obtain ⟨L2, hL2⟩ : ∃ L, L = [1, 3, 2].map nd := ⟨_, rfl⟩
  obtain ⟨L3, hL3⟩ : ∃ L, L = [1, 2, 4].map nd := ⟨_, rfl⟩
  obtain ⟨L4, hL4⟩ : ∃ L, L = [2, 3].map nd := ⟨_, rfl⟩
  obtain ⟨L5, hL5⟩ : ∃ L, L = [3, 2].map nd := ⟨_, rfl⟩
  rw [← hL1, ← hL2, ← hL4, ← hL5] at hF
  rw [← hL3, ← hL4, ← hL5] at hA
  have l1 : L1.length ≤ 40 := by rw [hL1]; decide
  have l2 : L2.length ≤ 40 := by rw [hL2]; decide
  have l3 : L3.length ≤ 40 := by rw [hL3]; decide
  have l4 : L4.length ≤ 40 := by rw [hL4]; decide
  have l5 : L5.length ≤ 40 := by rw [hL5]; decide
  have HL1 := Lib.hid hL1
  have HL2 := Lib.hid hL2
  have HL3 := Lib.hid hL3
  have HL4 := Lib.hid hL4
  have HL5 := Lib.hid hL5
  have HF := Lib.hid hF
  have HA := Lib.hid hA
  have HK := Lib.hid (samePV_refl ⟨1, L4, L5⟩)
  clear hL1 hL2 hL3 hL4 hL5 hF hA
  go_enter Try.func7, Try.ntmps7
  go_wp2_with fail
  refine (names_lit [1, 2, 3] L1 HL1.out _ _ _ _ rfl (Is.new w [1, 2, 3] 3 3 rfl (by decide) _ rfl) (by decide)).mono ?_
  rintro e w1 ⟨_, rfl, ⟨A1, c1, rfl, d1⟩, x1⟩
  go_wp2_with fail
  refine (names_lit [1, 3, 2] L2 HL2.out _ _ _ _ rfl (Is.new w1 [1, 3, 2] 3 3 rfl (by decide) _ rfl) (by decide)).mono ?_
  rintro e w2 ⟨_, rfl, ⟨A2, c2, rfl, d2⟩, x2⟩
  have x02 : Ext w w2 := Ext.trans (Ext.trans (Ext.alloc w _) x1) (Ext.trans (Ext.alloc w1 _) x2)
  have d1 := d1.below (Ext.trans (Ext.alloc w1 _) x2)
  clear x1 x2
  go_wp2_with fail
  have hct := from_any A1 c1 L1 A2 c2 L2 w2 d1 d2 (by omega) (by omega)
  rw [HF.out] at hct
  refine hct.mono ?_
  rintro e w3 ⟨_, rfl, ⟨A3, c3, B3, d3, rfl, f1, f2⟩, x3⟩
  simp only at f1 f2 ⊢
  clear hct d1 d2
  go_wp2_with fail
  have hrow0 := heap_alloc_new w3 (.cells #[.int .i64 1, .slice A3 L4.length c3, .slice B3 L5.length d3] 25)
  have x4 := Ext.alloc w3 (.cells #[.int .i64 1, .slice A3 L4.length c3, .slice B3 L5.length d3] 25)
  have hp : IsPlan (w3.alloc (.cells #[.int .i64 1, .slice A3 L4.length c3, .slice B3 L5.length d3] 25)) (.agg #[.int .i64 1, .slice A3 L4.length c3, .slice B3 L5.length d3]) ⟨1, L4, L5⟩ := ⟨A3, c3, B3, d3, rfl, f1.below x4, f2.below x4⟩
  have x04 := Ext.trans x02 (Ext.trans x3 x4)
  clear x02 x3 x4 f1 f2
  generalize w3.alloc (.cells #[.int .i64 1, .slice A3 L4.length c3, .slice B3 L5.length d3] 25) = w4 at *
  have hrow : ∀ u, Ext w4 u → u.heap[w3.heap.size]? = some (.cells #[.int .i64 1, .slice A3 L4.length c3, .slice B3 L5.length d3] 25 (0, 0)) := fun u hu => (hu.block _ (Array.getElem?_eq_some_iff.1 hrow0).1).trans hrow0
  refine wp_region_layt [Fact.val (.agg #[.int .i64 1, .slice A3 L4.length c3, .slice B3 L5.length d3]), Fact.ints ([1, 2, 4]), Fact.ds (L3), Fact.tupd ([]) (4), Fact.tupd ([]) (4), Fact.ds ([]), Fact.val (.int .i64 (4)), Fact.ds ([]), Fact.val (.int .i64 (4))] (w4) _ 9 (by kernel_rfl) (by kernel_rfl) (by kernel_rfl) (by kernel_rfl) (by kernel_rfl) (by kernel_rfl) (Ext.refl _) ?_ ?_
  · refine ⟨?_, ?_, ?_, ?_, ?_, ?_, ?_, ?_, ?_, trivial⟩
    · intro a u hx hd hr
      rw [if_pos (wanted_none rfl)]
      have e1 : a.eval (.tmp 1) = .pointer (some ⟨w3.heap.size, 0, none⟩) := hr 1 rfl
      exact Y_load_row 25 (.tmp 1) rfl _ e1 _ _ _ _ (hrow _ hx) Try.underlying25 rfl (by kernel_rfl) rfl
    · intro a u hx hd hr
      rw [if_pos (wanted_none rfl)]
      clear hd hr
      exact Y_value (v := .slice (some ⟨u.heap.size, 0, none⟩) 3 3) (w' := u.alloc (.cells #[.int .i64 1, .int .i64 2, .int .i64 4] 3)) (by go_simp) ⟨some ⟨u.heap.size, 0, none⟩, 3, rfl, Is.new u [1, 2, 4] 3 3 rfl (by decide) _ rfl⟩ (Ext.alloc u _)
    · intro a u hx hd hr
      rw [if_pos (wanted_none rfl)]
      obtain ⟨A15, c15, e15, d15⟩ : IsI ([1, 2, 4]) (a.eval (.tmp 15)) u := hd 1 15 rfl rfl
      clear hd hr
      refine Y_calls (f := 9) (args := #[(a.eval (.tmp 15))]) (by go_simp) ?_
      rw [e15]
      exact names_lit [1, 2, 4] L3 HL3.out A15 c15 _ _ rfl d15 (by decide)
    · intro a u hx hd hr
      rw [if_pos (wanted_none rfl)]
      have e14 : a.eval (.tmp 14) = .agg #[.int .i64 1, .slice A3 L4.length c3, .slice B3 L5.length d3] := hd 0 14 rfl rfl
      obtain ⟨A16, c16, e16, d16⟩ : IsD (L3) (a.eval (.tmp 16)) u := hd 2 16 rfl rfl
      clear hd hr
      refine Y_calls (f := 14) (args := #[(a.eval (.tmp 14)), (a.eval (.tmp 16))]) (by go_simp) ?_
      rw [e14, e16]
      exact (apply_any _ (⟨1, L4, L5⟩) A16 c16 L3 _ (hp.ext hx) d16 (by first | omega | (dsimp only; omega)) (by first | omega | (dsimp only; omega)) (by first | omega | (dsimp only; omega))).mono fun e u2 ⟨v, hv, hp, hx2⟩ => ⟨_, hv, ⟨v, by rw [HA.out], by rw [HA.out] at hp; exact hp⟩, hx2⟩
    · intro a u hx hd hr
      rw [if_pos (wanted_none rfl)]
      exact Y_copy (.inl rfl) (hd 3 17 rfl rfl)
    · intro a u hx hd hr
      rw [if_pos (wanted_none rfl)]
      obtain ⟨x13, e13, d13⟩ : ∃ x, a.eval (.tmp 13) = .tuple #[x, .int .i64 (4)] ∧ IsD ([]) x u := hd 4 13 rfl rfl
      clear hd hr
      simp only [Act.eval, Array.getD_eq_getD_getElem?] at e13
      exact Y_val (v := x13) (by go_simp) d13
    · intro a u hx hd hr
      rw [if_pos (wanted_none rfl)]
      obtain ⟨x13, e13, d13⟩ : ∃ x, a.eval (.tmp 13) = .tuple #[x, .int .i64 (4)] ∧ IsD ([]) x u := hd 4 13 rfl rfl
      clear hd hr
      simp only [Act.eval, Array.getD_eq_getD_getElem?] at e13
      exact Y_val (v := .int .i64 (4)) (by go_simp) rfl
    · intro a u hx hd hr
      rw [if_pos (wanted_none rfl)]
      exact Y_copy (.inr rfl) (hd 5 18 rfl rfl)
    · intro a u hx hd hr
      rw [if_pos (wanted_none rfl)]
      exact Y_copy (.inr rfl) (hd 6 19 rfl rfl)
  intro f wq hwq hF
  have f0 : f 0 = .agg #[.int .i64 1, .slice A3 L4.length c3, .slice B3 L5.length d3] := hF 0 14 (by decide) rfl
  have f6 : f 6 = .int .i64 (4) := hF 6 19 (by decide) rfl
  have f8 : f 8 = .int .i64 (4) := hF 8 4 (by decide) rfl
  clear hF
  simp only [List.take_succ_cons, List.take_zero, List.drop_succ_cons, List.drop_zero, puts, Act.put, List.setIfInBounds_toArray, List.set_cons_succ, List.set_cons_zero, Nat.zero_add, Nat.reduceAdd, f0, f6, f8]
  clear f0 f6 f8
  generalize f 1 = y1
  generalize f 2 = y2
  generalize f 3 = y3
  generalize f 4 = y4
  generalize f 5 = y5
  generalize f 7 = y7
  refine wpList_nil ?_
  go_wp2_with fail
  have hrow2 : ∀ u, Ext wq u → u.heap[w3.heap.size]? = some (.cells #[.int .i64 1, .slice A3 L4.length c3, .slice B3 L5.length d3] 25 (0, 0)) := fun u hu => hrow u (Ext.trans hwq hu)
  have hp2 := hp.ext hwq
  have xq := Ext.trans x04 hwq
  clear hrow hp hwq x04 hrow0
  refine wp_region_layt [Fact.val (.int .i64 0), Fact.val (.bool true), Fact.val (.bool true), Fact.val (.agg #[.int .i64 1, .slice A3 L4.length c3, .slice B3 L5.length d3]), Fact.ints ([2, 3]), Fact.ds (L4), Fact.ints ([3, 2]), Fact.ds (L5), Fact.plan (⟨1, L4, L5⟩), Fact.val (.bool true), Fact.val (.bool true), Fact.val (.bool true), Fact.val (.int .i64 (4)), Fact.val (.bool true), Fact.val (.bool true), Fact.val (.bool true)] (wq) _ 16 (by kernel_rfl) (by kernel_rfl) (by kernel_rfl) (by kernel_rfl) (by kernel_rfl) (by kernel_rfl) (Ext.refl _) ?_ ?_
  · refine ⟨?_, ?_, ?_, ?_, ?_, ?_, ?_, ?_, ?_, ?_, ?_, ?_, ?_, ?_, ?_, ?_, trivial⟩
    · intro a u hx hd hr
      rw [if_pos (wanted_none rfl)]
      exact Y_copy (.inl rfl) (hr 2 rfl)
    · intro a u hx hd hr
      rw [if_pos (wanted_none rfl)]
      have e20 : a.eval (.tmp 20) = .int .i64 0 := hd 0 20 rfl rfl
      clear hd hr
      simp only [Act.eval, Array.getD_eq_getD_getElem?] at e20
      exact Y_val (v := .bool true) (by go_simp) rfl
    · intro a u hx hd hr
      rw [if_pos (wanted_none rfl)]
      exact Y_copy (.inl rfl) (hd 1 21 rfl rfl)
    · intro a u hx hd hr
      have eg : a.eval (.tmp 22) = .bool true := hd 2 22 rfl rfl
      rw [if_pos (by rw [wanted_some rfl rfl eg]; rfl)]
      have e1 : a.eval (.tmp 1) = .pointer (some ⟨w3.heap.size, 0, none⟩) := hr 1 rfl
      exact Y_load_row 25 (.tmp 1) rfl _ e1 _ _ _ _ (hrow2 _ hx) Try.underlying25 rfl (by kernel_rfl) rfl
    · intro a u hx hd hr
      have eg : a.eval (.tmp 22) = .bool true := hd 2 22 rfl rfl
      rw [if_pos (by rw [wanted_some rfl rfl eg]; rfl)]
      clear hd hr
      exact Y_value (v := .slice (some ⟨u.heap.size, 0, none⟩) 2 2) (w' := u.alloc (.cells #[.int .i64 2, .int .i64 3] 3)) (by go_simp) ⟨some ⟨u.heap.size, 0, none⟩, 2, rfl, Is.new u [2, 3] 3 2 rfl (by decide) _ rfl⟩ (Ext.alloc u _)
    · intro a u hx hd hr
      have eg : a.eval (.tmp 22) = .bool true := hd 2 22 rfl rfl
      rw [if_pos (by rw [wanted_some rfl rfl eg]; rfl)]
      obtain ⟨A24, c24, e24, d24⟩ : IsI ([2, 3]) (a.eval (.tmp 24)) u := hd 4 24 rfl rfl
      clear hd hr
      refine Y_calls (f := 9) (args := #[(a.eval (.tmp 24))]) (by go_simp) ?_
      rw [e24]
      exact names_lit [2, 3] L4 HL4.out A24 c24 _ _ rfl d24 (by decide)
    · intro a u hx hd hr
      have eg : a.eval (.tmp 22) = .bool true := hd 2 22 rfl rfl
      rw [if_pos (by rw [wanted_some rfl rfl eg]; rfl)]
      clear hd hr
      exact Y_value (v := .slice (some ⟨u.heap.size, 0, none⟩) 2 2) (w' := u.alloc (.cells #[.int .i64 3, .int .i64 2] 3)) (by go_simp) ⟨some ⟨u.heap.size, 0, none⟩, 2, rfl, Is.new u [3, 2] 3 2 rfl (by decide) _ rfl⟩ (Ext.alloc u _)
    · intro a u hx hd hr
      have eg : a.eval (.tmp 22) = .bool true := hd 2 22 rfl rfl
      rw [if_pos (by rw [wanted_some rfl rfl eg]; rfl)]
      obtain ⟨A26, c26, e26, d26⟩ : IsI ([3, 2]) (a.eval (.tmp 26)) u := hd 6 26 rfl rfl
      clear hd hr
      refine Y_calls (f := 9) (args := #[(a.eval (.tmp 26))]) (by go_simp) ?_
      rw [e26]
      exact names_lit [3, 2] L5 HL5.out A26 c26 _ _ rfl d26 (by decide)
    · intro a u hx hd hr
      have eg : a.eval (.tmp 22) = .bool true := hd 2 22 rfl rfl
      rw [if_pos (by rw [wanted_some rfl rfl eg]; rfl)]
      obtain ⟨A25, c25, e25, d25⟩ : IsD (L4) (a.eval (.tmp 25)) u := hd 5 25 rfl rfl
      obtain ⟨A27, c27, e27, d27⟩ : IsD (L5) (a.eval (.tmp 27)) u := hd 7 27 rfl rfl
      clear hd hr
      simp only [Act.eval, Array.getD_eq_getD_getElem?] at e25 e27
      exact Y_val (v := .agg #[.int .i64 1, .slice A25 (L4).length c25, .slice A27 (L5).length c27]) (by go_simp) ⟨A25, c25, A27, c27, rfl, d25, d27⟩
    · intro a u hx hd hr
      have eg : a.eval (.tmp 22) = .bool true := hd 2 22 rfl rfl
      rw [if_pos (by rw [wanted_some rfl rfl eg]; rfl)]
      have e23 : a.eval (.tmp 23) = .agg #[.int .i64 1, .slice A3 L4.length c3, .slice B3 L5.length d3] := hd 3 23 rfl rfl
      obtain ⟨v28, e28, d28⟩ : ∃ v, a.eval (.tmp 28) = v ∧ IsPlan u v (⟨1, L4, L5⟩) := ⟨_, rfl, hd 8 28 rfl rfl⟩
      clear hd hr
      refine Y_calls (f := 16) (args := #[(a.eval (.tmp 23)), (a.eval (.tmp 28))]) (by go_simp) ?_
      rw [e23, e28]
      exact (kitplan_s _ (⟨1, L4, L5⟩) _ (⟨1, L4, L5⟩) _ (hp2.ext hx) d28).mono fun e u2 k => ⟨_, k.1.trans (by rw [HK.out]), rfl, k.2⟩
    · intro a u hx hd hr
      rw [if_pos (wanted_none rfl)]
      have e22 : a.eval (.tmp 22) = .bool true := hd 2 22 rfl rfl
      exact Y_pick rfl e22 (hd 9 29 rfl rfl)
    · intro a u hx hd hr
      rw [if_pos (wanted_none rfl)]
      exact Y_copy (.inl rfl) (hd 10 30 rfl rfl)
    · intro a u hx hd hr
      have eg : a.eval (.tmp 31) = .bool true := hd 11 31 rfl rfl
      rw [if_pos (by rw [wanted_some rfl rfl eg]; rfl)]
      exact Y_copy (.inl rfl) (hr 4 rfl)
    · intro a u hx hd hr
      have eg : a.eval (.tmp 31) = .bool true := hd 11 31 rfl rfl
      rw [if_pos (by rw [wanted_some rfl rfl eg]; rfl)]
      have e32 : a.eval (.tmp 32) = .int .i64 (4) := hd 12 32 rfl rfl
      clear hd hr
      simp only [Act.eval, Array.getD_eq_getD_getElem?] at e32
      exact Y_val (v := .bool true) (by go_simp) rfl
    · intro a u hx hd hr
      rw [if_pos (wanted_none rfl)]
      have e31 : a.eval (.tmp 31) = .bool true := hd 11 31 rfl rfl
      exact Y_pick rfl e31 (hd 13 33 rfl rfl)
    · intro a u hx hd hr
      rw [if_pos (wanted_none rfl)]
      exact Y_copy (.inr rfl) (hd 14 34 rfl rfl)
  intro f wr hwr hF
  have f0 : f 0 = .int .i64 0 := hF 0 20 (by decide) rfl
  have f1 : f 1 = .bool true := hF 1 21 (by decide) rfl
  have f2 : f 2 = .bool true := hF 2 22 (by decide) rfl
  have f3 : f 3 = .agg #[.int .i64 1, .slice A3 L4.length c3, .slice B3 L5.length d3] := hF 3 23 (by decide) rfl
  have f9 : f 9 = .bool true := hF 9 29 (by decide) rfl
  have f10 : f 10 = .bool true := hF 10 30 (by decide) rfl
  have f11 : f 11 = .bool true := hF 11 31 (by decide) rfl
  have f12 : f 12 = .int .i64 (4) := hF 12 32 (by decide) rfl
  have f13 : f 13 = .bool true := hF 13 33 (by decide) rfl
  have f14 : f 14 = .bool true := hF 14 34 (by decide) rfl
  have f15 : f 15 = .bool true := hF 15 0 (by decide) rfl
  clear hF
  simp only [List.take_succ_cons, List.take_zero, List.drop_succ_cons, List.drop_zero, puts, Act.put, List.setIfInBounds_toArray, List.set_cons_succ, List.set_cons_zero, Nat.zero_add, Nat.reduceAdd, f0, f1, f2, f3, f9, f10, f11, f12, f13, f14, f15]
  clear f0 f1 f2 f3 f9 f10 f11 f12 f13 f14 f15
  generalize f 4 = y4
  generalize f 5 = y5
  generalize f 6 = y6
  generalize f 7 = y7
  generalize f 8 = y8
  refine wpList_nil ?_
  go_wp2_with fail
  go_ret
  exact ⟨rfl, Ext.trans xq hwr⟩
end Go.Proofs.Ytigcfbpgbenabaa
