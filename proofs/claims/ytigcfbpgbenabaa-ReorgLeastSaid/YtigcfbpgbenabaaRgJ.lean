import Derived.Test.YtigcfbpgbenabaaLay
import Derived.Test.YtigcfbpgbenabaaRgI
namespace Go.Proofs.Ytigcfbpgbenabaa
open Go.RowKit

/-- what Check answers -/
def checkP (P : PV) : Int := if P.k < 0 ∨ ¬ P.u.Nodup ∨ ¬ P.d.Nodup ∨ (∃ x, P.u.head? = some x ∧ P.d.head? = some x) then 2 else 0

set_option maxHeartbeats 2000000 in
theorem check_neg (K : Int) (A : Option Addr) (c : Nat) (U : List (List UInt8)) (B : Option Addr) (d : Nat) (D : List (List UInt8)) (w : World) (hA : Ds w A c U) (hB : Ds w B d D)
    (hu : U.length ≤ 3000000000000) (hd : D.length ≤ 3000000000000) (hk : K < 0) :
    Calls Try.prog 17 #[.agg #[.int .i64 K, .slice A U.length c, .slice B D.length d]] w fun e w' => e = .returned (.int .i64 (2)) ∧ Ext w w' := by
  go_enter Try.func17, Try.ntmps17
  go_wp2_with fail
  have h0 := heap_alloc_new w (.cells #[.int .i64 K, .slice A U.length c, .slice B D.length d] 25)
  have x0 : Ext w (w.alloc (Obj.cells #[.int .i64 K, .slice A U.length c, .slice B D.length d] 25)) := (Below.refl _ w).alloc (Nat.le_refl _) _
  have hA0 := hA.below x0
  have hB0 := hB.below x0
  generalize w.alloc (Obj.cells #[.int .i64 K, .slice A U.length c, .slice B D.length d] 25) = w0 at *
  have hlt := (Array.getElem?_eq_some_iff.1 h0).1
  have m0 : ∀ u, Ext w0 u → u.cell? ⟨w.heap.size, 0, none⟩ = some (.int .i64 K) := fun u hu => by rw [cell_of_row _ _ _ _ _ _ ((hu.block _ hlt).trans h0)]; rfl
  have m1 : ∀ u, Ext w0 u → u.cell? ⟨w.heap.size, 1, none⟩ = some (.slice A U.length c) := fun u hu => by rw [cell_of_row _ _ _ _ _ _ ((hu.block _ hlt).trans h0)]; rfl
  have m2 : ∀ u, Ext w0 u → u.cell? ⟨w.heap.size, 2, none⟩ = some (.slice B D.length d) := fun u hu => by rw [cell_of_row _ _ _ _ _ _ ((hu.block _ hlt).trans h0)]; rfl
  refine wp_region_lay [Fact.val (.pointer (some ⟨w.heap.size, 0, none⟩)), Fact.val (.int .i64 K), Fact.val (.bool true), Fact.val (.bool true), Fact.val (undef), Fact.val (undef), Fact.val (undef), Fact.val (undef), Fact.val (.bool true), Fact.val (.bool true), Fact.val (undef), Fact.val (undef), Fact.val (undef), Fact.val (undef), Fact.val (.bool true), Fact.val (.bool true), Fact.val (undef), Fact.val (undef), Fact.val (undef), Fact.val (undef), Fact.val (undef), Fact.val (undef), Fact.val (undef), Fact.val (undef), Fact.val (undef), Fact.val (undef), Fact.val (undef), Fact.val (undef), Fact.val (undef), Fact.val (undef), Fact.val (undef), Fact.val (undef), Fact.val (undef), Fact.val (undef), Fact.val (undef), Fact.val (undef), Fact.val (undef), Fact.val (.bool true)] (w0) _ (by kernel_rfl) (by kernel_rfl) (by kernel_rfl) (Ext.refl _) ?_ ?_
  · refine ⟨?_, ?_, ?_, ?_, ?_, ?_, ?_, ?_, ?_, ?_, ?_, ?_, ?_, ?_, ?_, ?_, ?_, ?_, ?_, ?_, ?_, ?_, ?_, ?_, ?_, ?_, ?_, ?_, ?_, ?_, ?_, ?_, ?_, ?_, ?_, ?_, ?_, ?_, trivial⟩
    · intro a u hx hd hr
      rw [if_pos (wanted_none rfl)]
      have e1 : a.eval (.tmp 1) = .pointer (some ⟨w.heap.size, 0, none⟩) := hr 1 rfl
      clear hd hr
      simp only [Act.eval, Array.getD_eq_getD_getElem?] at e1
      exact Y_val (v := .pointer (some ⟨w.heap.size, 0, none⟩)) (by go_simp) rfl
    · intro a u hx hd hr
      rw [if_pos (wanted_none rfl)]
      have e3 : a.eval (.tmp 3) = .pointer (some ⟨w.heap.size, 0, none⟩) := hd 0 3 rfl rfl
      have ec := m0 _ hx
      clear hd hr
      simp only [Act.eval, Array.getD_eq_getD_getElem?] at e3
      exact Y_val (v := .int .i64 K) (by go_simp) rfl
    · intro a u hx hd hr
      rw [if_pos (wanted_none rfl)]
      have e4 : a.eval (.tmp 4) = .int .i64 K := hd 1 4 rfl rfl
      clear hd hr
      simp only [Act.eval, Array.getD_eq_getD_getElem?] at e4
      exact Y_val (v := .bool true) (by go_simp <;> omega) rfl
    · intro a u hx hd hr
      rw [if_pos (wanted_none rfl)]
      have e5 : a.eval (.tmp 5) = .bool true := hd 2 5 rfl rfl
      exact Y_copy (.inl rfl) e5
    · intro a u hx hd hr
      have eg : a.eval (.tmp 6) = .bool true := hd 3 6 rfl rfl
      rw [if_neg (by rw [wanted_some rfl rfl eg]; exact Bool.noConfusion)]
      exact rfl
    · intro a u hx hd hr
      have eg : a.eval (.tmp 6) = .bool true := hd 3 6 rfl rfl
      rw [if_neg (by rw [wanted_some rfl rfl eg]; exact Bool.noConfusion)]
      exact rfl
    · intro a u hx hd hr
      have eg : a.eval (.tmp 6) = .bool true := hd 3 6 rfl rfl
      rw [if_neg (by rw [wanted_some rfl rfl eg]; exact Bool.noConfusion)]
      exact rfl
    · intro a u hx hd hr
      have eg : a.eval (.tmp 6) = .bool true := hd 3 6 rfl rfl
      rw [if_neg (by rw [wanted_some rfl rfl eg]; exact Bool.noConfusion)]
      exact rfl
    · intro a u hx hd hr
      rw [if_pos (wanted_none rfl)]
      have e6 : a.eval (.tmp 6) = .bool true := hd 3 6 rfl rfl
      exact Y_pick rfl e6 rfl
    · intro a u hx hd hr
      rw [if_pos (wanted_none rfl)]
      have e11 : a.eval (.tmp 11) = .bool true := hd 8 11 rfl rfl
      exact Y_copy (.inl rfl) e11
    · intro a u hx hd hr
      have eg : a.eval (.tmp 12) = .bool true := hd 9 12 rfl rfl
      rw [if_neg (by rw [wanted_some rfl rfl eg]; exact Bool.noConfusion)]
      exact rfl
    · intro a u hx hd hr
      have eg : a.eval (.tmp 12) = .bool true := hd 9 12 rfl rfl
      rw [if_neg (by rw [wanted_some rfl rfl eg]; exact Bool.noConfusion)]
      exact rfl
    · intro a u hx hd hr
      have eg : a.eval (.tmp 12) = .bool true := hd 9 12 rfl rfl
      rw [if_neg (by rw [wanted_some rfl rfl eg]; exact Bool.noConfusion)]
      exact rfl
    · intro a u hx hd hr
      have eg : a.eval (.tmp 12) = .bool true := hd 9 12 rfl rfl
      rw [if_neg (by rw [wanted_some rfl rfl eg]; exact Bool.noConfusion)]
      exact rfl
    · intro a u hx hd hr
      rw [if_pos (wanted_none rfl)]
      have e12 : a.eval (.tmp 12) = .bool true := hd 9 12 rfl rfl
      exact Y_pick rfl e12 rfl
    · intro a u hx hd hr
      rw [if_pos (wanted_none rfl)]
      have e17 : a.eval (.tmp 17) = .bool true := hd 14 17 rfl rfl
      exact Y_copy (.inl rfl) e17
    · intro a u hx hd hr
      have eg : a.eval (.tmp 18) = .bool true := hd 15 18 rfl rfl
      rw [if_neg (by rw [wanted_some rfl rfl eg]; exact Bool.noConfusion)]
      exact rfl
    · intro a u hx hd hr
      have eg : a.eval (.tmp 18) = .bool true := hd 15 18 rfl rfl
      rw [if_neg (by rw [wanted_some rfl rfl eg]; exact Bool.noConfusion)]
      exact rfl
    · intro a u hx hd hr
      have eg : a.eval (.tmp 18) = .bool true := hd 15 18 rfl rfl
      rw [if_neg (by rw [wanted_some rfl rfl eg]; exact Bool.noConfusion)]
      exact rfl
    · intro a u hx hd hr
      have eg : a.eval (.tmp 18) = .bool true := hd 15 18 rfl rfl
      rw [if_neg (by rw [wanted_some rfl rfl eg]; exact Bool.noConfusion)]
      exact rfl
    · intro a u hx hd hr
      have eg : a.eval (.tmp 18) = .bool true := hd 15 18 rfl rfl
      rw [if_neg (by rw [wanted_some rfl rfl eg]; exact Bool.noConfusion)]
      exact rfl
    · intro a u hx hd hr
      have eg : a.eval (.tmp 23) = undef := hd 20 23 rfl rfl
      rw [if_neg (by rw [wanted_undef rfl rfl eg]; exact Bool.noConfusion)]
      exact rfl
    · intro a u hx hd hr
      have eg : a.eval (.tmp 23) = undef := hd 20 23 rfl rfl
      rw [if_neg (by rw [wanted_undef rfl rfl eg]; exact Bool.noConfusion)]
      exact rfl
    · intro a u hx hd hr
      have eg : a.eval (.tmp 23) = undef := hd 20 23 rfl rfl
      rw [if_neg (by rw [wanted_undef rfl rfl eg]; exact Bool.noConfusion)]
      exact rfl
    · intro a u hx hd hr
      have eg : a.eval (.tmp 23) = undef := hd 20 23 rfl rfl
      rw [if_neg (by rw [wanted_undef rfl rfl eg]; exact Bool.noConfusion)]
      exact rfl
    · intro a u hx hd hr
      have eg : a.eval (.tmp 18) = .bool true := hd 15 18 rfl rfl
      rw [if_neg (by rw [wanted_some rfl rfl eg]; exact Bool.noConfusion)]
      exact rfl
    · intro a u hx hd hr
      have eg : a.eval (.tmp 18) = .bool true := hd 15 18 rfl rfl
      rw [if_neg (by rw [wanted_some rfl rfl eg]; exact Bool.noConfusion)]
      exact rfl
    · intro a u hx hd hr
      have eg : a.eval (.tmp 29) = undef := hd 26 29 rfl rfl
      rw [if_neg (by rw [wanted_undef rfl rfl eg]; exact Bool.noConfusion)]
      exact rfl
    · intro a u hx hd hr
      have eg : a.eval (.tmp 29) = undef := hd 26 29 rfl rfl
      rw [if_neg (by rw [wanted_undef rfl rfl eg]; exact Bool.noConfusion)]
      exact rfl
    · intro a u hx hd hr
      have eg : a.eval (.tmp 29) = undef := hd 26 29 rfl rfl
      rw [if_neg (by rw [wanted_undef rfl rfl eg]; exact Bool.noConfusion)]
      exact rfl
    · intro a u hx hd hr
      have eg : a.eval (.tmp 29) = undef := hd 26 29 rfl rfl
      rw [if_neg (by rw [wanted_undef rfl rfl eg]; exact Bool.noConfusion)]
      exact rfl
    · intro a u hx hd hr
      have eg : a.eval (.tmp 29) = undef := hd 26 29 rfl rfl
      rw [if_neg (by rw [wanted_undef rfl rfl eg]; exact Bool.noConfusion)]
      exact rfl
    · intro a u hx hd hr
      have eg : a.eval (.tmp 29) = undef := hd 26 29 rfl rfl
      rw [if_neg (by rw [wanted_undef rfl rfl eg]; exact Bool.noConfusion)]
      exact rfl
    · intro a u hx hd hr
      have eg : a.eval (.tmp 29) = undef := hd 26 29 rfl rfl
      rw [if_neg (by rw [wanted_undef rfl rfl eg]; exact Bool.noConfusion)]
      exact rfl
    · intro a u hx hd hr
      have eg : a.eval (.tmp 29) = undef := hd 26 29 rfl rfl
      rw [if_neg (by rw [wanted_undef rfl rfl eg]; exact Bool.noConfusion)]
      exact rfl
    · intro a u hx hd hr
      have eg : a.eval (.tmp 29) = undef := hd 26 29 rfl rfl
      rw [if_neg (by rw [wanted_undef rfl rfl eg]; exact Bool.noConfusion)]
      exact rfl
    · intro a u hx hd hr
      have eg : a.eval (.tmp 18) = .bool true := hd 15 18 rfl rfl
      rw [if_neg (by rw [wanted_some rfl rfl eg]; exact Bool.noConfusion)]
      exact rfl
    · intro a u hx hd hr
      rw [if_pos (wanted_none rfl)]
      have e18 : a.eval (.tmp 18) = .bool true := hd 15 18 rfl rfl
      exact Y_pick rfl e18 rfl
  intro f wq hwq hF
  have f0 : f 0 = .pointer (some ⟨w.heap.size, 0, none⟩) := hF 0 3 rfl
  have f1 : f 1 = .int .i64 K := hF 1 4 rfl
  have f2 : f 2 = .bool true := hF 2 5 rfl
  have f3 : f 3 = .bool true := hF 3 6 rfl
  have f4 : f 4 = undef := hF 4 7 rfl
  have f5 : f 5 = undef := hF 5 8 rfl
  have f6 : f 6 = undef := hF 6 9 rfl
  have f7 : f 7 = undef := hF 7 10 rfl
  have f8 : f 8 = .bool true := hF 8 11 rfl
  have f9 : f 9 = .bool true := hF 9 12 rfl
  have f10 : f 10 = undef := hF 10 13 rfl
  have f11 : f 11 = undef := hF 11 14 rfl
  have f12 : f 12 = undef := hF 12 15 rfl
  have f13 : f 13 = undef := hF 13 16 rfl
  have f14 : f 14 = .bool true := hF 14 17 rfl
  have f15 : f 15 = .bool true := hF 15 18 rfl
  have f16 : f 16 = undef := hF 16 19 rfl
  have f17 : f 17 = undef := hF 17 20 rfl
  have f18 : f 18 = undef := hF 18 21 rfl
  have f19 : f 19 = undef := hF 19 22 rfl
  have f20 : f 20 = undef := hF 20 23 rfl
  have f21 : f 21 = undef := hF 21 24 rfl
  have f22 : f 22 = undef := hF 22 25 rfl
  have f23 : f 23 = undef := hF 23 26 rfl
  have f24 : f 24 = undef := hF 24 27 rfl
  have f25 : f 25 = undef := hF 25 28 rfl
  have f26 : f 26 = undef := hF 26 29 rfl
  have f27 : f 27 = undef := hF 27 30 rfl
  have f28 : f 28 = undef := hF 28 31 rfl
  have f29 : f 29 = undef := hF 29 32 rfl
  have f30 : f 30 = undef := hF 30 33 rfl
  have f31 : f 31 = undef := hF 31 34 rfl
  have f32 : f 32 = undef := hF 32 35 rfl
  have f33 : f 33 = undef := hF 33 36 rfl
  have f34 : f 34 = undef := hF 34 37 rfl
  have f35 : f 35 = undef := hF 35 38 rfl
  have f36 : f 36 = undef := hF 36 39 rfl
  have f37 : f 37 = .bool true := hF 37 40 rfl
  clear hF
  simp only [puts, Act.put, List.setIfInBounds_toArray, List.set_cons_succ, List.set_cons_zero, Nat.zero_add, Nat.reduceAdd, f0, f1, f2, f3, f4, f5, f6, f7, f8, f9, f10, f11, f12, f13, f14, f15, f16, f17, f18, f19, f20, f21, f22, f23, f24, f25, f26, f27, f28, f29, f30, f31, f32, f33, f34, f35, f36, f37]
  clear f0 f1 f2 f3 f4 f5 f6 f7 f8 f9 f10 f11 f12 f13 f14 f15 f16 f17 f18 f19 f20 f21 f22 f23 f24 f25 f26 f27 f28 f29 f30 f31 f32 f33 f34 f35 f36 f37 f
  go_wp2_with fail
  go_ret
  exact ⟨rfl, Ext.trans x0 hwq⟩

set_option maxHeartbeats 2000000 in
theorem check_u (K : Int) (A : Option Addr) (c : Nat) (U : List (List UInt8)) (B : Option Addr) (d : Nat) (D : List (List UInt8)) (w : World) (hA : Ds w A c U) (hB : Ds w B d D)
    (hu : U.length ≤ 3000000000000) (hd : D.length ≤ 3000000000000) (hk : 0 ≤ K) (hU : ¬ U.Nodup) :
    Calls Try.prog 17 #[.agg #[.int .i64 K, .slice A U.length c, .slice B D.length d]] w fun e w' => e = .returned (.int .i64 (2)) ∧ Ext w w' := by
  have HU := Lib.hid (decide_eq_false hU)
  clear hU
  go_enter Try.func17, Try.ntmps17
  go_wp2_with fail
  have h0 := heap_alloc_new w (.cells #[.int .i64 K, .slice A U.length c, .slice B D.length d] 25)
  have x0 : Ext w (w.alloc (Obj.cells #[.int .i64 K, .slice A U.length c, .slice B D.length d] 25)) := (Below.refl _ w).alloc (Nat.le_refl _) _
  have hA0 := hA.below x0
  have hB0 := hB.below x0
  generalize w.alloc (Obj.cells #[.int .i64 K, .slice A U.length c, .slice B D.length d] 25) = w0 at *
  have hlt := (Array.getElem?_eq_some_iff.1 h0).1
  have m0 : ∀ u, Ext w0 u → u.cell? ⟨w.heap.size, 0, none⟩ = some (.int .i64 K) := fun u hu => by rw [cell_of_row _ _ _ _ _ _ ((hu.block _ hlt).trans h0)]; rfl
  have m1 : ∀ u, Ext w0 u → u.cell? ⟨w.heap.size, 1, none⟩ = some (.slice A U.length c) := fun u hu => by rw [cell_of_row _ _ _ _ _ _ ((hu.block _ hlt).trans h0)]; rfl
  have m2 : ∀ u, Ext w0 u → u.cell? ⟨w.heap.size, 2, none⟩ = some (.slice B D.length d) := fun u hu => by rw [cell_of_row _ _ _ _ _ _ ((hu.block _ hlt).trans h0)]; rfl
  refine wp_region_lay [Fact.val (.pointer (some ⟨w.heap.size, 0, none⟩)), Fact.val (.int .i64 K), Fact.val (.bool false), Fact.val (.bool false), Fact.val (.pointer (some ⟨w.heap.size, 1, none⟩)), Fact.val (.slice A U.length c), Fact.val (.bool false), Fact.val (.bool true), Fact.val (.bool true), Fact.val (.bool true), Fact.val (undef), Fact.val (undef), Fact.val (undef), Fact.val (undef), Fact.val (.bool true), Fact.val (.bool true), Fact.val (undef), Fact.val (undef), Fact.val (undef), Fact.val (undef), Fact.val (undef), Fact.val (undef), Fact.val (undef), Fact.val (undef), Fact.val (undef), Fact.val (undef), Fact.val (undef), Fact.val (undef), Fact.val (undef), Fact.val (undef), Fact.val (undef), Fact.val (undef), Fact.val (undef), Fact.val (undef), Fact.val (undef), Fact.val (undef), Fact.val (undef), Fact.val (.bool true)] (w0) _ (by kernel_rfl) (by kernel_rfl) (by kernel_rfl) (Ext.refl _) ?_ ?_
  · refine ⟨?_, ?_, ?_, ?_, ?_, ?_, ?_, ?_, ?_, ?_, ?_, ?_, ?_, ?_, ?_, ?_, ?_, ?_, ?_, ?_, ?_, ?_, ?_, ?_, ?_, ?_, ?_, ?_, ?_, ?_, ?_, ?_, ?_, ?_, ?_, ?_, ?_, ?_, trivial⟩
    · intro a u hx hd hr
      rw [if_pos (wanted_none rfl)]
      have e1 : a.eval (.tmp 1) = .pointer (some ⟨w.heap.size, 0, none⟩) := hr 1 rfl
      clear hd hr
      simp only [Act.eval, Array.getD_eq_getD_getElem?] at e1
      exact Y_val (v := .pointer (some ⟨w.heap.size, 0, none⟩)) (by go_simp) rfl
    · intro a u hx hd hr
      rw [if_pos (wanted_none rfl)]
      have e3 : a.eval (.tmp 3) = .pointer (some ⟨w.heap.size, 0, none⟩) := hd 0 3 rfl rfl
      have ec := m0 _ hx
      clear hd hr
      simp only [Act.eval, Array.getD_eq_getD_getElem?] at e3
      exact Y_val (v := .int .i64 K) (by go_simp) rfl
    · intro a u hx hd hr
      rw [if_pos (wanted_none rfl)]
      have e4 : a.eval (.tmp 4) = .int .i64 K := hd 1 4 rfl rfl
      clear hd hr
      simp only [Act.eval, Array.getD_eq_getD_getElem?] at e4
      exact Y_val (v := .bool false) (by go_simp <;> omega) rfl
    · intro a u hx hd hr
      rw [if_pos (wanted_none rfl)]
      have e5 : a.eval (.tmp 5) = .bool false := hd 2 5 rfl rfl
      exact Y_copy (.inl rfl) e5
    · intro a u hx hd hr
      have eg : a.eval (.tmp 6) = .bool false := hd 3 6 rfl rfl
      rw [if_pos (by rw [wanted_some rfl rfl eg]; rfl)]
      have e1 : a.eval (.tmp 1) = .pointer (some ⟨w.heap.size, 0, none⟩) := hr 1 rfl
      clear hd hr
      simp only [Act.eval, Array.getD_eq_getD_getElem?] at e1
      exact Y_val (v := .pointer (some ⟨w.heap.size, 1, none⟩)) (by go_simp) rfl
    · intro a u hx hd hr
      have eg : a.eval (.tmp 6) = .bool false := hd 3 6 rfl rfl
      rw [if_pos (by rw [wanted_some rfl rfl eg]; rfl)]
      have e7 : a.eval (.tmp 7) = .pointer (some ⟨w.heap.size, 1, none⟩) := hd 4 7 rfl rfl
      have ec := m1 _ hx
      clear hd hr
      simp only [Act.eval, Array.getD_eq_getD_getElem?] at e7
      exact Y_val (v := .slice A U.length c) (by go_simp) rfl
    · intro a u hx hd hr
      have eg : a.eval (.tmp 6) = .bool false := hd 3 6 rfl rfl
      rw [if_pos (by rw [wanted_some rfl rfl eg]; rfl)]
      have e8 : a.eval (.tmp 8) = .slice A U.length c := hd 5 8 rfl rfl
      clear hd hr
      refine Y_calls (f := 24) (args := #[(a.eval (.tmp 8))]) (by go_simp) ?_
      rw [e8]
      exact (once_any A c U _ (hA0.below hx) hu).mono fun e u2 k => ⟨_, k.1.trans (by rw [HU.out]), rfl, k.2⟩
    · intro a u hx hd hr
      have eg : a.eval (.tmp 6) = .bool false := hd 3 6 rfl rfl
      rw [if_pos (by rw [wanted_some rfl rfl eg]; rfl)]
      have e9 : a.eval (.tmp 9) = .bool false := hd 6 9 rfl rfl
      clear hd hr
      simp only [Act.eval, Array.getD_eq_getD_getElem?] at e9
      exact Y_val (v := .bool true) (by go_simp) rfl
    · intro a u hx hd hr
      rw [if_pos (wanted_none rfl)]
      have e6 : a.eval (.tmp 6) = .bool false := hd 3 6 rfl rfl
      have e10 : a.eval (.tmp 10) = .bool true := hd 7 10 rfl rfl
      exact Y_pick rfl e6 e10
    · intro a u hx hd hr
      rw [if_pos (wanted_none rfl)]
      have e11 : a.eval (.tmp 11) = .bool true := hd 8 11 rfl rfl
      exact Y_copy (.inl rfl) e11
    · intro a u hx hd hr
      have eg : a.eval (.tmp 12) = .bool true := hd 9 12 rfl rfl
      rw [if_neg (by rw [wanted_some rfl rfl eg]; exact Bool.noConfusion)]
      exact rfl
    · intro a u hx hd hr
      have eg : a.eval (.tmp 12) = .bool true := hd 9 12 rfl rfl
      rw [if_neg (by rw [wanted_some rfl rfl eg]; exact Bool.noConfusion)]
      exact rfl
    · intro a u hx hd hr
      have eg : a.eval (.tmp 12) = .bool true := hd 9 12 rfl rfl
      rw [if_neg (by rw [wanted_some rfl rfl eg]; exact Bool.noConfusion)]
      exact rfl
    · intro a u hx hd hr
      have eg : a.eval (.tmp 12) = .bool true := hd 9 12 rfl rfl
      rw [if_neg (by rw [wanted_some rfl rfl eg]; exact Bool.noConfusion)]
      exact rfl
    · intro a u hx hd hr
      rw [if_pos (wanted_none rfl)]
      have e12 : a.eval (.tmp 12) = .bool true := hd 9 12 rfl rfl
      exact Y_pick rfl e12 rfl
    · intro a u hx hd hr
      rw [if_pos (wanted_none rfl)]
      have e17 : a.eval (.tmp 17) = .bool true := hd 14 17 rfl rfl
      exact Y_copy (.inl rfl) e17
    · intro a u hx hd hr
      have eg : a.eval (.tmp 18) = .bool true := hd 15 18 rfl rfl
      rw [if_neg (by rw [wanted_some rfl rfl eg]; exact Bool.noConfusion)]
      exact rfl
    · intro a u hx hd hr
      have eg : a.eval (.tmp 18) = .bool true := hd 15 18 rfl rfl
      rw [if_neg (by rw [wanted_some rfl rfl eg]; exact Bool.noConfusion)]
      exact rfl
    · intro a u hx hd hr
      have eg : a.eval (.tmp 18) = .bool true := hd 15 18 rfl rfl
      rw [if_neg (by rw [wanted_some rfl rfl eg]; exact Bool.noConfusion)]
      exact rfl
    · intro a u hx hd hr
      have eg : a.eval (.tmp 18) = .bool true := hd 15 18 rfl rfl
      rw [if_neg (by rw [wanted_some rfl rfl eg]; exact Bool.noConfusion)]
      exact rfl
    · intro a u hx hd hr
      have eg : a.eval (.tmp 18) = .bool true := hd 15 18 rfl rfl
      rw [if_neg (by rw [wanted_some rfl rfl eg]; exact Bool.noConfusion)]
      exact rfl
    · intro a u hx hd hr
      have eg : a.eval (.tmp 23) = undef := hd 20 23 rfl rfl
      rw [if_neg (by rw [wanted_undef rfl rfl eg]; exact Bool.noConfusion)]
      exact rfl
    · intro a u hx hd hr
      have eg : a.eval (.tmp 23) = undef := hd 20 23 rfl rfl
      rw [if_neg (by rw [wanted_undef rfl rfl eg]; exact Bool.noConfusion)]
      exact rfl
    · intro a u hx hd hr
      have eg : a.eval (.tmp 23) = undef := hd 20 23 rfl rfl
      rw [if_neg (by rw [wanted_undef rfl rfl eg]; exact Bool.noConfusion)]
      exact rfl
    · intro a u hx hd hr
      have eg : a.eval (.tmp 23) = undef := hd 20 23 rfl rfl
      rw [if_neg (by rw [wanted_undef rfl rfl eg]; exact Bool.noConfusion)]
      exact rfl
    · intro a u hx hd hr
      have eg : a.eval (.tmp 18) = .bool true := hd 15 18 rfl rfl
      rw [if_neg (by rw [wanted_some rfl rfl eg]; exact Bool.noConfusion)]
      exact rfl
    · intro a u hx hd hr
      have eg : a.eval (.tmp 18) = .bool true := hd 15 18 rfl rfl
      rw [if_neg (by rw [wanted_some rfl rfl eg]; exact Bool.noConfusion)]
      exact rfl
    · intro a u hx hd hr
      have eg : a.eval (.tmp 29) = undef := hd 26 29 rfl rfl
      rw [if_neg (by rw [wanted_undef rfl rfl eg]; exact Bool.noConfusion)]
      exact rfl
    · intro a u hx hd hr
      have eg : a.eval (.tmp 29) = undef := hd 26 29 rfl rfl
      rw [if_neg (by rw [wanted_undef rfl rfl eg]; exact Bool.noConfusion)]
      exact rfl
    · intro a u hx hd hr
      have eg : a.eval (.tmp 29) = undef := hd 26 29 rfl rfl
      rw [if_neg (by rw [wanted_undef rfl rfl eg]; exact Bool.noConfusion)]
      exact rfl
    · intro a u hx hd hr
      have eg : a.eval (.tmp 29) = undef := hd 26 29 rfl rfl
      rw [if_neg (by rw [wanted_undef rfl rfl eg]; exact Bool.noConfusion)]
      exact rfl
    · intro a u hx hd hr
      have eg : a.eval (.tmp 29) = undef := hd 26 29 rfl rfl
      rw [if_neg (by rw [wanted_undef rfl rfl eg]; exact Bool.noConfusion)]
      exact rfl
    · intro a u hx hd hr
      have eg : a.eval (.tmp 29) = undef := hd 26 29 rfl rfl
      rw [if_neg (by rw [wanted_undef rfl rfl eg]; exact Bool.noConfusion)]
      exact rfl
    · intro a u hx hd hr
      have eg : a.eval (.tmp 29) = undef := hd 26 29 rfl rfl
      rw [if_neg (by rw [wanted_undef rfl rfl eg]; exact Bool.noConfusion)]
      exact rfl
    · intro a u hx hd hr
      have eg : a.eval (.tmp 29) = undef := hd 26 29 rfl rfl
      rw [if_neg (by rw [wanted_undef rfl rfl eg]; exact Bool.noConfusion)]
      exact rfl
    · intro a u hx hd hr
      have eg : a.eval (.tmp 29) = undef := hd 26 29 rfl rfl
      rw [if_neg (by rw [wanted_undef rfl rfl eg]; exact Bool.noConfusion)]
      exact rfl
    · intro a u hx hd hr
      have eg : a.eval (.tmp 18) = .bool true := hd 15 18 rfl rfl
      rw [if_neg (by rw [wanted_some rfl rfl eg]; exact Bool.noConfusion)]
      exact rfl
    · intro a u hx hd hr
      rw [if_pos (wanted_none rfl)]
      have e18 : a.eval (.tmp 18) = .bool true := hd 15 18 rfl rfl
      exact Y_pick rfl e18 rfl
  intro f wq hwq hF
  have f0 : f 0 = .pointer (some ⟨w.heap.size, 0, none⟩) := hF 0 3 rfl
  have f1 : f 1 = .int .i64 K := hF 1 4 rfl
  have f2 : f 2 = .bool false := hF 2 5 rfl
  have f3 : f 3 = .bool false := hF 3 6 rfl
  have f4 : f 4 = .pointer (some ⟨w.heap.size, 1, none⟩) := hF 4 7 rfl
  have f5 : f 5 = .slice A U.length c := hF 5 8 rfl
  have f6 : f 6 = .bool false := hF 6 9 rfl
  have f7 : f 7 = .bool true := hF 7 10 rfl
  have f8 : f 8 = .bool true := hF 8 11 rfl
  have f9 : f 9 = .bool true := hF 9 12 rfl
  have f10 : f 10 = undef := hF 10 13 rfl
  have f11 : f 11 = undef := hF 11 14 rfl
  have f12 : f 12 = undef := hF 12 15 rfl
  have f13 : f 13 = undef := hF 13 16 rfl
  have f14 : f 14 = .bool true := hF 14 17 rfl
  have f15 : f 15 = .bool true := hF 15 18 rfl
  have f16 : f 16 = undef := hF 16 19 rfl
  have f17 : f 17 = undef := hF 17 20 rfl
  have f18 : f 18 = undef := hF 18 21 rfl
  have f19 : f 19 = undef := hF 19 22 rfl
  have f20 : f 20 = undef := hF 20 23 rfl
  have f21 : f 21 = undef := hF 21 24 rfl
  have f22 : f 22 = undef := hF 22 25 rfl
  have f23 : f 23 = undef := hF 23 26 rfl
  have f24 : f 24 = undef := hF 24 27 rfl
  have f25 : f 25 = undef := hF 25 28 rfl
  have f26 : f 26 = undef := hF 26 29 rfl
  have f27 : f 27 = undef := hF 27 30 rfl
  have f28 : f 28 = undef := hF 28 31 rfl
  have f29 : f 29 = undef := hF 29 32 rfl
  have f30 : f 30 = undef := hF 30 33 rfl
  have f31 : f 31 = undef := hF 31 34 rfl
  have f32 : f 32 = undef := hF 32 35 rfl
  have f33 : f 33 = undef := hF 33 36 rfl
  have f34 : f 34 = undef := hF 34 37 rfl
  have f35 : f 35 = undef := hF 35 38 rfl
  have f36 : f 36 = undef := hF 36 39 rfl
  have f37 : f 37 = .bool true := hF 37 40 rfl
  clear hF
  simp only [puts, Act.put, List.setIfInBounds_toArray, List.set_cons_succ, List.set_cons_zero, Nat.zero_add, Nat.reduceAdd, f0, f1, f2, f3, f4, f5, f6, f7, f8, f9, f10, f11, f12, f13, f14, f15, f16, f17, f18, f19, f20, f21, f22, f23, f24, f25, f26, f27, f28, f29, f30, f31, f32, f33, f34, f35, f36, f37]
  clear f0 f1 f2 f3 f4 f5 f6 f7 f8 f9 f10 f11 f12 f13 f14 f15 f16 f17 f18 f19 f20 f21 f22 f23 f24 f25 f26 f27 f28 f29 f30 f31 f32 f33 f34 f35 f36 f37 f
  go_wp2_with fail
  go_ret
  exact ⟨rfl, Ext.trans x0 hwq⟩

set_option maxHeartbeats 2000000 in
theorem check_d (K : Int) (A : Option Addr) (c : Nat) (U : List (List UInt8)) (B : Option Addr) (d : Nat) (D : List (List UInt8)) (w : World) (hA : Ds w A c U) (hB : Ds w B d D)
    (hu : U.length ≤ 3000000000000) (hd : D.length ≤ 3000000000000) (hk : 0 ≤ K) (hU : U.Nodup) (hD : ¬ D.Nodup) :
    Calls Try.prog 17 #[.agg #[.int .i64 K, .slice A U.length c, .slice B D.length d]] w fun e w' => e = .returned (.int .i64 (2)) ∧ Ext w w' := by
  have HU := Lib.hid (decide_eq_true hU)
  clear hU
  have HD := Lib.hid (decide_eq_false hD)
  clear hD
  go_enter Try.func17, Try.ntmps17
  go_wp2_with fail
  have h0 := heap_alloc_new w (.cells #[.int .i64 K, .slice A U.length c, .slice B D.length d] 25)
  have x0 : Ext w (w.alloc (Obj.cells #[.int .i64 K, .slice A U.length c, .slice B D.length d] 25)) := (Below.refl _ w).alloc (Nat.le_refl _) _
  have hA0 := hA.below x0
  have hB0 := hB.below x0
  generalize w.alloc (Obj.cells #[.int .i64 K, .slice A U.length c, .slice B D.length d] 25) = w0 at *
  have hlt := (Array.getElem?_eq_some_iff.1 h0).1
  have m0 : ∀ u, Ext w0 u → u.cell? ⟨w.heap.size, 0, none⟩ = some (.int .i64 K) := fun u hu => by rw [cell_of_row _ _ _ _ _ _ ((hu.block _ hlt).trans h0)]; rfl
  have m1 : ∀ u, Ext w0 u → u.cell? ⟨w.heap.size, 1, none⟩ = some (.slice A U.length c) := fun u hu => by rw [cell_of_row _ _ _ _ _ _ ((hu.block _ hlt).trans h0)]; rfl
  have m2 : ∀ u, Ext w0 u → u.cell? ⟨w.heap.size, 2, none⟩ = some (.slice B D.length d) := fun u hu => by rw [cell_of_row _ _ _ _ _ _ ((hu.block _ hlt).trans h0)]; rfl
  refine wp_region_lay [Fact.val (.pointer (some ⟨w.heap.size, 0, none⟩)), Fact.val (.int .i64 K), Fact.val (.bool false), Fact.val (.bool false), Fact.val (.pointer (some ⟨w.heap.size, 1, none⟩)), Fact.val (.slice A U.length c), Fact.val (.bool true), Fact.val (.bool false), Fact.val (.bool false), Fact.val (.bool false), Fact.val (.pointer (some ⟨w.heap.size, 2, none⟩)), Fact.val (.slice B D.length d), Fact.val (.bool false), Fact.val (.bool true), Fact.val (.bool true), Fact.val (.bool true), Fact.val (undef), Fact.val (undef), Fact.val (undef), Fact.val (undef), Fact.val (undef), Fact.val (undef), Fact.val (undef), Fact.val (undef), Fact.val (undef), Fact.val (undef), Fact.val (undef), Fact.val (undef), Fact.val (undef), Fact.val (undef), Fact.val (undef), Fact.val (undef), Fact.val (undef), Fact.val (undef), Fact.val (undef), Fact.val (undef), Fact.val (undef), Fact.val (.bool true)] (w0) _ (by kernel_rfl) (by kernel_rfl) (by kernel_rfl) (Ext.refl _) ?_ ?_
  · refine ⟨?_, ?_, ?_, ?_, ?_, ?_, ?_, ?_, ?_, ?_, ?_, ?_, ?_, ?_, ?_, ?_, ?_, ?_, ?_, ?_, ?_, ?_, ?_, ?_, ?_, ?_, ?_, ?_, ?_, ?_, ?_, ?_, ?_, ?_, ?_, ?_, ?_, ?_, trivial⟩
    · intro a u hx hd hr
      rw [if_pos (wanted_none rfl)]
      have e1 : a.eval (.tmp 1) = .pointer (some ⟨w.heap.size, 0, none⟩) := hr 1 rfl
      clear hd hr
      simp only [Act.eval, Array.getD_eq_getD_getElem?] at e1
      exact Y_val (v := .pointer (some ⟨w.heap.size, 0, none⟩)) (by go_simp) rfl
    · intro a u hx hd hr
      rw [if_pos (wanted_none rfl)]
      have e3 : a.eval (.tmp 3) = .pointer (some ⟨w.heap.size, 0, none⟩) := hd 0 3 rfl rfl
      have ec := m0 _ hx
      clear hd hr
      simp only [Act.eval, Array.getD_eq_getD_getElem?] at e3
      exact Y_val (v := .int .i64 K) (by go_simp) rfl
    · intro a u hx hd hr
      rw [if_pos (wanted_none rfl)]
      have e4 : a.eval (.tmp 4) = .int .i64 K := hd 1 4 rfl rfl
      clear hd hr
      simp only [Act.eval, Array.getD_eq_getD_getElem?] at e4
      exact Y_val (v := .bool false) (by go_simp <;> omega) rfl
    · intro a u hx hd hr
      rw [if_pos (wanted_none rfl)]
      have e5 : a.eval (.tmp 5) = .bool false := hd 2 5 rfl rfl
      exact Y_copy (.inl rfl) e5
    · intro a u hx hd hr
      have eg : a.eval (.tmp 6) = .bool false := hd 3 6 rfl rfl
      rw [if_pos (by rw [wanted_some rfl rfl eg]; rfl)]
      have e1 : a.eval (.tmp 1) = .pointer (some ⟨w.heap.size, 0, none⟩) := hr 1 rfl
      clear hd hr
      simp only [Act.eval, Array.getD_eq_getD_getElem?] at e1
      exact Y_val (v := .pointer (some ⟨w.heap.size, 1, none⟩)) (by go_simp) rfl
    · intro a u hx hd hr
      have eg : a.eval (.tmp 6) = .bool false := hd 3 6 rfl rfl
      rw [if_pos (by rw [wanted_some rfl rfl eg]; rfl)]
      have e7 : a.eval (.tmp 7) = .pointer (some ⟨w.heap.size, 1, none⟩) := hd 4 7 rfl rfl
      have ec := m1 _ hx
      clear hd hr
      simp only [Act.eval, Array.getD_eq_getD_getElem?] at e7
      exact Y_val (v := .slice A U.length c) (by go_simp) rfl
    · intro a u hx hd hr
      have eg : a.eval (.tmp 6) = .bool false := hd 3 6 rfl rfl
      rw [if_pos (by rw [wanted_some rfl rfl eg]; rfl)]
      have e8 : a.eval (.tmp 8) = .slice A U.length c := hd 5 8 rfl rfl
      clear hd hr
      refine Y_calls (f := 24) (args := #[(a.eval (.tmp 8))]) (by go_simp) ?_
      rw [e8]
      exact (once_any A c U _ (hA0.below hx) hu).mono fun e u2 k => ⟨_, k.1.trans (by rw [HU.out]), rfl, k.2⟩
    · intro a u hx hd hr
      have eg : a.eval (.tmp 6) = .bool false := hd 3 6 rfl rfl
      rw [if_pos (by rw [wanted_some rfl rfl eg]; rfl)]
      have e9 : a.eval (.tmp 9) = .bool true := hd 6 9 rfl rfl
      clear hd hr
      simp only [Act.eval, Array.getD_eq_getD_getElem?] at e9
      exact Y_val (v := .bool false) (by go_simp) rfl
    · intro a u hx hd hr
      rw [if_pos (wanted_none rfl)]
      have e6 : a.eval (.tmp 6) = .bool false := hd 3 6 rfl rfl
      have e10 : a.eval (.tmp 10) = .bool false := hd 7 10 rfl rfl
      exact Y_pick rfl e6 e10
    · intro a u hx hd hr
      rw [if_pos (wanted_none rfl)]
      have e11 : a.eval (.tmp 11) = .bool false := hd 8 11 rfl rfl
      exact Y_copy (.inl rfl) e11
    · intro a u hx hd hr
      have eg : a.eval (.tmp 12) = .bool false := hd 9 12 rfl rfl
      rw [if_pos (by rw [wanted_some rfl rfl eg]; rfl)]
      have e1 : a.eval (.tmp 1) = .pointer (some ⟨w.heap.size, 0, none⟩) := hr 1 rfl
      clear hd hr
      simp only [Act.eval, Array.getD_eq_getD_getElem?] at e1
      exact Y_val (v := .pointer (some ⟨w.heap.size, 2, none⟩)) (by go_simp) rfl
    · intro a u hx hd hr
      have eg : a.eval (.tmp 12) = .bool false := hd 9 12 rfl rfl
      rw [if_pos (by rw [wanted_some rfl rfl eg]; rfl)]
      have e13 : a.eval (.tmp 13) = .pointer (some ⟨w.heap.size, 2, none⟩) := hd 10 13 rfl rfl
      have ec := m2 _ hx
      clear hd hr
      simp only [Act.eval, Array.getD_eq_getD_getElem?] at e13
      exact Y_val (v := .slice B D.length d) (by go_simp) rfl
    · intro a u hx hd hr
      have eg : a.eval (.tmp 12) = .bool false := hd 9 12 rfl rfl
      rw [if_pos (by rw [wanted_some rfl rfl eg]; rfl)]
      have e14 : a.eval (.tmp 14) = .slice B D.length d := hd 11 14 rfl rfl
      clear hd hr
      refine Y_calls (f := 24) (args := #[(a.eval (.tmp 14))]) (by go_simp) ?_
      rw [e14]
      exact (once_any B d D _ (hB0.below hx) hd).mono fun e u2 k => ⟨_, k.1.trans (by rw [HD.out]), rfl, k.2⟩
    · intro a u hx hd hr
      have eg : a.eval (.tmp 12) = .bool false := hd 9 12 rfl rfl
      rw [if_pos (by rw [wanted_some rfl rfl eg]; rfl)]
      have e15 : a.eval (.tmp 15) = .bool false := hd 12 15 rfl rfl
      clear hd hr
      simp only [Act.eval, Array.getD_eq_getD_getElem?] at e15
      exact Y_val (v := .bool true) (by go_simp) rfl
    · intro a u hx hd hr
      rw [if_pos (wanted_none rfl)]
      have e12 : a.eval (.tmp 12) = .bool false := hd 9 12 rfl rfl
      have e16 : a.eval (.tmp 16) = .bool true := hd 13 16 rfl rfl
      exact Y_pick rfl e12 e16
    · intro a u hx hd hr
      rw [if_pos (wanted_none rfl)]
      have e17 : a.eval (.tmp 17) = .bool true := hd 14 17 rfl rfl
      exact Y_copy (.inl rfl) e17
    · intro a u hx hd hr
      have eg : a.eval (.tmp 18) = .bool true := hd 15 18 rfl rfl
      rw [if_neg (by rw [wanted_some rfl rfl eg]; exact Bool.noConfusion)]
      exact rfl
    · intro a u hx hd hr
      have eg : a.eval (.tmp 18) = .bool true := hd 15 18 rfl rfl
      rw [if_neg (by rw [wanted_some rfl rfl eg]; exact Bool.noConfusion)]
      exact rfl
    · intro a u hx hd hr
      have eg : a.eval (.tmp 18) = .bool true := hd 15 18 rfl rfl
      rw [if_neg (by rw [wanted_some rfl rfl eg]; exact Bool.noConfusion)]
      exact rfl
    · intro a u hx hd hr
      have eg : a.eval (.tmp 18) = .bool true := hd 15 18 rfl rfl
      rw [if_neg (by rw [wanted_some rfl rfl eg]; exact Bool.noConfusion)]
      exact rfl
    · intro a u hx hd hr
      have eg : a.eval (.tmp 18) = .bool true := hd 15 18 rfl rfl
      rw [if_neg (by rw [wanted_some rfl rfl eg]; exact Bool.noConfusion)]
      exact rfl
    · intro a u hx hd hr
      have eg : a.eval (.tmp 23) = undef := hd 20 23 rfl rfl
      rw [if_neg (by rw [wanted_undef rfl rfl eg]; exact Bool.noConfusion)]
      exact rfl
    · intro a u hx hd hr
      have eg : a.eval (.tmp 23) = undef := hd 20 23 rfl rfl
      rw [if_neg (by rw [wanted_undef rfl rfl eg]; exact Bool.noConfusion)]
      exact rfl
    · intro a u hx hd hr
      have eg : a.eval (.tmp 23) = undef := hd 20 23 rfl rfl
      rw [if_neg (by rw [wanted_undef rfl rfl eg]; exact Bool.noConfusion)]
      exact rfl
    · intro a u hx hd hr
      have eg : a.eval (.tmp 23) = undef := hd 20 23 rfl rfl
      rw [if_neg (by rw [wanted_undef rfl rfl eg]; exact Bool.noConfusion)]
      exact rfl
    · intro a u hx hd hr
      have eg : a.eval (.tmp 18) = .bool true := hd 15 18 rfl rfl
      rw [if_neg (by rw [wanted_some rfl rfl eg]; exact Bool.noConfusion)]
      exact rfl
    · intro a u hx hd hr
      have eg : a.eval (.tmp 18) = .bool true := hd 15 18 rfl rfl
      rw [if_neg (by rw [wanted_some rfl rfl eg]; exact Bool.noConfusion)]
      exact rfl
    · intro a u hx hd hr
      have eg : a.eval (.tmp 29) = undef := hd 26 29 rfl rfl
      rw [if_neg (by rw [wanted_undef rfl rfl eg]; exact Bool.noConfusion)]
      exact rfl
    · intro a u hx hd hr
      have eg : a.eval (.tmp 29) = undef := hd 26 29 rfl rfl
      rw [if_neg (by rw [wanted_undef rfl rfl eg]; exact Bool.noConfusion)]
      exact rfl
    · intro a u hx hd hr
      have eg : a.eval (.tmp 29) = undef := hd 26 29 rfl rfl
      rw [if_neg (by rw [wanted_undef rfl rfl eg]; exact Bool.noConfusion)]
      exact rfl
    · intro a u hx hd hr
      have eg : a.eval (.tmp 29) = undef := hd 26 29 rfl rfl
      rw [if_neg (by rw [wanted_undef rfl rfl eg]; exact Bool.noConfusion)]
      exact rfl
    · intro a u hx hd hr
      have eg : a.eval (.tmp 29) = undef := hd 26 29 rfl rfl
      rw [if_neg (by rw [wanted_undef rfl rfl eg]; exact Bool.noConfusion)]
      exact rfl
    · intro a u hx hd hr
      have eg : a.eval (.tmp 29) = undef := hd 26 29 rfl rfl
      rw [if_neg (by rw [wanted_undef rfl rfl eg]; exact Bool.noConfusion)]
      exact rfl
    · intro a u hx hd hr
      have eg : a.eval (.tmp 29) = undef := hd 26 29 rfl rfl
      rw [if_neg (by rw [wanted_undef rfl rfl eg]; exact Bool.noConfusion)]
      exact rfl
    · intro a u hx hd hr
      have eg : a.eval (.tmp 29) = undef := hd 26 29 rfl rfl
      rw [if_neg (by rw [wanted_undef rfl rfl eg]; exact Bool.noConfusion)]
      exact rfl
    · intro a u hx hd hr
      have eg : a.eval (.tmp 29) = undef := hd 26 29 rfl rfl
      rw [if_neg (by rw [wanted_undef rfl rfl eg]; exact Bool.noConfusion)]
      exact rfl
    · intro a u hx hd hr
      have eg : a.eval (.tmp 18) = .bool true := hd 15 18 rfl rfl
      rw [if_neg (by rw [wanted_some rfl rfl eg]; exact Bool.noConfusion)]
      exact rfl
    · intro a u hx hd hr
      rw [if_pos (wanted_none rfl)]
      have e18 : a.eval (.tmp 18) = .bool true := hd 15 18 rfl rfl
      exact Y_pick rfl e18 rfl
  intro f wq hwq hF
  have f0 : f 0 = .pointer (some ⟨w.heap.size, 0, none⟩) := hF 0 3 rfl
  have f1 : f 1 = .int .i64 K := hF 1 4 rfl
  have f2 : f 2 = .bool false := hF 2 5 rfl
  have f3 : f 3 = .bool false := hF 3 6 rfl
  have f4 : f 4 = .pointer (some ⟨w.heap.size, 1, none⟩) := hF 4 7 rfl
  have f5 : f 5 = .slice A U.length c := hF 5 8 rfl
  have f6 : f 6 = .bool true := hF 6 9 rfl
  have f7 : f 7 = .bool false := hF 7 10 rfl
  have f8 : f 8 = .bool false := hF 8 11 rfl
  have f9 : f 9 = .bool false := hF 9 12 rfl
  have f10 : f 10 = .pointer (some ⟨w.heap.size, 2, none⟩) := hF 10 13 rfl
  have f11 : f 11 = .slice B D.length d := hF 11 14 rfl
  have f12 : f 12 = .bool false := hF 12 15 rfl
  have f13 : f 13 = .bool true := hF 13 16 rfl
  have f14 : f 14 = .bool true := hF 14 17 rfl
  have f15 : f 15 = .bool true := hF 15 18 rfl
  have f16 : f 16 = undef := hF 16 19 rfl
  have f17 : f 17 = undef := hF 17 20 rfl
  have f18 : f 18 = undef := hF 18 21 rfl
  have f19 : f 19 = undef := hF 19 22 rfl
  have f20 : f 20 = undef := hF 20 23 rfl
  have f21 : f 21 = undef := hF 21 24 rfl
  have f22 : f 22 = undef := hF 22 25 rfl
  have f23 : f 23 = undef := hF 23 26 rfl
  have f24 : f 24 = undef := hF 24 27 rfl
  have f25 : f 25 = undef := hF 25 28 rfl
  have f26 : f 26 = undef := hF 26 29 rfl
  have f27 : f 27 = undef := hF 27 30 rfl
  have f28 : f 28 = undef := hF 28 31 rfl
  have f29 : f 29 = undef := hF 29 32 rfl
  have f30 : f 30 = undef := hF 30 33 rfl
  have f31 : f 31 = undef := hF 31 34 rfl
  have f32 : f 32 = undef := hF 32 35 rfl
  have f33 : f 33 = undef := hF 33 36 rfl
  have f34 : f 34 = undef := hF 34 37 rfl
  have f35 : f 35 = undef := hF 35 38 rfl
  have f36 : f 36 = undef := hF 36 39 rfl
  have f37 : f 37 = .bool true := hF 37 40 rfl
  clear hF
  simp only [puts, Act.put, List.setIfInBounds_toArray, List.set_cons_succ, List.set_cons_zero, Nat.zero_add, Nat.reduceAdd, f0, f1, f2, f3, f4, f5, f6, f7, f8, f9, f10, f11, f12, f13, f14, f15, f16, f17, f18, f19, f20, f21, f22, f23, f24, f25, f26, f27, f28, f29, f30, f31, f32, f33, f34, f35, f36, f37]
  clear f0 f1 f2 f3 f4 f5 f6 f7 f8 f9 f10 f11 f12 f13 f14 f15 f16 f17 f18 f19 f20 f21 f22 f23 f24 f25 f26 f27 f28 f29 f30 f31 f32 f33 f34 f35 f36 f37 f
  go_wp2_with fail
  go_ret
  exact ⟨rfl, Ext.trans x0 hwq⟩

set_option maxHeartbeats 2000000 in
theorem check_nou (K : Int) (A : Option Addr) (c : Nat) (U : List (List UInt8)) (B : Option Addr) (d : Nat) (D : List (List UInt8)) (w : World) (hA : Ds w A c U) (hB : Ds w B d D)
    (hu : U.length ≤ 3000000000000) (hd : D.length ≤ 3000000000000) (hk : 0 ≤ K) (hU : U.Nodup) (hD : D.Nodup) (h1 : U.length = 0) :
    Calls Try.prog 17 #[.agg #[.int .i64 K, .slice A U.length c, .slice B D.length d]] w fun e w' => e = .returned (.int .i64 (0)) ∧ Ext w w' := by
  have H1 := Lib.hid h1
  clear h1
  have HU := Lib.hid (decide_eq_true hU)
  clear hU
  have HD := Lib.hid (decide_eq_true hD)
  clear hD
  go_enter Try.func17, Try.ntmps17
  go_wp2_with fail
  have h0 := heap_alloc_new w (.cells #[.int .i64 K, .slice A U.length c, .slice B D.length d] 25)
  have x0 : Ext w (w.alloc (Obj.cells #[.int .i64 K, .slice A U.length c, .slice B D.length d] 25)) := (Below.refl _ w).alloc (Nat.le_refl _) _
  have hA0 := hA.below x0
  have hB0 := hB.below x0
  generalize w.alloc (Obj.cells #[.int .i64 K, .slice A U.length c, .slice B D.length d] 25) = w0 at *
  have hlt := (Array.getElem?_eq_some_iff.1 h0).1
  have m0 : ∀ u, Ext w0 u → u.cell? ⟨w.heap.size, 0, none⟩ = some (.int .i64 K) := fun u hu => by rw [cell_of_row _ _ _ _ _ _ ((hu.block _ hlt).trans h0)]; rfl
  have m1 : ∀ u, Ext w0 u → u.cell? ⟨w.heap.size, 1, none⟩ = some (.slice A U.length c) := fun u hu => by rw [cell_of_row _ _ _ _ _ _ ((hu.block _ hlt).trans h0)]; rfl
  have m2 : ∀ u, Ext w0 u → u.cell? ⟨w.heap.size, 2, none⟩ = some (.slice B D.length d) := fun u hu => by rw [cell_of_row _ _ _ _ _ _ ((hu.block _ hlt).trans h0)]; rfl
  refine wp_region_lay [Fact.val (.pointer (some ⟨w.heap.size, 0, none⟩)), Fact.val (.int .i64 K), Fact.val (.bool false), Fact.val (.bool false), Fact.val (.pointer (some ⟨w.heap.size, 1, none⟩)), Fact.val (.slice A U.length c), Fact.val (.bool true), Fact.val (.bool false), Fact.val (.bool false), Fact.val (.bool false), Fact.val (.pointer (some ⟨w.heap.size, 2, none⟩)), Fact.val (.slice B D.length d), Fact.val (.bool true), Fact.val (.bool false), Fact.val (.bool false), Fact.val (.bool false), Fact.val (.pointer (some ⟨w.heap.size, 1, none⟩)), Fact.val (.slice A U.length c), Fact.val (.int .i64 U.length), Fact.val (.bool false), Fact.val (.bool false), Fact.val (undef), Fact.val (undef), Fact.val (undef), Fact.val (undef), Fact.val (.bool false), Fact.val (.bool false), Fact.val (undef), Fact.val (undef), Fact.val (undef), Fact.val (undef), Fact.val (undef), Fact.val (undef), Fact.val (undef), Fact.val (undef), Fact.val (undef), Fact.val (.bool false), Fact.val (.bool false)] (w0) _ (by kernel_rfl) (by kernel_rfl) (by kernel_rfl) (Ext.refl _) ?_ ?_
  · refine ⟨?_, ?_, ?_, ?_, ?_, ?_, ?_, ?_, ?_, ?_, ?_, ?_, ?_, ?_, ?_, ?_, ?_, ?_, ?_, ?_, ?_, ?_, ?_, ?_, ?_, ?_, ?_, ?_, ?_, ?_, ?_, ?_, ?_, ?_, ?_, ?_, ?_, ?_, trivial⟩
    · intro a u hx hd hr
      rw [if_pos (wanted_none rfl)]
      have e1 : a.eval (.tmp 1) = .pointer (some ⟨w.heap.size, 0, none⟩) := hr 1 rfl
      clear hd hr
      simp only [Act.eval, Array.getD_eq_getD_getElem?] at e1
      exact Y_val (v := .pointer (some ⟨w.heap.size, 0, none⟩)) (by go_simp) rfl
    · intro a u hx hd hr
      rw [if_pos (wanted_none rfl)]
      have e3 : a.eval (.tmp 3) = .pointer (some ⟨w.heap.size, 0, none⟩) := hd 0 3 rfl rfl
      have ec := m0 _ hx
      clear hd hr
      simp only [Act.eval, Array.getD_eq_getD_getElem?] at e3
      exact Y_val (v := .int .i64 K) (by go_simp) rfl
    · intro a u hx hd hr
      rw [if_pos (wanted_none rfl)]
      have e4 : a.eval (.tmp 4) = .int .i64 K := hd 1 4 rfl rfl
      clear hd hr
      simp only [Act.eval, Array.getD_eq_getD_getElem?] at e4
      exact Y_val (v := .bool false) (by go_simp <;> omega) rfl
    · intro a u hx hd hr
      rw [if_pos (wanted_none rfl)]
      have e5 : a.eval (.tmp 5) = .bool false := hd 2 5 rfl rfl
      exact Y_copy (.inl rfl) e5
    · intro a u hx hd hr
      have eg : a.eval (.tmp 6) = .bool false := hd 3 6 rfl rfl
      rw [if_pos (by rw [wanted_some rfl rfl eg]; rfl)]
      have e1 : a.eval (.tmp 1) = .pointer (some ⟨w.heap.size, 0, none⟩) := hr 1 rfl
      clear hd hr
      simp only [Act.eval, Array.getD_eq_getD_getElem?] at e1
      exact Y_val (v := .pointer (some ⟨w.heap.size, 1, none⟩)) (by go_simp) rfl
    · intro a u hx hd hr
      have eg : a.eval (.tmp 6) = .bool false := hd 3 6 rfl rfl
      rw [if_pos (by rw [wanted_some rfl rfl eg]; rfl)]
      have e7 : a.eval (.tmp 7) = .pointer (some ⟨w.heap.size, 1, none⟩) := hd 4 7 rfl rfl
      have ec := m1 _ hx
      clear hd hr
      simp only [Act.eval, Array.getD_eq_getD_getElem?] at e7
      exact Y_val (v := .slice A U.length c) (by go_simp) rfl
    · intro a u hx hd hr
      have eg : a.eval (.tmp 6) = .bool false := hd 3 6 rfl rfl
      rw [if_pos (by rw [wanted_some rfl rfl eg]; rfl)]
      have e8 : a.eval (.tmp 8) = .slice A U.length c := hd 5 8 rfl rfl
      clear hd hr
      refine Y_calls (f := 24) (args := #[(a.eval (.tmp 8))]) (by go_simp) ?_
      rw [e8]
      exact (once_any A c U _ (hA0.below hx) hu).mono fun e u2 k => ⟨_, k.1.trans (by rw [HU.out]), rfl, k.2⟩
    · intro a u hx hd hr
      have eg : a.eval (.tmp 6) = .bool false := hd 3 6 rfl rfl
      rw [if_pos (by rw [wanted_some rfl rfl eg]; rfl)]
      have e9 : a.eval (.tmp 9) = .bool true := hd 6 9 rfl rfl
      clear hd hr
      simp only [Act.eval, Array.getD_eq_getD_getElem?] at e9
      exact Y_val (v := .bool false) (by go_simp) rfl
    · intro a u hx hd hr
      rw [if_pos (wanted_none rfl)]
      have e6 : a.eval (.tmp 6) = .bool false := hd 3 6 rfl rfl
      have e10 : a.eval (.tmp 10) = .bool false := hd 7 10 rfl rfl
      exact Y_pick rfl e6 e10
    · intro a u hx hd hr
      rw [if_pos (wanted_none rfl)]
      have e11 : a.eval (.tmp 11) = .bool false := hd 8 11 rfl rfl
      exact Y_copy (.inl rfl) e11
    · intro a u hx hd hr
      have eg : a.eval (.tmp 12) = .bool false := hd 9 12 rfl rfl
      rw [if_pos (by rw [wanted_some rfl rfl eg]; rfl)]
      have e1 : a.eval (.tmp 1) = .pointer (some ⟨w.heap.size, 0, none⟩) := hr 1 rfl
      clear hd hr
      simp only [Act.eval, Array.getD_eq_getD_getElem?] at e1
      exact Y_val (v := .pointer (some ⟨w.heap.size, 2, none⟩)) (by go_simp) rfl
    · intro a u hx hd hr
      have eg : a.eval (.tmp 12) = .bool false := hd 9 12 rfl rfl
      rw [if_pos (by rw [wanted_some rfl rfl eg]; rfl)]
      have e13 : a.eval (.tmp 13) = .pointer (some ⟨w.heap.size, 2, none⟩) := hd 10 13 rfl rfl
      have ec := m2 _ hx
      clear hd hr
      simp only [Act.eval, Array.getD_eq_getD_getElem?] at e13
      exact Y_val (v := .slice B D.length d) (by go_simp) rfl
    · intro a u hx hd hr
      have eg : a.eval (.tmp 12) = .bool false := hd 9 12 rfl rfl
      rw [if_pos (by rw [wanted_some rfl rfl eg]; rfl)]
      have e14 : a.eval (.tmp 14) = .slice B D.length d := hd 11 14 rfl rfl
      clear hd hr
      refine Y_calls (f := 24) (args := #[(a.eval (.tmp 14))]) (by go_simp) ?_
      rw [e14]
      exact (once_any B d D _ (hB0.below hx) hd).mono fun e u2 k => ⟨_, k.1.trans (by rw [HD.out]), rfl, k.2⟩
    · intro a u hx hd hr
      have eg : a.eval (.tmp 12) = .bool false := hd 9 12 rfl rfl
      rw [if_pos (by rw [wanted_some rfl rfl eg]; rfl)]
      have e15 : a.eval (.tmp 15) = .bool true := hd 12 15 rfl rfl
      clear hd hr
      simp only [Act.eval, Array.getD_eq_getD_getElem?] at e15
      exact Y_val (v := .bool false) (by go_simp) rfl
    · intro a u hx hd hr
      rw [if_pos (wanted_none rfl)]
      have e12 : a.eval (.tmp 12) = .bool false := hd 9 12 rfl rfl
      have e16 : a.eval (.tmp 16) = .bool false := hd 13 16 rfl rfl
      exact Y_pick rfl e12 e16
    · intro a u hx hd hr
      rw [if_pos (wanted_none rfl)]
      have e17 : a.eval (.tmp 17) = .bool false := hd 14 17 rfl rfl
      exact Y_copy (.inl rfl) e17
    · intro a u hx hd hr
      have eg : a.eval (.tmp 18) = .bool false := hd 15 18 rfl rfl
      rw [if_pos (by rw [wanted_some rfl rfl eg]; rfl)]
      have e1 : a.eval (.tmp 1) = .pointer (some ⟨w.heap.size, 0, none⟩) := hr 1 rfl
      clear hd hr
      simp only [Act.eval, Array.getD_eq_getD_getElem?] at e1
      exact Y_val (v := .pointer (some ⟨w.heap.size, 1, none⟩)) (by go_simp) rfl
    · intro a u hx hd hr
      have eg : a.eval (.tmp 18) = .bool false := hd 15 18 rfl rfl
      rw [if_pos (by rw [wanted_some rfl rfl eg]; rfl)]
      have e19 : a.eval (.tmp 19) = .pointer (some ⟨w.heap.size, 1, none⟩) := hd 16 19 rfl rfl
      have ec := m1 _ hx
      clear hd hr
      simp only [Act.eval, Array.getD_eq_getD_getElem?] at e19
      exact Y_val (v := .slice A U.length c) (by go_simp) rfl
    · intro a u hx hd hr
      have eg : a.eval (.tmp 18) = .bool false := hd 15 18 rfl rfl
      rw [if_pos (by rw [wanted_some rfl rfl eg]; rfl)]
      have e20 : a.eval (.tmp 20) = .slice A U.length c := hd 17 20 rfl rfl
      clear hd hr
      simp only [Act.eval, Array.getD_eq_getD_getElem?] at e20
      exact Y_val (v := .int .i64 U.length) (by go_simp) rfl
    · intro a u hx hd hr
      have eg : a.eval (.tmp 18) = .bool false := hd 15 18 rfl rfl
      rw [if_pos (by rw [wanted_some rfl rfl eg]; rfl)]
      have e21 : a.eval (.tmp 21) = .int .i64 U.length := hd 18 21 rfl rfl
      clear hd hr
      simp only [Act.eval, Array.getD_eq_getD_getElem?] at e21
      exact Y_val (v := .bool false) (by have := H1.out; go_simp <;> omega) rfl
    · intro a u hx hd hr
      have eg : a.eval (.tmp 18) = .bool false := hd 15 18 rfl rfl
      rw [if_pos (by rw [wanted_some rfl rfl eg]; rfl)]
      have e22 : a.eval (.tmp 22) = .bool false := hd 19 22 rfl rfl
      exact Y_copy (.inl rfl) e22
    · intro a u hx hd hr
      have eg : a.eval (.tmp 23) = .bool false := hd 20 23 rfl rfl
      rw [if_neg (by rw [wanted_some rfl rfl eg]; exact Bool.noConfusion)]
      exact rfl
    · intro a u hx hd hr
      have eg : a.eval (.tmp 23) = .bool false := hd 20 23 rfl rfl
      rw [if_neg (by rw [wanted_some rfl rfl eg]; exact Bool.noConfusion)]
      exact rfl
    · intro a u hx hd hr
      have eg : a.eval (.tmp 23) = .bool false := hd 20 23 rfl rfl
      rw [if_neg (by rw [wanted_some rfl rfl eg]; exact Bool.noConfusion)]
      exact rfl
    · intro a u hx hd hr
      have eg : a.eval (.tmp 23) = .bool false := hd 20 23 rfl rfl
      rw [if_neg (by rw [wanted_some rfl rfl eg]; exact Bool.noConfusion)]
      exact rfl
    · intro a u hx hd hr
      have eg : a.eval (.tmp 18) = .bool false := hd 15 18 rfl rfl
      rw [if_pos (by rw [wanted_some rfl rfl eg]; rfl)]
      have e23 : a.eval (.tmp 23) = .bool false := hd 20 23 rfl rfl
      exact Y_pick rfl e23 rfl
    · intro a u hx hd hr
      have eg : a.eval (.tmp 18) = .bool false := hd 15 18 rfl rfl
      rw [if_pos (by rw [wanted_some rfl rfl eg]; rfl)]
      have e28 : a.eval (.tmp 28) = .bool false := hd 25 28 rfl rfl
      exact Y_copy (.inl rfl) e28
    · intro a u hx hd hr
      have eg : a.eval (.tmp 29) = .bool false := hd 26 29 rfl rfl
      rw [if_neg (by rw [wanted_some rfl rfl eg]; exact Bool.noConfusion)]
      exact rfl
    · intro a u hx hd hr
      have eg : a.eval (.tmp 29) = .bool false := hd 26 29 rfl rfl
      rw [if_neg (by rw [wanted_some rfl rfl eg]; exact Bool.noConfusion)]
      exact rfl
    · intro a u hx hd hr
      have eg : a.eval (.tmp 29) = .bool false := hd 26 29 rfl rfl
      rw [if_neg (by rw [wanted_some rfl rfl eg]; exact Bool.noConfusion)]
      exact rfl
    · intro a u hx hd hr
      have eg : a.eval (.tmp 29) = .bool false := hd 26 29 rfl rfl
      rw [if_neg (by rw [wanted_some rfl rfl eg]; exact Bool.noConfusion)]
      exact rfl
    · intro a u hx hd hr
      have eg : a.eval (.tmp 29) = .bool false := hd 26 29 rfl rfl
      rw [if_neg (by rw [wanted_some rfl rfl eg]; exact Bool.noConfusion)]
      exact rfl
    · intro a u hx hd hr
      have eg : a.eval (.tmp 29) = .bool false := hd 26 29 rfl rfl
      rw [if_neg (by rw [wanted_some rfl rfl eg]; exact Bool.noConfusion)]
      exact rfl
    · intro a u hx hd hr
      have eg : a.eval (.tmp 29) = .bool false := hd 26 29 rfl rfl
      rw [if_neg (by rw [wanted_some rfl rfl eg]; exact Bool.noConfusion)]
      exact rfl
    · intro a u hx hd hr
      have eg : a.eval (.tmp 29) = .bool false := hd 26 29 rfl rfl
      rw [if_neg (by rw [wanted_some rfl rfl eg]; exact Bool.noConfusion)]
      exact rfl
    · intro a u hx hd hr
      have eg : a.eval (.tmp 29) = .bool false := hd 26 29 rfl rfl
      rw [if_neg (by rw [wanted_some rfl rfl eg]; exact Bool.noConfusion)]
      exact rfl
    · intro a u hx hd hr
      have eg : a.eval (.tmp 18) = .bool false := hd 15 18 rfl rfl
      rw [if_pos (by rw [wanted_some rfl rfl eg]; rfl)]
      have e29 : a.eval (.tmp 29) = .bool false := hd 26 29 rfl rfl
      exact Y_pick rfl e29 rfl
    · intro a u hx hd hr
      rw [if_pos (wanted_none rfl)]
      have e18 : a.eval (.tmp 18) = .bool false := hd 15 18 rfl rfl
      have e39 : a.eval (.tmp 39) = .bool false := hd 36 39 rfl rfl
      exact Y_pick rfl e18 e39
  intro f wq hwq hF
  have f0 : f 0 = .pointer (some ⟨w.heap.size, 0, none⟩) := hF 0 3 rfl
  have f1 : f 1 = .int .i64 K := hF 1 4 rfl
  have f2 : f 2 = .bool false := hF 2 5 rfl
  have f3 : f 3 = .bool false := hF 3 6 rfl
  have f4 : f 4 = .pointer (some ⟨w.heap.size, 1, none⟩) := hF 4 7 rfl
  have f5 : f 5 = .slice A U.length c := hF 5 8 rfl
  have f6 : f 6 = .bool true := hF 6 9 rfl
  have f7 : f 7 = .bool false := hF 7 10 rfl
  have f8 : f 8 = .bool false := hF 8 11 rfl
  have f9 : f 9 = .bool false := hF 9 12 rfl
  have f10 : f 10 = .pointer (some ⟨w.heap.size, 2, none⟩) := hF 10 13 rfl
  have f11 : f 11 = .slice B D.length d := hF 11 14 rfl
  have f12 : f 12 = .bool true := hF 12 15 rfl
  have f13 : f 13 = .bool false := hF 13 16 rfl
  have f14 : f 14 = .bool false := hF 14 17 rfl
  have f15 : f 15 = .bool false := hF 15 18 rfl
  have f16 : f 16 = .pointer (some ⟨w.heap.size, 1, none⟩) := hF 16 19 rfl
  have f17 : f 17 = .slice A U.length c := hF 17 20 rfl
  have f18 : f 18 = .int .i64 U.length := hF 18 21 rfl
  have f19 : f 19 = .bool false := hF 19 22 rfl
  have f20 : f 20 = .bool false := hF 20 23 rfl
  have f21 : f 21 = undef := hF 21 24 rfl
  have f22 : f 22 = undef := hF 22 25 rfl
  have f23 : f 23 = undef := hF 23 26 rfl
  have f24 : f 24 = undef := hF 24 27 rfl
  have f25 : f 25 = .bool false := hF 25 28 rfl
  have f26 : f 26 = .bool false := hF 26 29 rfl
  have f27 : f 27 = undef := hF 27 30 rfl
  have f28 : f 28 = undef := hF 28 31 rfl
  have f29 : f 29 = undef := hF 29 32 rfl
  have f30 : f 30 = undef := hF 30 33 rfl
  have f31 : f 31 = undef := hF 31 34 rfl
  have f32 : f 32 = undef := hF 32 35 rfl
  have f33 : f 33 = undef := hF 33 36 rfl
  have f34 : f 34 = undef := hF 34 37 rfl
  have f35 : f 35 = undef := hF 35 38 rfl
  have f36 : f 36 = .bool false := hF 36 39 rfl
  have f37 : f 37 = .bool false := hF 37 40 rfl
  clear hF
  simp only [puts, Act.put, List.setIfInBounds_toArray, List.set_cons_succ, List.set_cons_zero, Nat.zero_add, Nat.reduceAdd, f0, f1, f2, f3, f4, f5, f6, f7, f8, f9, f10, f11, f12, f13, f14, f15, f16, f17, f18, f19, f20, f21, f22, f23, f24, f25, f26, f27, f28, f29, f30, f31, f32, f33, f34, f35, f36, f37]
  clear f0 f1 f2 f3 f4 f5 f6 f7 f8 f9 f10 f11 f12 f13 f14 f15 f16 f17 f18 f19 f20 f21 f22 f23 f24 f25 f26 f27 f28 f29 f30 f31 f32 f33 f34 f35 f36 f37 f
  go_wp2_with fail
  go_ret
  exact ⟨rfl, Ext.trans x0 hwq⟩

set_option maxHeartbeats 2000000 in
theorem check_nod (K : Int) (A : Option Addr) (c : Nat) (U : List (List UInt8)) (B : Option Addr) (d : Nat) (D : List (List UInt8)) (w : World) (hA : Ds w A c U) (hB : Ds w B d D)
    (hu : U.length ≤ 3000000000000) (hd : D.length ≤ 3000000000000) (hk : 0 ≤ K) (hU : U.Nodup) (hD : D.Nodup) (h1 : 0 < U.length) (h2 : D.length = 0) :
    Calls Try.prog 17 #[.agg #[.int .i64 K, .slice A U.length c, .slice B D.length d]] w fun e w' => e = .returned (.int .i64 (0)) ∧ Ext w w' := by
  have H2 := Lib.hid h2
  clear h2
  have HU := Lib.hid (decide_eq_true hU)
  clear hU
  have HD := Lib.hid (decide_eq_true hD)
  clear hD
  go_enter Try.func17, Try.ntmps17
  go_wp2_with fail
  have h0 := heap_alloc_new w (.cells #[.int .i64 K, .slice A U.length c, .slice B D.length d] 25)
  have x0 : Ext w (w.alloc (Obj.cells #[.int .i64 K, .slice A U.length c, .slice B D.length d] 25)) := (Below.refl _ w).alloc (Nat.le_refl _) _
  have hA0 := hA.below x0
  have hB0 := hB.below x0
  generalize w.alloc (Obj.cells #[.int .i64 K, .slice A U.length c, .slice B D.length d] 25) = w0 at *
  have hlt := (Array.getElem?_eq_some_iff.1 h0).1
  have m0 : ∀ u, Ext w0 u → u.cell? ⟨w.heap.size, 0, none⟩ = some (.int .i64 K) := fun u hu => by rw [cell_of_row _ _ _ _ _ _ ((hu.block _ hlt).trans h0)]; rfl
  have m1 : ∀ u, Ext w0 u → u.cell? ⟨w.heap.size, 1, none⟩ = some (.slice A U.length c) := fun u hu => by rw [cell_of_row _ _ _ _ _ _ ((hu.block _ hlt).trans h0)]; rfl
  have m2 : ∀ u, Ext w0 u → u.cell? ⟨w.heap.size, 2, none⟩ = some (.slice B D.length d) := fun u hu => by rw [cell_of_row _ _ _ _ _ _ ((hu.block _ hlt).trans h0)]; rfl
  refine wp_region_lay [Fact.val (.pointer (some ⟨w.heap.size, 0, none⟩)), Fact.val (.int .i64 K), Fact.val (.bool false), Fact.val (.bool false), Fact.val (.pointer (some ⟨w.heap.size, 1, none⟩)), Fact.val (.slice A U.length c), Fact.val (.bool true), Fact.val (.bool false), Fact.val (.bool false), Fact.val (.bool false), Fact.val (.pointer (some ⟨w.heap.size, 2, none⟩)), Fact.val (.slice B D.length d), Fact.val (.bool true), Fact.val (.bool false), Fact.val (.bool false), Fact.val (.bool false), Fact.val (.pointer (some ⟨w.heap.size, 1, none⟩)), Fact.val (.slice A U.length c), Fact.val (.int .i64 U.length), Fact.val (.bool true), Fact.val (.bool true), Fact.val (.pointer (some ⟨w.heap.size, 2, none⟩)), Fact.val (.slice B D.length d), Fact.val (.int .i64 D.length), Fact.val (.bool false), Fact.val (.bool false), Fact.val (.bool false), Fact.val (undef), Fact.val (undef), Fact.val (undef), Fact.val (undef), Fact.val (undef), Fact.val (undef), Fact.val (undef), Fact.val (undef), Fact.val (undef), Fact.val (.bool false), Fact.val (.bool false)] (w0) _ (by kernel_rfl) (by kernel_rfl) (by kernel_rfl) (Ext.refl _) ?_ ?_
  · refine ⟨?_, ?_, ?_, ?_, ?_, ?_, ?_, ?_, ?_, ?_, ?_, ?_, ?_, ?_, ?_, ?_, ?_, ?_, ?_, ?_, ?_, ?_, ?_, ?_, ?_, ?_, ?_, ?_, ?_, ?_, ?_, ?_, ?_, ?_, ?_, ?_, ?_, ?_, trivial⟩
    · intro a u hx hd hr
      rw [if_pos (wanted_none rfl)]
      have e1 : a.eval (.tmp 1) = .pointer (some ⟨w.heap.size, 0, none⟩) := hr 1 rfl
      clear hd hr
      simp only [Act.eval, Array.getD_eq_getD_getElem?] at e1
      exact Y_val (v := .pointer (some ⟨w.heap.size, 0, none⟩)) (by go_simp) rfl
    · intro a u hx hd hr
      rw [if_pos (wanted_none rfl)]
      have e3 : a.eval (.tmp 3) = .pointer (some ⟨w.heap.size, 0, none⟩) := hd 0 3 rfl rfl
      have ec := m0 _ hx
      clear hd hr
      simp only [Act.eval, Array.getD_eq_getD_getElem?] at e3
      exact Y_val (v := .int .i64 K) (by go_simp) rfl
    · intro a u hx hd hr
      rw [if_pos (wanted_none rfl)]
      have e4 : a.eval (.tmp 4) = .int .i64 K := hd 1 4 rfl rfl
      clear hd hr
      simp only [Act.eval, Array.getD_eq_getD_getElem?] at e4
      exact Y_val (v := .bool false) (by go_simp <;> omega) rfl
    · intro a u hx hd hr
      rw [if_pos (wanted_none rfl)]
      have e5 : a.eval (.tmp 5) = .bool false := hd 2 5 rfl rfl
      exact Y_copy (.inl rfl) e5
    · intro a u hx hd hr
      have eg : a.eval (.tmp 6) = .bool false := hd 3 6 rfl rfl
      rw [if_pos (by rw [wanted_some rfl rfl eg]; rfl)]
      have e1 : a.eval (.tmp 1) = .pointer (some ⟨w.heap.size, 0, none⟩) := hr 1 rfl
      clear hd hr
      simp only [Act.eval, Array.getD_eq_getD_getElem?] at e1
      exact Y_val (v := .pointer (some ⟨w.heap.size, 1, none⟩)) (by go_simp) rfl
    · intro a u hx hd hr
      have eg : a.eval (.tmp 6) = .bool false := hd 3 6 rfl rfl
      rw [if_pos (by rw [wanted_some rfl rfl eg]; rfl)]
      have e7 : a.eval (.tmp 7) = .pointer (some ⟨w.heap.size, 1, none⟩) := hd 4 7 rfl rfl
      have ec := m1 _ hx
      clear hd hr
      simp only [Act.eval, Array.getD_eq_getD_getElem?] at e7
      exact Y_val (v := .slice A U.length c) (by go_simp) rfl
    · intro a u hx hd hr
      have eg : a.eval (.tmp 6) = .bool false := hd 3 6 rfl rfl
      rw [if_pos (by rw [wanted_some rfl rfl eg]; rfl)]
      have e8 : a.eval (.tmp 8) = .slice A U.length c := hd 5 8 rfl rfl
      clear hd hr
      refine Y_calls (f := 24) (args := #[(a.eval (.tmp 8))]) (by go_simp) ?_
      rw [e8]
      exact (once_any A c U _ (hA0.below hx) hu).mono fun e u2 k => ⟨_, k.1.trans (by rw [HU.out]), rfl, k.2⟩
    · intro a u hx hd hr
      have eg : a.eval (.tmp 6) = .bool false := hd 3 6 rfl rfl
      rw [if_pos (by rw [wanted_some rfl rfl eg]; rfl)]
      have e9 : a.eval (.tmp 9) = .bool true := hd 6 9 rfl rfl
      clear hd hr
      simp only [Act.eval, Array.getD_eq_getD_getElem?] at e9
      exact Y_val (v := .bool false) (by go_simp) rfl
    · intro a u hx hd hr
      rw [if_pos (wanted_none rfl)]
      have e6 : a.eval (.tmp 6) = .bool false := hd 3 6 rfl rfl
      have e10 : a.eval (.tmp 10) = .bool false := hd 7 10 rfl rfl
      exact Y_pick rfl e6 e10
    · intro a u hx hd hr
      rw [if_pos (wanted_none rfl)]
      have e11 : a.eval (.tmp 11) = .bool false := hd 8 11 rfl rfl
      exact Y_copy (.inl rfl) e11
    · intro a u hx hd hr
      have eg : a.eval (.tmp 12) = .bool false := hd 9 12 rfl rfl
      rw [if_pos (by rw [wanted_some rfl rfl eg]; rfl)]
      have e1 : a.eval (.tmp 1) = .pointer (some ⟨w.heap.size, 0, none⟩) := hr 1 rfl
      clear hd hr
      simp only [Act.eval, Array.getD_eq_getD_getElem?] at e1
      exact Y_val (v := .pointer (some ⟨w.heap.size, 2, none⟩)) (by go_simp) rfl
    · intro a u hx hd hr
      have eg : a.eval (.tmp 12) = .bool false := hd 9 12 rfl rfl
      rw [if_pos (by rw [wanted_some rfl rfl eg]; rfl)]
      have e13 : a.eval (.tmp 13) = .pointer (some ⟨w.heap.size, 2, none⟩) := hd 10 13 rfl rfl
      have ec := m2 _ hx
      clear hd hr
      simp only [Act.eval, Array.getD_eq_getD_getElem?] at e13
      exact Y_val (v := .slice B D.length d) (by go_simp) rfl
    · intro a u hx hd hr
      have eg : a.eval (.tmp 12) = .bool false := hd 9 12 rfl rfl
      rw [if_pos (by rw [wanted_some rfl rfl eg]; rfl)]
      have e14 : a.eval (.tmp 14) = .slice B D.length d := hd 11 14 rfl rfl
      clear hd hr
      refine Y_calls (f := 24) (args := #[(a.eval (.tmp 14))]) (by go_simp) ?_
      rw [e14]
      exact (once_any B d D _ (hB0.below hx) hd).mono fun e u2 k => ⟨_, k.1.trans (by rw [HD.out]), rfl, k.2⟩
    · intro a u hx hd hr
      have eg : a.eval (.tmp 12) = .bool false := hd 9 12 rfl rfl
      rw [if_pos (by rw [wanted_some rfl rfl eg]; rfl)]
      have e15 : a.eval (.tmp 15) = .bool true := hd 12 15 rfl rfl
      clear hd hr
      simp only [Act.eval, Array.getD_eq_getD_getElem?] at e15
      exact Y_val (v := .bool false) (by go_simp) rfl
    · intro a u hx hd hr
      rw [if_pos (wanted_none rfl)]
      have e12 : a.eval (.tmp 12) = .bool false := hd 9 12 rfl rfl
      have e16 : a.eval (.tmp 16) = .bool false := hd 13 16 rfl rfl
      exact Y_pick rfl e12 e16
    · intro a u hx hd hr
      rw [if_pos (wanted_none rfl)]
      have e17 : a.eval (.tmp 17) = .bool false := hd 14 17 rfl rfl
      exact Y_copy (.inl rfl) e17
    · intro a u hx hd hr
      have eg : a.eval (.tmp 18) = .bool false := hd 15 18 rfl rfl
      rw [if_pos (by rw [wanted_some rfl rfl eg]; rfl)]
      have e1 : a.eval (.tmp 1) = .pointer (some ⟨w.heap.size, 0, none⟩) := hr 1 rfl
      clear hd hr
      simp only [Act.eval, Array.getD_eq_getD_getElem?] at e1
      exact Y_val (v := .pointer (some ⟨w.heap.size, 1, none⟩)) (by go_simp) rfl
    · intro a u hx hd hr
      have eg : a.eval (.tmp 18) = .bool false := hd 15 18 rfl rfl
      rw [if_pos (by rw [wanted_some rfl rfl eg]; rfl)]
      have e19 : a.eval (.tmp 19) = .pointer (some ⟨w.heap.size, 1, none⟩) := hd 16 19 rfl rfl
      have ec := m1 _ hx
      clear hd hr
      simp only [Act.eval, Array.getD_eq_getD_getElem?] at e19
      exact Y_val (v := .slice A U.length c) (by go_simp) rfl
    · intro a u hx hd hr
      have eg : a.eval (.tmp 18) = .bool false := hd 15 18 rfl rfl
      rw [if_pos (by rw [wanted_some rfl rfl eg]; rfl)]
      have e20 : a.eval (.tmp 20) = .slice A U.length c := hd 17 20 rfl rfl
      clear hd hr
      simp only [Act.eval, Array.getD_eq_getD_getElem?] at e20
      exact Y_val (v := .int .i64 U.length) (by go_simp) rfl
    · intro a u hx hd hr
      have eg : a.eval (.tmp 18) = .bool false := hd 15 18 rfl rfl
      rw [if_pos (by rw [wanted_some rfl rfl eg]; rfl)]
      have e21 : a.eval (.tmp 21) = .int .i64 U.length := hd 18 21 rfl rfl
      clear hd hr
      simp only [Act.eval, Array.getD_eq_getD_getElem?] at e21
      exact Y_val (v := .bool true) (by go_simp <;> omega) rfl
    · intro a u hx hd hr
      have eg : a.eval (.tmp 18) = .bool false := hd 15 18 rfl rfl
      rw [if_pos (by rw [wanted_some rfl rfl eg]; rfl)]
      have e22 : a.eval (.tmp 22) = .bool true := hd 19 22 rfl rfl
      exact Y_copy (.inl rfl) e22
    · intro a u hx hd hr
      have eg : a.eval (.tmp 23) = .bool true := hd 20 23 rfl rfl
      rw [if_pos (by rw [wanted_some rfl rfl eg]; rfl)]
      have e1 : a.eval (.tmp 1) = .pointer (some ⟨w.heap.size, 0, none⟩) := hr 1 rfl
      clear hd hr
      simp only [Act.eval, Array.getD_eq_getD_getElem?] at e1
      exact Y_val (v := .pointer (some ⟨w.heap.size, 2, none⟩)) (by go_simp) rfl
    · intro a u hx hd hr
      have eg : a.eval (.tmp 23) = .bool true := hd 20 23 rfl rfl
      rw [if_pos (by rw [wanted_some rfl rfl eg]; rfl)]
      have e24 : a.eval (.tmp 24) = .pointer (some ⟨w.heap.size, 2, none⟩) := hd 21 24 rfl rfl
      have ec := m2 _ hx
      clear hd hr
      simp only [Act.eval, Array.getD_eq_getD_getElem?] at e24
      exact Y_val (v := .slice B D.length d) (by go_simp) rfl
    · intro a u hx hd hr
      have eg : a.eval (.tmp 23) = .bool true := hd 20 23 rfl rfl
      rw [if_pos (by rw [wanted_some rfl rfl eg]; rfl)]
      have e25 : a.eval (.tmp 25) = .slice B D.length d := hd 22 25 rfl rfl
      clear hd hr
      simp only [Act.eval, Array.getD_eq_getD_getElem?] at e25
      exact Y_val (v := .int .i64 D.length) (by go_simp) rfl
    · intro a u hx hd hr
      have eg : a.eval (.tmp 23) = .bool true := hd 20 23 rfl rfl
      rw [if_pos (by rw [wanted_some rfl rfl eg]; rfl)]
      have e26 : a.eval (.tmp 26) = .int .i64 D.length := hd 23 26 rfl rfl
      clear hd hr
      simp only [Act.eval, Array.getD_eq_getD_getElem?] at e26
      exact Y_val (v := .bool false) (by have := H2.out; go_simp <;> omega) rfl
    · intro a u hx hd hr
      have eg : a.eval (.tmp 18) = .bool false := hd 15 18 rfl rfl
      rw [if_pos (by rw [wanted_some rfl rfl eg]; rfl)]
      have e23 : a.eval (.tmp 23) = .bool true := hd 20 23 rfl rfl
      have e27 : a.eval (.tmp 27) = .bool false := hd 24 27 rfl rfl
      exact Y_pick rfl e23 e27
    · intro a u hx hd hr
      have eg : a.eval (.tmp 18) = .bool false := hd 15 18 rfl rfl
      rw [if_pos (by rw [wanted_some rfl rfl eg]; rfl)]
      have e28 : a.eval (.tmp 28) = .bool false := hd 25 28 rfl rfl
      exact Y_copy (.inl rfl) e28
    · intro a u hx hd hr
      have eg : a.eval (.tmp 29) = .bool false := hd 26 29 rfl rfl
      rw [if_neg (by rw [wanted_some rfl rfl eg]; exact Bool.noConfusion)]
      exact rfl
    · intro a u hx hd hr
      have eg : a.eval (.tmp 29) = .bool false := hd 26 29 rfl rfl
      rw [if_neg (by rw [wanted_some rfl rfl eg]; exact Bool.noConfusion)]
      exact rfl
    · intro a u hx hd hr
      have eg : a.eval (.tmp 29) = .bool false := hd 26 29 rfl rfl
      rw [if_neg (by rw [wanted_some rfl rfl eg]; exact Bool.noConfusion)]
      exact rfl
    · intro a u hx hd hr
      have eg : a.eval (.tmp 29) = .bool false := hd 26 29 rfl rfl
      rw [if_neg (by rw [wanted_some rfl rfl eg]; exact Bool.noConfusion)]
      exact rfl
    · intro a u hx hd hr
      have eg : a.eval (.tmp 29) = .bool false := hd 26 29 rfl rfl
      rw [if_neg (by rw [wanted_some rfl rfl eg]; exact Bool.noConfusion)]
      exact rfl
    · intro a u hx hd hr
      have eg : a.eval (.tmp 29) = .bool false := hd 26 29 rfl rfl
      rw [if_neg (by rw [wanted_some rfl rfl eg]; exact Bool.noConfusion)]
      exact rfl
    · intro a u hx hd hr
      have eg : a.eval (.tmp 29) = .bool false := hd 26 29 rfl rfl
      rw [if_neg (by rw [wanted_some rfl rfl eg]; exact Bool.noConfusion)]
      exact rfl
    · intro a u hx hd hr
      have eg : a.eval (.tmp 29) = .bool false := hd 26 29 rfl rfl
      rw [if_neg (by rw [wanted_some rfl rfl eg]; exact Bool.noConfusion)]
      exact rfl
    · intro a u hx hd hr
      have eg : a.eval (.tmp 29) = .bool false := hd 26 29 rfl rfl
      rw [if_neg (by rw [wanted_some rfl rfl eg]; exact Bool.noConfusion)]
      exact rfl
    · intro a u hx hd hr
      have eg : a.eval (.tmp 18) = .bool false := hd 15 18 rfl rfl
      rw [if_pos (by rw [wanted_some rfl rfl eg]; rfl)]
      have e29 : a.eval (.tmp 29) = .bool false := hd 26 29 rfl rfl
      exact Y_pick rfl e29 rfl
    · intro a u hx hd hr
      rw [if_pos (wanted_none rfl)]
      have e18 : a.eval (.tmp 18) = .bool false := hd 15 18 rfl rfl
      have e39 : a.eval (.tmp 39) = .bool false := hd 36 39 rfl rfl
      exact Y_pick rfl e18 e39
  intro f wq hwq hF
  have f0 : f 0 = .pointer (some ⟨w.heap.size, 0, none⟩) := hF 0 3 rfl
  have f1 : f 1 = .int .i64 K := hF 1 4 rfl
  have f2 : f 2 = .bool false := hF 2 5 rfl
  have f3 : f 3 = .bool false := hF 3 6 rfl
  have f4 : f 4 = .pointer (some ⟨w.heap.size, 1, none⟩) := hF 4 7 rfl
  have f5 : f 5 = .slice A U.length c := hF 5 8 rfl
  have f6 : f 6 = .bool true := hF 6 9 rfl
  have f7 : f 7 = .bool false := hF 7 10 rfl
  have f8 : f 8 = .bool false := hF 8 11 rfl
  have f9 : f 9 = .bool false := hF 9 12 rfl
  have f10 : f 10 = .pointer (some ⟨w.heap.size, 2, none⟩) := hF 10 13 rfl
  have f11 : f 11 = .slice B D.length d := hF 11 14 rfl
  have f12 : f 12 = .bool true := hF 12 15 rfl
  have f13 : f 13 = .bool false := hF 13 16 rfl
  have f14 : f 14 = .bool false := hF 14 17 rfl
  have f15 : f 15 = .bool false := hF 15 18 rfl
  have f16 : f 16 = .pointer (some ⟨w.heap.size, 1, none⟩) := hF 16 19 rfl
  have f17 : f 17 = .slice A U.length c := hF 17 20 rfl
  have f18 : f 18 = .int .i64 U.length := hF 18 21 rfl
  have f19 : f 19 = .bool true := hF 19 22 rfl
  have f20 : f 20 = .bool true := hF 20 23 rfl
  have f21 : f 21 = .pointer (some ⟨w.heap.size, 2, none⟩) := hF 21 24 rfl
  have f22 : f 22 = .slice B D.length d := hF 22 25 rfl
  have f23 : f 23 = .int .i64 D.length := hF 23 26 rfl
  have f24 : f 24 = .bool false := hF 24 27 rfl
  have f25 : f 25 = .bool false := hF 25 28 rfl
  have f26 : f 26 = .bool false := hF 26 29 rfl
  have f27 : f 27 = undef := hF 27 30 rfl
  have f28 : f 28 = undef := hF 28 31 rfl
  have f29 : f 29 = undef := hF 29 32 rfl
  have f30 : f 30 = undef := hF 30 33 rfl
  have f31 : f 31 = undef := hF 31 34 rfl
  have f32 : f 32 = undef := hF 32 35 rfl
  have f33 : f 33 = undef := hF 33 36 rfl
  have f34 : f 34 = undef := hF 34 37 rfl
  have f35 : f 35 = undef := hF 35 38 rfl
  have f36 : f 36 = .bool false := hF 36 39 rfl
  have f37 : f 37 = .bool false := hF 37 40 rfl
  clear hF
  simp only [puts, Act.put, List.setIfInBounds_toArray, List.set_cons_succ, List.set_cons_zero, Nat.zero_add, Nat.reduceAdd, f0, f1, f2, f3, f4, f5, f6, f7, f8, f9, f10, f11, f12, f13, f14, f15, f16, f17, f18, f19, f20, f21, f22, f23, f24, f25, f26, f27, f28, f29, f30, f31, f32, f33, f34, f35, f36, f37]
  clear f0 f1 f2 f3 f4 f5 f6 f7 f8 f9 f10 f11 f12 f13 f14 f15 f16 f17 f18 f19 f20 f21 f22 f23 f24 f25 f26 f27 f28 f29 f30 f31 f32 f33 f34 f35 f36 f37 f
  go_wp2_with fail
  go_ret
  exact ⟨rfl, Ext.trans x0 hwq⟩

set_option maxHeartbeats 2000000 in
theorem check_eq (K : Int) (A : Option Addr) (c : Nat) (U : List (List UInt8)) (B : Option Addr) (d : Nat) (D : List (List UInt8)) (w : World) (hA : Ds w A c U) (hB : Ds w B d D)
    (hu : U.length ≤ 3000000000000) (hd : D.length ≤ 3000000000000) (hk : 0 ≤ K) (hU : U.Nodup) (hD : D.Nodup) (h1 : 0 < U.length) (h2 : 0 < D.length) (hq : U[0] = D[0]) :
    Calls Try.prog 17 #[.agg #[.int .i64 K, .slice A U.length c, .slice B D.length d]] w fun e w' => e = .returned (.int .i64 (2)) ∧ Ext w w' := by
  have HU := Lib.hid (decide_eq_true hU)
  clear hU
  have HD := Lib.hid (decide_eq_true hD)
  clear hD
  go_enter Try.func17, Try.ntmps17
  go_wp2_with fail
  have h0 := heap_alloc_new w (.cells #[.int .i64 K, .slice A U.length c, .slice B D.length d] 25)
  have x0 : Ext w (w.alloc (Obj.cells #[.int .i64 K, .slice A U.length c, .slice B D.length d] 25)) := (Below.refl _ w).alloc (Nat.le_refl _) _
  have hA0 := hA.below x0
  have hB0 := hB.below x0
  generalize w.alloc (Obj.cells #[.int .i64 K, .slice A U.length c, .slice B D.length d] 25) = w0 at *
  have hlt := (Array.getElem?_eq_some_iff.1 h0).1
  have m0 : ∀ u, Ext w0 u → u.cell? ⟨w.heap.size, 0, none⟩ = some (.int .i64 K) := fun u hu => by rw [cell_of_row _ _ _ _ _ _ ((hu.block _ hlt).trans h0)]; rfl
  have m1 : ∀ u, Ext w0 u → u.cell? ⟨w.heap.size, 1, none⟩ = some (.slice A U.length c) := fun u hu => by rw [cell_of_row _ _ _ _ _ _ ((hu.block _ hlt).trans h0)]; rfl
  have m2 : ∀ u, Ext w0 u → u.cell? ⟨w.heap.size, 2, none⟩ = some (.slice B D.length d) := fun u hu => by rw [cell_of_row _ _ _ _ _ _ ((hu.block _ hlt).trans h0)]; rfl
  obtain ⟨b1, o1, rfl, hr1⟩ := hA0.range h1
  obtain ⟨b2, o2, rfl, hr2⟩ := hB0.range h2
  have hr1 := hr1 0 h1
  have hr2 := hr2 0 h2
  rw [Nat.zero_mul, Nat.add_zero] at hr1 hr2
  have hx1 := hA0.ok U[0] (List.getElem_mem h1)
  have hx2 := hB0.ok D[0] (List.getElem_mem h2)
  obtain ⟨x, hxx⟩ : ∃ x, x = U[0] := ⟨_, rfl⟩
  obtain ⟨y, hyy⟩ : ∃ y, y = D[0] := ⟨_, rfl⟩
  rw [← hxx] at hx1 hr1 hq
  rw [← hyy] at hx2 hr2 hq
  have HXX := Lib.hid hxx
  have HYY := Lib.hid hyy
  clear hxx hyy
  have i1 : (Try.prog.info? 49).map (·.size) = some (x.map bc).length := by rw [List.length_map, hx1]; kernel_rfl
  have i2 : (Try.prog.info? 49).map (·.size) = some (y.map bc).length := by rw [List.length_map, hx2]; kernel_rfl
  have heq : ∀ u, (Op.equalIn 10000 49 (.agg (dg x)) (.agg (dg y))).run Try.prog u = .ok (true) u := fun u => by rw [dig_eq hx1 hx2]; simp [hq]
  have e1 : (x.map bc).toArray = dg x := rfl
  have e2 : (y.map bc).toArray = dg y := rfl
  obtain ⟨X, hX⟩ : ∃ X, X = x.map bc := ⟨_, rfl⟩
  obtain ⟨Y, hY⟩ : ∃ Y, Y = y.map bc := ⟨_, rfl⟩
  rw [← e1, ← e2] at heq
  rw [← hX] at i1 hr1 heq
  rw [← hY] at i2 hr2 heq
  have hS1 : ∀ u, Ext w0 u → u.rangeAt b1 o1 X := fun u hu => rangeAt_ext hr1 hu
  have hS2 : ∀ u, Ext w0 u → u.rangeAt b2 o2 Y := fun u hu => rangeAt_ext hr2 hu
  have hu49 := Try.underlying49
  clear e1 e2 hX hY hq hr1 hr2 hx1 hx2
  refine wp_region_lay [Fact.val (.pointer (some ⟨w.heap.size, 0, none⟩)), Fact.val (.int .i64 K), Fact.val (.bool false), Fact.val (.bool false), Fact.val (.pointer (some ⟨w.heap.size, 1, none⟩)), Fact.val (.slice (some ⟨b1, o1, none⟩) U.length c), Fact.val (.bool true), Fact.val (.bool false), Fact.val (.bool false), Fact.val (.bool false), Fact.val (.pointer (some ⟨w.heap.size, 2, none⟩)), Fact.val (.slice (some ⟨b2, o2, none⟩) D.length d), Fact.val (.bool true), Fact.val (.bool false), Fact.val (.bool false), Fact.val (.bool false), Fact.val (.pointer (some ⟨w.heap.size, 1, none⟩)), Fact.val (.slice (some ⟨b1, o1, none⟩) U.length c), Fact.val (.int .i64 U.length), Fact.val (.bool true), Fact.val (.bool true), Fact.val (.pointer (some ⟨w.heap.size, 2, none⟩)), Fact.val (.slice (some ⟨b2, o2, none⟩) D.length d), Fact.val (.int .i64 D.length), Fact.val (.bool true), Fact.val (.bool true), Fact.val (.bool true), Fact.val (.pointer (some ⟨w.heap.size, 1, none⟩)), Fact.val (.slice (some ⟨b1, o1, none⟩) U.length c), Fact.val (.pointer (some ⟨b1, o1, none⟩)), Fact.val (.agg X.toArray), Fact.val (.pointer (some ⟨w.heap.size, 2, none⟩)), Fact.val (.slice (some ⟨b2, o2, none⟩) D.length d), Fact.val (.pointer (some ⟨b2, o2, none⟩)), Fact.val (.agg Y.toArray), Fact.val (.bool true), Fact.val (.bool true), Fact.val (.bool true)] (w0) _ (by kernel_rfl) (by kernel_rfl) (by kernel_rfl) (Ext.refl _) ?_ ?_
  · refine ⟨?_, ?_, ?_, ?_, ?_, ?_, ?_, ?_, ?_, ?_, ?_, ?_, ?_, ?_, ?_, ?_, ?_, ?_, ?_, ?_, ?_, ?_, ?_, ?_, ?_, ?_, ?_, ?_, ?_, ?_, ?_, ?_, ?_, ?_, ?_, ?_, ?_, ?_, trivial⟩
    · intro a u hx hd hr
      rw [if_pos (wanted_none rfl)]
      have e1 : a.eval (.tmp 1) = .pointer (some ⟨w.heap.size, 0, none⟩) := hr 1 rfl
      clear hd hr
      simp only [Act.eval, Array.getD_eq_getD_getElem?] at e1
      exact Y_val (v := .pointer (some ⟨w.heap.size, 0, none⟩)) (by go_simp) rfl
    · intro a u hx hd hr
      rw [if_pos (wanted_none rfl)]
      have e3 : a.eval (.tmp 3) = .pointer (some ⟨w.heap.size, 0, none⟩) := hd 0 3 rfl rfl
      have ec := m0 _ hx
      clear hd hr
      simp only [Act.eval, Array.getD_eq_getD_getElem?] at e3
      exact Y_val (v := .int .i64 K) (by go_simp) rfl
    · intro a u hx hd hr
      rw [if_pos (wanted_none rfl)]
      have e4 : a.eval (.tmp 4) = .int .i64 K := hd 1 4 rfl rfl
      clear hd hr
      simp only [Act.eval, Array.getD_eq_getD_getElem?] at e4
      exact Y_val (v := .bool false) (by go_simp <;> omega) rfl
    · intro a u hx hd hr
      rw [if_pos (wanted_none rfl)]
      have e5 : a.eval (.tmp 5) = .bool false := hd 2 5 rfl rfl
      exact Y_copy (.inl rfl) e5
    · intro a u hx hd hr
      have eg : a.eval (.tmp 6) = .bool false := hd 3 6 rfl rfl
      rw [if_pos (by rw [wanted_some rfl rfl eg]; rfl)]
      have e1 : a.eval (.tmp 1) = .pointer (some ⟨w.heap.size, 0, none⟩) := hr 1 rfl
      clear hd hr
      simp only [Act.eval, Array.getD_eq_getD_getElem?] at e1
      exact Y_val (v := .pointer (some ⟨w.heap.size, 1, none⟩)) (by go_simp) rfl
    · intro a u hx hd hr
      have eg : a.eval (.tmp 6) = .bool false := hd 3 6 rfl rfl
      rw [if_pos (by rw [wanted_some rfl rfl eg]; rfl)]
      have e7 : a.eval (.tmp 7) = .pointer (some ⟨w.heap.size, 1, none⟩) := hd 4 7 rfl rfl
      have ec := m1 _ hx
      clear hd hr
      simp only [Act.eval, Array.getD_eq_getD_getElem?] at e7
      exact Y_val (v := .slice (some ⟨b1, o1, none⟩) U.length c) (by go_simp) rfl
    · intro a u hx hd hr
      have eg : a.eval (.tmp 6) = .bool false := hd 3 6 rfl rfl
      rw [if_pos (by rw [wanted_some rfl rfl eg]; rfl)]
      have e8 : a.eval (.tmp 8) = .slice (some ⟨b1, o1, none⟩) U.length c := hd 5 8 rfl rfl
      clear hd hr
      refine Y_calls (f := 24) (args := #[(a.eval (.tmp 8))]) (by go_simp) ?_
      rw [e8]
      exact (once_any _ c U _ (hA0.below hx) hu).mono fun e u2 k => ⟨_, k.1.trans (by rw [HU.out]), rfl, k.2⟩
    · intro a u hx hd hr
      have eg : a.eval (.tmp 6) = .bool false := hd 3 6 rfl rfl
      rw [if_pos (by rw [wanted_some rfl rfl eg]; rfl)]
      have e9 : a.eval (.tmp 9) = .bool true := hd 6 9 rfl rfl
      clear hd hr
      simp only [Act.eval, Array.getD_eq_getD_getElem?] at e9
      exact Y_val (v := .bool false) (by go_simp) rfl
    · intro a u hx hd hr
      rw [if_pos (wanted_none rfl)]
      have e6 : a.eval (.tmp 6) = .bool false := hd 3 6 rfl rfl
      have e10 : a.eval (.tmp 10) = .bool false := hd 7 10 rfl rfl
      exact Y_pick rfl e6 e10
    · intro a u hx hd hr
      rw [if_pos (wanted_none rfl)]
      have e11 : a.eval (.tmp 11) = .bool false := hd 8 11 rfl rfl
      exact Y_copy (.inl rfl) e11
    · intro a u hx hd hr
      have eg : a.eval (.tmp 12) = .bool false := hd 9 12 rfl rfl
      rw [if_pos (by rw [wanted_some rfl rfl eg]; rfl)]
      have e1 : a.eval (.tmp 1) = .pointer (some ⟨w.heap.size, 0, none⟩) := hr 1 rfl
      clear hd hr
      simp only [Act.eval, Array.getD_eq_getD_getElem?] at e1
      exact Y_val (v := .pointer (some ⟨w.heap.size, 2, none⟩)) (by go_simp) rfl
    · intro a u hx hd hr
      have eg : a.eval (.tmp 12) = .bool false := hd 9 12 rfl rfl
      rw [if_pos (by rw [wanted_some rfl rfl eg]; rfl)]
      have e13 : a.eval (.tmp 13) = .pointer (some ⟨w.heap.size, 2, none⟩) := hd 10 13 rfl rfl
      have ec := m2 _ hx
      clear hd hr
      simp only [Act.eval, Array.getD_eq_getD_getElem?] at e13
      exact Y_val (v := .slice (some ⟨b2, o2, none⟩) D.length d) (by go_simp) rfl
    · intro a u hx hd hr
      have eg : a.eval (.tmp 12) = .bool false := hd 9 12 rfl rfl
      rw [if_pos (by rw [wanted_some rfl rfl eg]; rfl)]
      have e14 : a.eval (.tmp 14) = .slice (some ⟨b2, o2, none⟩) D.length d := hd 11 14 rfl rfl
      clear hd hr
      refine Y_calls (f := 24) (args := #[(a.eval (.tmp 14))]) (by go_simp) ?_
      rw [e14]
      exact (once_any _ d D _ (hB0.below hx) hd).mono fun e u2 k => ⟨_, k.1.trans (by rw [HD.out]), rfl, k.2⟩
    · intro a u hx hd hr
      have eg : a.eval (.tmp 12) = .bool false := hd 9 12 rfl rfl
      rw [if_pos (by rw [wanted_some rfl rfl eg]; rfl)]
      have e15 : a.eval (.tmp 15) = .bool true := hd 12 15 rfl rfl
      clear hd hr
      simp only [Act.eval, Array.getD_eq_getD_getElem?] at e15
      exact Y_val (v := .bool false) (by go_simp) rfl
    · intro a u hx hd hr
      rw [if_pos (wanted_none rfl)]
      have e12 : a.eval (.tmp 12) = .bool false := hd 9 12 rfl rfl
      have e16 : a.eval (.tmp 16) = .bool false := hd 13 16 rfl rfl
      exact Y_pick rfl e12 e16
    · intro a u hx hd hr
      rw [if_pos (wanted_none rfl)]
      have e17 : a.eval (.tmp 17) = .bool false := hd 14 17 rfl rfl
      exact Y_copy (.inl rfl) e17
    · intro a u hx hd hr
      have eg : a.eval (.tmp 18) = .bool false := hd 15 18 rfl rfl
      rw [if_pos (by rw [wanted_some rfl rfl eg]; rfl)]
      have e1 : a.eval (.tmp 1) = .pointer (some ⟨w.heap.size, 0, none⟩) := hr 1 rfl
      clear hd hr
      simp only [Act.eval, Array.getD_eq_getD_getElem?] at e1
      exact Y_val (v := .pointer (some ⟨w.heap.size, 1, none⟩)) (by go_simp) rfl
    · intro a u hx hd hr
      have eg : a.eval (.tmp 18) = .bool false := hd 15 18 rfl rfl
      rw [if_pos (by rw [wanted_some rfl rfl eg]; rfl)]
      have e19 : a.eval (.tmp 19) = .pointer (some ⟨w.heap.size, 1, none⟩) := hd 16 19 rfl rfl
      have ec := m1 _ hx
      clear hd hr
      simp only [Act.eval, Array.getD_eq_getD_getElem?] at e19
      exact Y_val (v := .slice (some ⟨b1, o1, none⟩) U.length c) (by go_simp) rfl
    · intro a u hx hd hr
      have eg : a.eval (.tmp 18) = .bool false := hd 15 18 rfl rfl
      rw [if_pos (by rw [wanted_some rfl rfl eg]; rfl)]
      have e20 : a.eval (.tmp 20) = .slice (some ⟨b1, o1, none⟩) U.length c := hd 17 20 rfl rfl
      clear hd hr
      simp only [Act.eval, Array.getD_eq_getD_getElem?] at e20
      exact Y_val (v := .int .i64 U.length) (by go_simp) rfl
    · intro a u hx hd hr
      have eg : a.eval (.tmp 18) = .bool false := hd 15 18 rfl rfl
      rw [if_pos (by rw [wanted_some rfl rfl eg]; rfl)]
      have e21 : a.eval (.tmp 21) = .int .i64 U.length := hd 18 21 rfl rfl
      clear hd hr
      simp only [Act.eval, Array.getD_eq_getD_getElem?] at e21
      exact Y_val (v := .bool true) (by go_simp <;> omega) rfl
    · intro a u hx hd hr
      have eg : a.eval (.tmp 18) = .bool false := hd 15 18 rfl rfl
      rw [if_pos (by rw [wanted_some rfl rfl eg]; rfl)]
      have e22 : a.eval (.tmp 22) = .bool true := hd 19 22 rfl rfl
      exact Y_copy (.inl rfl) e22
    · intro a u hx hd hr
      have eg : a.eval (.tmp 23) = .bool true := hd 20 23 rfl rfl
      rw [if_pos (by rw [wanted_some rfl rfl eg]; rfl)]
      have e1 : a.eval (.tmp 1) = .pointer (some ⟨w.heap.size, 0, none⟩) := hr 1 rfl
      clear hd hr
      simp only [Act.eval, Array.getD_eq_getD_getElem?] at e1
      exact Y_val (v := .pointer (some ⟨w.heap.size, 2, none⟩)) (by go_simp) rfl
    · intro a u hx hd hr
      have eg : a.eval (.tmp 23) = .bool true := hd 20 23 rfl rfl
      rw [if_pos (by rw [wanted_some rfl rfl eg]; rfl)]
      have e24 : a.eval (.tmp 24) = .pointer (some ⟨w.heap.size, 2, none⟩) := hd 21 24 rfl rfl
      have ec := m2 _ hx
      clear hd hr
      simp only [Act.eval, Array.getD_eq_getD_getElem?] at e24
      exact Y_val (v := .slice (some ⟨b2, o2, none⟩) D.length d) (by go_simp) rfl
    · intro a u hx hd hr
      have eg : a.eval (.tmp 23) = .bool true := hd 20 23 rfl rfl
      rw [if_pos (by rw [wanted_some rfl rfl eg]; rfl)]
      have e25 : a.eval (.tmp 25) = .slice (some ⟨b2, o2, none⟩) D.length d := hd 22 25 rfl rfl
      clear hd hr
      simp only [Act.eval, Array.getD_eq_getD_getElem?] at e25
      exact Y_val (v := .int .i64 D.length) (by go_simp) rfl
    · intro a u hx hd hr
      have eg : a.eval (.tmp 23) = .bool true := hd 20 23 rfl rfl
      rw [if_pos (by rw [wanted_some rfl rfl eg]; rfl)]
      have e26 : a.eval (.tmp 26) = .int .i64 D.length := hd 23 26 rfl rfl
      clear hd hr
      simp only [Act.eval, Array.getD_eq_getD_getElem?] at e26
      exact Y_val (v := .bool true) (by go_simp <;> omega) rfl
    · intro a u hx hd hr
      have eg : a.eval (.tmp 18) = .bool false := hd 15 18 rfl rfl
      rw [if_pos (by rw [wanted_some rfl rfl eg]; rfl)]
      have e23 : a.eval (.tmp 23) = .bool true := hd 20 23 rfl rfl
      have e27 : a.eval (.tmp 27) = .bool true := hd 24 27 rfl rfl
      exact Y_pick rfl e23 e27
    · intro a u hx hd hr
      have eg : a.eval (.tmp 18) = .bool false := hd 15 18 rfl rfl
      rw [if_pos (by rw [wanted_some rfl rfl eg]; rfl)]
      have e28 : a.eval (.tmp 28) = .bool true := hd 25 28 rfl rfl
      exact Y_copy (.inl rfl) e28
    · intro a u hx hd hr
      have eg : a.eval (.tmp 29) = .bool true := hd 26 29 rfl rfl
      rw [if_pos (by rw [wanted_some rfl rfl eg]; rfl)]
      have e1 : a.eval (.tmp 1) = .pointer (some ⟨w.heap.size, 0, none⟩) := hr 1 rfl
      clear hd hr
      simp only [Act.eval, Array.getD_eq_getD_getElem?] at e1
      exact Y_val (v := .pointer (some ⟨w.heap.size, 1, none⟩)) (by go_simp) rfl
    · intro a u hx hd hr
      have eg : a.eval (.tmp 29) = .bool true := hd 26 29 rfl rfl
      rw [if_pos (by rw [wanted_some rfl rfl eg]; rfl)]
      have e30 : a.eval (.tmp 30) = .pointer (some ⟨w.heap.size, 1, none⟩) := hd 27 30 rfl rfl
      have ec := m1 _ hx
      clear hd hr
      simp only [Act.eval, Array.getD_eq_getD_getElem?] at e30
      exact Y_val (v := .slice (some ⟨b1, o1, none⟩) U.length c) (by go_simp) rfl
    · intro a u hx hd hr
      have eg : a.eval (.tmp 29) = .bool true := hd 26 29 rfl rfl
      rw [if_pos (by rw [wanted_some rfl rfl eg]; rfl)]
      have e31 : a.eval (.tmp 31) = .slice (some ⟨b1, o1, none⟩) U.length c := hd 28 31 rfl rfl
      clear hd hr
      simp only [Act.eval, Array.getD_eq_getD_getElem?] at e31
      exact Y_val (v := .pointer (some ⟨b1, o1, none⟩)) (by go_simp) rfl
    · intro a u hx hd hr
      have eg : a.eval (.tmp 29) = .bool true := hd 26 29 rfl rfl
      rw [if_pos (by rw [wanted_some rfl rfl eg]; rfl)]
      have e32 : a.eval (.tmp 32) = .pointer (some ⟨b1, o1, none⟩) := hd 29 32 rfl rfl
      exact Y_load_mid 49 (.tmp 32) rfl b1 o1 e32 X _ (hS1 _ hx) hu49 rfl i1 rfl
    · intro a u hx hd hr
      have eg : a.eval (.tmp 29) = .bool true := hd 26 29 rfl rfl
      rw [if_pos (by rw [wanted_some rfl rfl eg]; rfl)]
      have e1 : a.eval (.tmp 1) = .pointer (some ⟨w.heap.size, 0, none⟩) := hr 1 rfl
      clear hd hr
      simp only [Act.eval, Array.getD_eq_getD_getElem?] at e1
      exact Y_val (v := .pointer (some ⟨w.heap.size, 2, none⟩)) (by go_simp) rfl
    · intro a u hx hd hr
      have eg : a.eval (.tmp 29) = .bool true := hd 26 29 rfl rfl
      rw [if_pos (by rw [wanted_some rfl rfl eg]; rfl)]
      have e34 : a.eval (.tmp 34) = .pointer (some ⟨w.heap.size, 2, none⟩) := hd 31 34 rfl rfl
      have ec := m2 _ hx
      clear hd hr
      simp only [Act.eval, Array.getD_eq_getD_getElem?] at e34
      exact Y_val (v := .slice (some ⟨b2, o2, none⟩) D.length d) (by go_simp) rfl
    · intro a u hx hd hr
      have eg : a.eval (.tmp 29) = .bool true := hd 26 29 rfl rfl
      rw [if_pos (by rw [wanted_some rfl rfl eg]; rfl)]
      have e35 : a.eval (.tmp 35) = .slice (some ⟨b2, o2, none⟩) D.length d := hd 32 35 rfl rfl
      clear hd hr
      simp only [Act.eval, Array.getD_eq_getD_getElem?] at e35
      exact Y_val (v := .pointer (some ⟨b2, o2, none⟩)) (by go_simp) rfl
    · intro a u hx hd hr
      have eg : a.eval (.tmp 29) = .bool true := hd 26 29 rfl rfl
      rw [if_pos (by rw [wanted_some rfl rfl eg]; rfl)]
      have e36 : a.eval (.tmp 36) = .pointer (some ⟨b2, o2, none⟩) := hd 33 36 rfl rfl
      exact Y_load_mid 49 (.tmp 36) rfl b2 o2 e36 Y _ (hS2 _ hx) hu49 rfl i2 rfl
    · intro a u hx hd hr
      have eg : a.eval (.tmp 29) = .bool true := hd 26 29 rfl rfl
      rw [if_pos (by rw [wanted_some rfl rfl eg]; rfl)]
      have e33 : a.eval (.tmp 33) = .agg X.toArray := hd 30 33 rfl rfl
      have e37 : a.eval (.tmp 37) = .agg Y.toArray := hd 34 37 rfl rfl
      clear hd hr
      simp only [Act.eval, Array.getD_eq_getD_getElem?] at e33 e37
      exact Y_val (v := .bool true) (by go_simp) rfl
    · intro a u hx hd hr
      have eg : a.eval (.tmp 18) = .bool false := hd 15 18 rfl rfl
      rw [if_pos (by rw [wanted_some rfl rfl eg]; rfl)]
      have e29 : a.eval (.tmp 29) = .bool true := hd 26 29 rfl rfl
      have e38 : a.eval (.tmp 38) = .bool true := hd 35 38 rfl rfl
      exact Y_pick rfl e29 e38
    · intro a u hx hd hr
      rw [if_pos (wanted_none rfl)]
      have e18 : a.eval (.tmp 18) = .bool false := hd 15 18 rfl rfl
      have e39 : a.eval (.tmp 39) = .bool true := hd 36 39 rfl rfl
      exact Y_pick rfl e18 e39
  intro f wq hwq hF
  have f0 : f 0 = .pointer (some ⟨w.heap.size, 0, none⟩) := hF 0 3 rfl
  have f1 : f 1 = .int .i64 K := hF 1 4 rfl
  have f2 : f 2 = .bool false := hF 2 5 rfl
  have f3 : f 3 = .bool false := hF 3 6 rfl
  have f4 : f 4 = .pointer (some ⟨w.heap.size, 1, none⟩) := hF 4 7 rfl
  have f5 : f 5 = .slice (some ⟨b1, o1, none⟩) U.length c := hF 5 8 rfl
  have f6 : f 6 = .bool true := hF 6 9 rfl
  have f7 : f 7 = .bool false := hF 7 10 rfl
  have f8 : f 8 = .bool false := hF 8 11 rfl
  have f9 : f 9 = .bool false := hF 9 12 rfl
  have f10 : f 10 = .pointer (some ⟨w.heap.size, 2, none⟩) := hF 10 13 rfl
  have f11 : f 11 = .slice (some ⟨b2, o2, none⟩) D.length d := hF 11 14 rfl
  have f12 : f 12 = .bool true := hF 12 15 rfl
  have f13 : f 13 = .bool false := hF 13 16 rfl
  have f14 : f 14 = .bool false := hF 14 17 rfl
  have f15 : f 15 = .bool false := hF 15 18 rfl
  have f16 : f 16 = .pointer (some ⟨w.heap.size, 1, none⟩) := hF 16 19 rfl
  have f17 : f 17 = .slice (some ⟨b1, o1, none⟩) U.length c := hF 17 20 rfl
  have f18 : f 18 = .int .i64 U.length := hF 18 21 rfl
  have f19 : f 19 = .bool true := hF 19 22 rfl
  have f20 : f 20 = .bool true := hF 20 23 rfl
  have f21 : f 21 = .pointer (some ⟨w.heap.size, 2, none⟩) := hF 21 24 rfl
  have f22 : f 22 = .slice (some ⟨b2, o2, none⟩) D.length d := hF 22 25 rfl
  have f23 : f 23 = .int .i64 D.length := hF 23 26 rfl
  have f24 : f 24 = .bool true := hF 24 27 rfl
  have f25 : f 25 = .bool true := hF 25 28 rfl
  have f26 : f 26 = .bool true := hF 26 29 rfl
  have f27 : f 27 = .pointer (some ⟨w.heap.size, 1, none⟩) := hF 27 30 rfl
  have f28 : f 28 = .slice (some ⟨b1, o1, none⟩) U.length c := hF 28 31 rfl
  have f29 : f 29 = .pointer (some ⟨b1, o1, none⟩) := hF 29 32 rfl
  have f30 : f 30 = .agg X.toArray := hF 30 33 rfl
  have f31 : f 31 = .pointer (some ⟨w.heap.size, 2, none⟩) := hF 31 34 rfl
  have f32 : f 32 = .slice (some ⟨b2, o2, none⟩) D.length d := hF 32 35 rfl
  have f33 : f 33 = .pointer (some ⟨b2, o2, none⟩) := hF 33 36 rfl
  have f34 : f 34 = .agg Y.toArray := hF 34 37 rfl
  have f35 : f 35 = .bool true := hF 35 38 rfl
  have f36 : f 36 = .bool true := hF 36 39 rfl
  have f37 : f 37 = .bool true := hF 37 40 rfl
  clear hF
  simp only [puts, Act.put, List.setIfInBounds_toArray, List.set_cons_succ, List.set_cons_zero, Nat.zero_add, Nat.reduceAdd, f0, f1, f2, f3, f4, f5, f6, f7, f8, f9, f10, f11, f12, f13, f14, f15, f16, f17, f18, f19, f20, f21, f22, f23, f24, f25, f26, f27, f28, f29, f30, f31, f32, f33, f34, f35, f36, f37]
  clear f0 f1 f2 f3 f4 f5 f6 f7 f8 f9 f10 f11 f12 f13 f14 f15 f16 f17 f18 f19 f20 f21 f22 f23 f24 f25 f26 f27 f28 f29 f30 f31 f32 f33 f34 f35 f36 f37 f
  go_wp2_with fail
  go_ret
  exact ⟨rfl, Ext.trans x0 hwq⟩

set_option maxHeartbeats 2000000 in
theorem check_ne (K : Int) (A : Option Addr) (c : Nat) (U : List (List UInt8)) (B : Option Addr) (d : Nat) (D : List (List UInt8)) (w : World) (hA : Ds w A c U) (hB : Ds w B d D)
    (hu : U.length ≤ 3000000000000) (hd : D.length ≤ 3000000000000) (hk : 0 ≤ K) (hU : U.Nodup) (hD : D.Nodup) (h1 : 0 < U.length) (h2 : 0 < D.length) (hq : U[0] ≠ D[0]) :
    Calls Try.prog 17 #[.agg #[.int .i64 K, .slice A U.length c, .slice B D.length d]] w fun e w' => e = .returned (.int .i64 (0)) ∧ Ext w w' := by
  have HU := Lib.hid (decide_eq_true hU)
  clear hU
  have HD := Lib.hid (decide_eq_true hD)
  clear hD
  go_enter Try.func17, Try.ntmps17
  go_wp2_with fail
  have h0 := heap_alloc_new w (.cells #[.int .i64 K, .slice A U.length c, .slice B D.length d] 25)
  have x0 : Ext w (w.alloc (Obj.cells #[.int .i64 K, .slice A U.length c, .slice B D.length d] 25)) := (Below.refl _ w).alloc (Nat.le_refl _) _
  have hA0 := hA.below x0
  have hB0 := hB.below x0
  generalize w.alloc (Obj.cells #[.int .i64 K, .slice A U.length c, .slice B D.length d] 25) = w0 at *
  have hlt := (Array.getElem?_eq_some_iff.1 h0).1
  have m0 : ∀ u, Ext w0 u → u.cell? ⟨w.heap.size, 0, none⟩ = some (.int .i64 K) := fun u hu => by rw [cell_of_row _ _ _ _ _ _ ((hu.block _ hlt).trans h0)]; rfl
  have m1 : ∀ u, Ext w0 u → u.cell? ⟨w.heap.size, 1, none⟩ = some (.slice A U.length c) := fun u hu => by rw [cell_of_row _ _ _ _ _ _ ((hu.block _ hlt).trans h0)]; rfl
  have m2 : ∀ u, Ext w0 u → u.cell? ⟨w.heap.size, 2, none⟩ = some (.slice B D.length d) := fun u hu => by rw [cell_of_row _ _ _ _ _ _ ((hu.block _ hlt).trans h0)]; rfl
  obtain ⟨b1, o1, rfl, hr1⟩ := hA0.range h1
  obtain ⟨b2, o2, rfl, hr2⟩ := hB0.range h2
  have hr1 := hr1 0 h1
  have hr2 := hr2 0 h2
  rw [Nat.zero_mul, Nat.add_zero] at hr1 hr2
  have hx1 := hA0.ok U[0] (List.getElem_mem h1)
  have hx2 := hB0.ok D[0] (List.getElem_mem h2)
  obtain ⟨x, hxx⟩ : ∃ x, x = U[0] := ⟨_, rfl⟩
  obtain ⟨y, hyy⟩ : ∃ y, y = D[0] := ⟨_, rfl⟩
  rw [← hxx] at hx1 hr1 hq
  rw [← hyy] at hx2 hr2 hq
  have HXX := Lib.hid hxx
  have HYY := Lib.hid hyy
  clear hxx hyy
  have i1 : (Try.prog.info? 49).map (·.size) = some (x.map bc).length := by rw [List.length_map, hx1]; kernel_rfl
  have i2 : (Try.prog.info? 49).map (·.size) = some (y.map bc).length := by rw [List.length_map, hx2]; kernel_rfl
  have heq : ∀ u, (Op.equalIn 10000 49 (.agg (dg x)) (.agg (dg y))).run Try.prog u = .ok (false) u := fun u => by rw [dig_eq hx1 hx2]; simp [hq]
  have e1 : (x.map bc).toArray = dg x := rfl
  have e2 : (y.map bc).toArray = dg y := rfl
  obtain ⟨X, hX⟩ : ∃ X, X = x.map bc := ⟨_, rfl⟩
  obtain ⟨Y, hY⟩ : ∃ Y, Y = y.map bc := ⟨_, rfl⟩
  rw [← e1, ← e2] at heq
  rw [← hX] at i1 hr1 heq
  rw [← hY] at i2 hr2 heq
  have hS1 : ∀ u, Ext w0 u → u.rangeAt b1 o1 X := fun u hu => rangeAt_ext hr1 hu
  have hS2 : ∀ u, Ext w0 u → u.rangeAt b2 o2 Y := fun u hu => rangeAt_ext hr2 hu
  have hu49 := Try.underlying49
  clear e1 e2 hX hY hq hr1 hr2 hx1 hx2
  refine wp_region_lay [Fact.val (.pointer (some ⟨w.heap.size, 0, none⟩)), Fact.val (.int .i64 K), Fact.val (.bool false), Fact.val (.bool false), Fact.val (.pointer (some ⟨w.heap.size, 1, none⟩)), Fact.val (.slice (some ⟨b1, o1, none⟩) U.length c), Fact.val (.bool true), Fact.val (.bool false), Fact.val (.bool false), Fact.val (.bool false), Fact.val (.pointer (some ⟨w.heap.size, 2, none⟩)), Fact.val (.slice (some ⟨b2, o2, none⟩) D.length d), Fact.val (.bool true), Fact.val (.bool false), Fact.val (.bool false), Fact.val (.bool false), Fact.val (.pointer (some ⟨w.heap.size, 1, none⟩)), Fact.val (.slice (some ⟨b1, o1, none⟩) U.length c), Fact.val (.int .i64 U.length), Fact.val (.bool true), Fact.val (.bool true), Fact.val (.pointer (some ⟨w.heap.size, 2, none⟩)), Fact.val (.slice (some ⟨b2, o2, none⟩) D.length d), Fact.val (.int .i64 D.length), Fact.val (.bool true), Fact.val (.bool true), Fact.val (.bool true), Fact.val (.pointer (some ⟨w.heap.size, 1, none⟩)), Fact.val (.slice (some ⟨b1, o1, none⟩) U.length c), Fact.val (.pointer (some ⟨b1, o1, none⟩)), Fact.val (.agg X.toArray), Fact.val (.pointer (some ⟨w.heap.size, 2, none⟩)), Fact.val (.slice (some ⟨b2, o2, none⟩) D.length d), Fact.val (.pointer (some ⟨b2, o2, none⟩)), Fact.val (.agg Y.toArray), Fact.val (.bool false), Fact.val (.bool false), Fact.val (.bool false)] (w0) _ (by kernel_rfl) (by kernel_rfl) (by kernel_rfl) (Ext.refl _) ?_ ?_
  · refine ⟨?_, ?_, ?_, ?_, ?_, ?_, ?_, ?_, ?_, ?_, ?_, ?_, ?_, ?_, ?_, ?_, ?_, ?_, ?_, ?_, ?_, ?_, ?_, ?_, ?_, ?_, ?_, ?_, ?_, ?_, ?_, ?_, ?_, ?_, ?_, ?_, ?_, ?_, trivial⟩
    · intro a u hx hd hr
      rw [if_pos (wanted_none rfl)]
      have e1 : a.eval (.tmp 1) = .pointer (some ⟨w.heap.size, 0, none⟩) := hr 1 rfl
      clear hd hr
      simp only [Act.eval, Array.getD_eq_getD_getElem?] at e1
      exact Y_val (v := .pointer (some ⟨w.heap.size, 0, none⟩)) (by go_simp) rfl
    · intro a u hx hd hr
      rw [if_pos (wanted_none rfl)]
      have e3 : a.eval (.tmp 3) = .pointer (some ⟨w.heap.size, 0, none⟩) := hd 0 3 rfl rfl
      have ec := m0 _ hx
      clear hd hr
      simp only [Act.eval, Array.getD_eq_getD_getElem?] at e3
      exact Y_val (v := .int .i64 K) (by go_simp) rfl
    · intro a u hx hd hr
      rw [if_pos (wanted_none rfl)]
      have e4 : a.eval (.tmp 4) = .int .i64 K := hd 1 4 rfl rfl
      clear hd hr
      simp only [Act.eval, Array.getD_eq_getD_getElem?] at e4
      exact Y_val (v := .bool false) (by go_simp <;> omega) rfl
    · intro a u hx hd hr
      rw [if_pos (wanted_none rfl)]
      have e5 : a.eval (.tmp 5) = .bool false := hd 2 5 rfl rfl
      exact Y_copy (.inl rfl) e5
    · intro a u hx hd hr
      have eg : a.eval (.tmp 6) = .bool false := hd 3 6 rfl rfl
      rw [if_pos (by rw [wanted_some rfl rfl eg]; rfl)]
      have e1 : a.eval (.tmp 1) = .pointer (some ⟨w.heap.size, 0, none⟩) := hr 1 rfl
      clear hd hr
      simp only [Act.eval, Array.getD_eq_getD_getElem?] at e1
      exact Y_val (v := .pointer (some ⟨w.heap.size, 1, none⟩)) (by go_simp) rfl
    · intro a u hx hd hr
      have eg : a.eval (.tmp 6) = .bool false := hd 3 6 rfl rfl
      rw [if_pos (by rw [wanted_some rfl rfl eg]; rfl)]
      have e7 : a.eval (.tmp 7) = .pointer (some ⟨w.heap.size, 1, none⟩) := hd 4 7 rfl rfl
      have ec := m1 _ hx
      clear hd hr
      simp only [Act.eval, Array.getD_eq_getD_getElem?] at e7
      exact Y_val (v := .slice (some ⟨b1, o1, none⟩) U.length c) (by go_simp) rfl
    · intro a u hx hd hr
      have eg : a.eval (.tmp 6) = .bool false := hd 3 6 rfl rfl
      rw [if_pos (by rw [wanted_some rfl rfl eg]; rfl)]
      have e8 : a.eval (.tmp 8) = .slice (some ⟨b1, o1, none⟩) U.length c := hd 5 8 rfl rfl
      clear hd hr
      refine Y_calls (f := 24) (args := #[(a.eval (.tmp 8))]) (by go_simp) ?_
      rw [e8]
      exact (once_any _ c U _ (hA0.below hx) hu).mono fun e u2 k => ⟨_, k.1.trans (by rw [HU.out]), rfl, k.2⟩
    · intro a u hx hd hr
      have eg : a.eval (.tmp 6) = .bool false := hd 3 6 rfl rfl
      rw [if_pos (by rw [wanted_some rfl rfl eg]; rfl)]
      have e9 : a.eval (.tmp 9) = .bool true := hd 6 9 rfl rfl
      clear hd hr
      simp only [Act.eval, Array.getD_eq_getD_getElem?] at e9
      exact Y_val (v := .bool false) (by go_simp) rfl
    · intro a u hx hd hr
      rw [if_pos (wanted_none rfl)]
      have e6 : a.eval (.tmp 6) = .bool false := hd 3 6 rfl rfl
      have e10 : a.eval (.tmp 10) = .bool false := hd 7 10 rfl rfl
      exact Y_pick rfl e6 e10
    · intro a u hx hd hr
      rw [if_pos (wanted_none rfl)]
      have e11 : a.eval (.tmp 11) = .bool false := hd 8 11 rfl rfl
      exact Y_copy (.inl rfl) e11
    · intro a u hx hd hr
      have eg : a.eval (.tmp 12) = .bool false := hd 9 12 rfl rfl
      rw [if_pos (by rw [wanted_some rfl rfl eg]; rfl)]
      have e1 : a.eval (.tmp 1) = .pointer (some ⟨w.heap.size, 0, none⟩) := hr 1 rfl
      clear hd hr
      simp only [Act.eval, Array.getD_eq_getD_getElem?] at e1
      exact Y_val (v := .pointer (some ⟨w.heap.size, 2, none⟩)) (by go_simp) rfl
    · intro a u hx hd hr
      have eg : a.eval (.tmp 12) = .bool false := hd 9 12 rfl rfl
      rw [if_pos (by rw [wanted_some rfl rfl eg]; rfl)]
      have e13 : a.eval (.tmp 13) = .pointer (some ⟨w.heap.size, 2, none⟩) := hd 10 13 rfl rfl
      have ec := m2 _ hx
      clear hd hr
      simp only [Act.eval, Array.getD_eq_getD_getElem?] at e13
      exact Y_val (v := .slice (some ⟨b2, o2, none⟩) D.length d) (by go_simp) rfl
    · intro a u hx hd hr
      have eg : a.eval (.tmp 12) = .bool false := hd 9 12 rfl rfl
      rw [if_pos (by rw [wanted_some rfl rfl eg]; rfl)]
      have e14 : a.eval (.tmp 14) = .slice (some ⟨b2, o2, none⟩) D.length d := hd 11 14 rfl rfl
      clear hd hr
      refine Y_calls (f := 24) (args := #[(a.eval (.tmp 14))]) (by go_simp) ?_
      rw [e14]
      exact (once_any _ d D _ (hB0.below hx) hd).mono fun e u2 k => ⟨_, k.1.trans (by rw [HD.out]), rfl, k.2⟩
    · intro a u hx hd hr
      have eg : a.eval (.tmp 12) = .bool false := hd 9 12 rfl rfl
      rw [if_pos (by rw [wanted_some rfl rfl eg]; rfl)]
      have e15 : a.eval (.tmp 15) = .bool true := hd 12 15 rfl rfl
      clear hd hr
      simp only [Act.eval, Array.getD_eq_getD_getElem?] at e15
      exact Y_val (v := .bool false) (by go_simp) rfl
    · intro a u hx hd hr
      rw [if_pos (wanted_none rfl)]
      have e12 : a.eval (.tmp 12) = .bool false := hd 9 12 rfl rfl
      have e16 : a.eval (.tmp 16) = .bool false := hd 13 16 rfl rfl
      exact Y_pick rfl e12 e16
    · intro a u hx hd hr
      rw [if_pos (wanted_none rfl)]
      have e17 : a.eval (.tmp 17) = .bool false := hd 14 17 rfl rfl
      exact Y_copy (.inl rfl) e17
    · intro a u hx hd hr
      have eg : a.eval (.tmp 18) = .bool false := hd 15 18 rfl rfl
      rw [if_pos (by rw [wanted_some rfl rfl eg]; rfl)]
      have e1 : a.eval (.tmp 1) = .pointer (some ⟨w.heap.size, 0, none⟩) := hr 1 rfl
      clear hd hr
      simp only [Act.eval, Array.getD_eq_getD_getElem?] at e1
      exact Y_val (v := .pointer (some ⟨w.heap.size, 1, none⟩)) (by go_simp) rfl
    · intro a u hx hd hr
      have eg : a.eval (.tmp 18) = .bool false := hd 15 18 rfl rfl
      rw [if_pos (by rw [wanted_some rfl rfl eg]; rfl)]
      have e19 : a.eval (.tmp 19) = .pointer (some ⟨w.heap.size, 1, none⟩) := hd 16 19 rfl rfl
      have ec := m1 _ hx
      clear hd hr
      simp only [Act.eval, Array.getD_eq_getD_getElem?] at e19
      exact Y_val (v := .slice (some ⟨b1, o1, none⟩) U.length c) (by go_simp) rfl
    · intro a u hx hd hr
      have eg : a.eval (.tmp 18) = .bool false := hd 15 18 rfl rfl
      rw [if_pos (by rw [wanted_some rfl rfl eg]; rfl)]
      have e20 : a.eval (.tmp 20) = .slice (some ⟨b1, o1, none⟩) U.length c := hd 17 20 rfl rfl
      clear hd hr
      simp only [Act.eval, Array.getD_eq_getD_getElem?] at e20
      exact Y_val (v := .int .i64 U.length) (by go_simp) rfl
    · intro a u hx hd hr
      have eg : a.eval (.tmp 18) = .bool false := hd 15 18 rfl rfl
      rw [if_pos (by rw [wanted_some rfl rfl eg]; rfl)]
      have e21 : a.eval (.tmp 21) = .int .i64 U.length := hd 18 21 rfl rfl
      clear hd hr
      simp only [Act.eval, Array.getD_eq_getD_getElem?] at e21
      exact Y_val (v := .bool true) (by go_simp <;> omega) rfl
    · intro a u hx hd hr
      have eg : a.eval (.tmp 18) = .bool false := hd 15 18 rfl rfl
      rw [if_pos (by rw [wanted_some rfl rfl eg]; rfl)]
      have e22 : a.eval (.tmp 22) = .bool true := hd 19 22 rfl rfl
      exact Y_copy (.inl rfl) e22
    · intro a u hx hd hr
      have eg : a.eval (.tmp 23) = .bool true := hd 20 23 rfl rfl
      rw [if_pos (by rw [wanted_some rfl rfl eg]; rfl)]
      have e1 : a.eval (.tmp 1) = .pointer (some ⟨w.heap.size, 0, none⟩) := hr 1 rfl
      clear hd hr
      simp only [Act.eval, Array.getD_eq_getD_getElem?] at e1
      exact Y_val (v := .pointer (some ⟨w.heap.size, 2, none⟩)) (by go_simp) rfl
    · intro a u hx hd hr
      have eg : a.eval (.tmp 23) = .bool true := hd 20 23 rfl rfl
      rw [if_pos (by rw [wanted_some rfl rfl eg]; rfl)]
      have e24 : a.eval (.tmp 24) = .pointer (some ⟨w.heap.size, 2, none⟩) := hd 21 24 rfl rfl
      have ec := m2 _ hx
      clear hd hr
      simp only [Act.eval, Array.getD_eq_getD_getElem?] at e24
      exact Y_val (v := .slice (some ⟨b2, o2, none⟩) D.length d) (by go_simp) rfl
    · intro a u hx hd hr
      have eg : a.eval (.tmp 23) = .bool true := hd 20 23 rfl rfl
      rw [if_pos (by rw [wanted_some rfl rfl eg]; rfl)]
      have e25 : a.eval (.tmp 25) = .slice (some ⟨b2, o2, none⟩) D.length d := hd 22 25 rfl rfl
      clear hd hr
      simp only [Act.eval, Array.getD_eq_getD_getElem?] at e25
      exact Y_val (v := .int .i64 D.length) (by go_simp) rfl
    · intro a u hx hd hr
      have eg : a.eval (.tmp 23) = .bool true := hd 20 23 rfl rfl
      rw [if_pos (by rw [wanted_some rfl rfl eg]; rfl)]
      have e26 : a.eval (.tmp 26) = .int .i64 D.length := hd 23 26 rfl rfl
      clear hd hr
      simp only [Act.eval, Array.getD_eq_getD_getElem?] at e26
      exact Y_val (v := .bool true) (by go_simp <;> omega) rfl
    · intro a u hx hd hr
      have eg : a.eval (.tmp 18) = .bool false := hd 15 18 rfl rfl
      rw [if_pos (by rw [wanted_some rfl rfl eg]; rfl)]
      have e23 : a.eval (.tmp 23) = .bool true := hd 20 23 rfl rfl
      have e27 : a.eval (.tmp 27) = .bool true := hd 24 27 rfl rfl
      exact Y_pick rfl e23 e27
    · intro a u hx hd hr
      have eg : a.eval (.tmp 18) = .bool false := hd 15 18 rfl rfl
      rw [if_pos (by rw [wanted_some rfl rfl eg]; rfl)]
      have e28 : a.eval (.tmp 28) = .bool true := hd 25 28 rfl rfl
      exact Y_copy (.inl rfl) e28
    · intro a u hx hd hr
      have eg : a.eval (.tmp 29) = .bool true := hd 26 29 rfl rfl
      rw [if_pos (by rw [wanted_some rfl rfl eg]; rfl)]
      have e1 : a.eval (.tmp 1) = .pointer (some ⟨w.heap.size, 0, none⟩) := hr 1 rfl
      clear hd hr
      simp only [Act.eval, Array.getD_eq_getD_getElem?] at e1
      exact Y_val (v := .pointer (some ⟨w.heap.size, 1, none⟩)) (by go_simp) rfl
    · intro a u hx hd hr
      have eg : a.eval (.tmp 29) = .bool true := hd 26 29 rfl rfl
      rw [if_pos (by rw [wanted_some rfl rfl eg]; rfl)]
      have e30 : a.eval (.tmp 30) = .pointer (some ⟨w.heap.size, 1, none⟩) := hd 27 30 rfl rfl
      have ec := m1 _ hx
      clear hd hr
      simp only [Act.eval, Array.getD_eq_getD_getElem?] at e30
      exact Y_val (v := .slice (some ⟨b1, o1, none⟩) U.length c) (by go_simp) rfl
    · intro a u hx hd hr
      have eg : a.eval (.tmp 29) = .bool true := hd 26 29 rfl rfl
      rw [if_pos (by rw [wanted_some rfl rfl eg]; rfl)]
      have e31 : a.eval (.tmp 31) = .slice (some ⟨b1, o1, none⟩) U.length c := hd 28 31 rfl rfl
      clear hd hr
      simp only [Act.eval, Array.getD_eq_getD_getElem?] at e31
      exact Y_val (v := .pointer (some ⟨b1, o1, none⟩)) (by go_simp) rfl
    · intro a u hx hd hr
      have eg : a.eval (.tmp 29) = .bool true := hd 26 29 rfl rfl
      rw [if_pos (by rw [wanted_some rfl rfl eg]; rfl)]
      have e32 : a.eval (.tmp 32) = .pointer (some ⟨b1, o1, none⟩) := hd 29 32 rfl rfl
      exact Y_load_mid 49 (.tmp 32) rfl b1 o1 e32 X _ (hS1 _ hx) hu49 rfl i1 rfl
    · intro a u hx hd hr
      have eg : a.eval (.tmp 29) = .bool true := hd 26 29 rfl rfl
      rw [if_pos (by rw [wanted_some rfl rfl eg]; rfl)]
      have e1 : a.eval (.tmp 1) = .pointer (some ⟨w.heap.size, 0, none⟩) := hr 1 rfl
      clear hd hr
      simp only [Act.eval, Array.getD_eq_getD_getElem?] at e1
      exact Y_val (v := .pointer (some ⟨w.heap.size, 2, none⟩)) (by go_simp) rfl
    · intro a u hx hd hr
      have eg : a.eval (.tmp 29) = .bool true := hd 26 29 rfl rfl
      rw [if_pos (by rw [wanted_some rfl rfl eg]; rfl)]
      have e34 : a.eval (.tmp 34) = .pointer (some ⟨w.heap.size, 2, none⟩) := hd 31 34 rfl rfl
      have ec := m2 _ hx
      clear hd hr
      simp only [Act.eval, Array.getD_eq_getD_getElem?] at e34
      exact Y_val (v := .slice (some ⟨b2, o2, none⟩) D.length d) (by go_simp) rfl
    · intro a u hx hd hr
      have eg : a.eval (.tmp 29) = .bool true := hd 26 29 rfl rfl
      rw [if_pos (by rw [wanted_some rfl rfl eg]; rfl)]
      have e35 : a.eval (.tmp 35) = .slice (some ⟨b2, o2, none⟩) D.length d := hd 32 35 rfl rfl
      clear hd hr
      simp only [Act.eval, Array.getD_eq_getD_getElem?] at e35
      exact Y_val (v := .pointer (some ⟨b2, o2, none⟩)) (by go_simp) rfl
    · intro a u hx hd hr
      have eg : a.eval (.tmp 29) = .bool true := hd 26 29 rfl rfl
      rw [if_pos (by rw [wanted_some rfl rfl eg]; rfl)]
      have e36 : a.eval (.tmp 36) = .pointer (some ⟨b2, o2, none⟩) := hd 33 36 rfl rfl
      exact Y_load_mid 49 (.tmp 36) rfl b2 o2 e36 Y _ (hS2 _ hx) hu49 rfl i2 rfl
    · intro a u hx hd hr
      have eg : a.eval (.tmp 29) = .bool true := hd 26 29 rfl rfl
      rw [if_pos (by rw [wanted_some rfl rfl eg]; rfl)]
      have e33 : a.eval (.tmp 33) = .agg X.toArray := hd 30 33 rfl rfl
      have e37 : a.eval (.tmp 37) = .agg Y.toArray := hd 34 37 rfl rfl
      clear hd hr
      simp only [Act.eval, Array.getD_eq_getD_getElem?] at e33 e37
      exact Y_val (v := .bool false) (by go_simp) rfl
    · intro a u hx hd hr
      have eg : a.eval (.tmp 18) = .bool false := hd 15 18 rfl rfl
      rw [if_pos (by rw [wanted_some rfl rfl eg]; rfl)]
      have e29 : a.eval (.tmp 29) = .bool true := hd 26 29 rfl rfl
      have e38 : a.eval (.tmp 38) = .bool false := hd 35 38 rfl rfl
      exact Y_pick rfl e29 e38
    · intro a u hx hd hr
      rw [if_pos (wanted_none rfl)]
      have e18 : a.eval (.tmp 18) = .bool false := hd 15 18 rfl rfl
      have e39 : a.eval (.tmp 39) = .bool false := hd 36 39 rfl rfl
      exact Y_pick rfl e18 e39
  intro f wq hwq hF
  have f0 : f 0 = .pointer (some ⟨w.heap.size, 0, none⟩) := hF 0 3 rfl
  have f1 : f 1 = .int .i64 K := hF 1 4 rfl
  have f2 : f 2 = .bool false := hF 2 5 rfl
  have f3 : f 3 = .bool false := hF 3 6 rfl
  have f4 : f 4 = .pointer (some ⟨w.heap.size, 1, none⟩) := hF 4 7 rfl
  have f5 : f 5 = .slice (some ⟨b1, o1, none⟩) U.length c := hF 5 8 rfl
  have f6 : f 6 = .bool true := hF 6 9 rfl
  have f7 : f 7 = .bool false := hF 7 10 rfl
  have f8 : f 8 = .bool false := hF 8 11 rfl
  have f9 : f 9 = .bool false := hF 9 12 rfl
  have f10 : f 10 = .pointer (some ⟨w.heap.size, 2, none⟩) := hF 10 13 rfl
  have f11 : f 11 = .slice (some ⟨b2, o2, none⟩) D.length d := hF 11 14 rfl
  have f12 : f 12 = .bool true := hF 12 15 rfl
  have f13 : f 13 = .bool false := hF 13 16 rfl
  have f14 : f 14 = .bool false := hF 14 17 rfl
  have f15 : f 15 = .bool false := hF 15 18 rfl
  have f16 : f 16 = .pointer (some ⟨w.heap.size, 1, none⟩) := hF 16 19 rfl
  have f17 : f 17 = .slice (some ⟨b1, o1, none⟩) U.length c := hF 17 20 rfl
  have f18 : f 18 = .int .i64 U.length := hF 18 21 rfl
  have f19 : f 19 = .bool true := hF 19 22 rfl
  have f20 : f 20 = .bool true := hF 20 23 rfl
  have f21 : f 21 = .pointer (some ⟨w.heap.size, 2, none⟩) := hF 21 24 rfl
  have f22 : f 22 = .slice (some ⟨b2, o2, none⟩) D.length d := hF 22 25 rfl
  have f23 : f 23 = .int .i64 D.length := hF 23 26 rfl
  have f24 : f 24 = .bool true := hF 24 27 rfl
  have f25 : f 25 = .bool true := hF 25 28 rfl
  have f26 : f 26 = .bool true := hF 26 29 rfl
  have f27 : f 27 = .pointer (some ⟨w.heap.size, 1, none⟩) := hF 27 30 rfl
  have f28 : f 28 = .slice (some ⟨b1, o1, none⟩) U.length c := hF 28 31 rfl
  have f29 : f 29 = .pointer (some ⟨b1, o1, none⟩) := hF 29 32 rfl
  have f30 : f 30 = .agg X.toArray := hF 30 33 rfl
  have f31 : f 31 = .pointer (some ⟨w.heap.size, 2, none⟩) := hF 31 34 rfl
  have f32 : f 32 = .slice (some ⟨b2, o2, none⟩) D.length d := hF 32 35 rfl
  have f33 : f 33 = .pointer (some ⟨b2, o2, none⟩) := hF 33 36 rfl
  have f34 : f 34 = .agg Y.toArray := hF 34 37 rfl
  have f35 : f 35 = .bool false := hF 35 38 rfl
  have f36 : f 36 = .bool false := hF 36 39 rfl
  have f37 : f 37 = .bool false := hF 37 40 rfl
  clear hF
  simp only [puts, Act.put, List.setIfInBounds_toArray, List.set_cons_succ, List.set_cons_zero, Nat.zero_add, Nat.reduceAdd, f0, f1, f2, f3, f4, f5, f6, f7, f8, f9, f10, f11, f12, f13, f14, f15, f16, f17, f18, f19, f20, f21, f22, f23, f24, f25, f26, f27, f28, f29, f30, f31, f32, f33, f34, f35, f36, f37]
  clear f0 f1 f2 f3 f4 f5 f6 f7 f8 f9 f10 f11 f12 f13 f14 f15 f16 f17 f18 f19 f20 f21 f22 f23 f24 f25 f26 f27 f28 f29 f30 f31 f32 f33 f34 f35 f36 f37 f
  go_wp2_with fail
  go_ret
  exact ⟨rfl, Ext.trans x0 hwq⟩

theorem check_any (v : Value) (P : PV) (w : World) (hv : IsPlan w v P) (hu : P.u.length ≤ 3000000000000) (hd : P.d.length ≤ 3000000000000) :
    Calls Try.prog 17 #[v] w fun e w' => e = .returned (.int .i64 (checkP P)) ∧ Ext w w' := by
  obtain ⟨A, c, B, d, rfl, hA, hB⟩ := hv
  obtain ⟨K, U, D⟩ := P
  unfold checkP
  simp only at *
  by_cases hk : K < 0
  · rw [if_pos (.inl hk)]; exact check_neg K A c U B d D w hA hB hu hd hk
  have hk' : 0 ≤ K := by omega
  by_cases hU : U.Nodup
  · by_cases hD : D.Nodup
    · by_cases h1 : 0 < U.length
      · by_cases h2 : 0 < D.length
        · by_cases hq : U[0] = D[0]
          · rw [if_pos (.inr (.inr (.inr ⟨U[0], by rw [List.head?_eq_getElem?, List.getElem?_eq_getElem h1], by rw [List.head?_eq_getElem?, List.getElem?_eq_getElem h2, hq]⟩)))]
            exact check_eq K A c U B d D w hA hB hu hd hk' hU hD h1 h2 hq
          · rw [if_neg]
            · exact check_ne K A c U B d D w hA hB hu hd hk' hU hD h1 h2 hq
            · rintro (h | h | h | ⟨x, h, k⟩)
              · exact hk h
              · exact h hU
              · exact h hD
              · rw [List.head?_eq_getElem?, List.getElem?_eq_getElem h1] at h
                rw [List.head?_eq_getElem?, List.getElem?_eq_getElem h2] at k
                exact hq ((Option.some.inj h).trans (Option.some.inj k).symm)
        · have h2 : D.length = 0 := by omega
          rw [if_neg]
          · exact check_nod K A c U B d D w hA hB hu hd hk' hU hD h1 h2
          · rintro (h | h | h | ⟨x, h, k⟩)
            · exact hk h
            · exact h hU
            · exact h hD
            · rw [List.eq_nil_of_length_eq_zero h2] at k; simp at k
      · have h1 : U.length = 0 := by omega
        rw [if_neg]
        · exact check_nou K A c U B d D w hA hB hu hd hk' hU hD h1
        · rintro (h | h | h | ⟨x, h, k⟩)
          · exact hk h
          · exact h hU
          · exact h hD
          · rw [List.eq_nil_of_length_eq_zero h1] at h; simp at h
    · rw [if_pos (.inr (.inr (.inl hD)))]; exact check_d K A c U B d D w hA hB hu hd hk' hU hD
  · rw [if_pos (.inr (.inl hU))]; exact check_u K A c U B d D w hA hB hu hd hk' hU
end Go.Proofs.Ytigcfbpgbenabaa
