import Derived.Test.YtigcfbpgbenabaaRgL
namespace Go.Proofs.Ytigcfbpgbenabaa
open Go.RowKit

theorem Ds.take {w : World} {A : Option Addr} {c : Nat} {L : List (List UInt8)} (h : Ds w A c L) {k : Nat} (hk : k ≤ L.length) : Ds w A c (L.take k) := by
  have hle := h.sl.le
  refine ⟨⟨cellsD_length fun d hd => h.ok d (List.mem_of_mem_take hd), by rw [List.length_take]; omega, h.sl.max, fun hA => ?_, fun a ha j u hu => ?_⟩, fun d hd => h.ok d (List.mem_of_mem_take hd)⟩
  · have := h.sl.nul hA
    rw [List.length_take]
    omega
  · rw [cellsD_take k h.ok, List.getElem?_take] at hu
    split at hu
    · exact h.sl.cell a ha j u hu
    · cases hu

/-- where a plan leads -/
def applyP (P : PV) (L : List (List UInt8)) : List (List UInt8) × Int :=
  if checkP P ≠ 0 then ([], checkP P)
  else if (L.length : Int) - (P.u.length : Int) ≠ P.k ∨ L.drop P.k.toNat ≠ P.u then ([], 4)
  else if P.d.any fun x => decide (x ∈ L.take P.k.toNat) then ([], 4)
  else (L.take P.k.toNat ++ P.d, 0)

set_option maxHeartbeats 2000000 in
theorem apply_bad (K : Int) (A : Option Addr) (c : Nat) (U : List (List UInt8)) (B : Option Addr) (d : Nat) (D : List (List UInt8)) (C : Option Addr) (e : Nat) (L : List (List UInt8)) (w : World) (hA : Ds w A c U) (hB : Ds w B d D) (hC : Ds w C e L)
    (hu : U.length ≤ 3000000000000) (hd : D.length ≤ 1000000000000) (hl : L.length ≤ 1000000000000) (hc : checkP ⟨K, U, D⟩ = 2) :
    Calls Try.prog 14 #[.agg #[.int .i64 K, .slice A U.length c, .slice B D.length d], .slice C L.length e] w fun e w' => ∃ v, e = .returned (.tuple #[v, .int .i64 2]) ∧ IsD [] v w' ∧ Ext w w' := by
  have HC := Lib.hid hc
  clear hc
  go_enter Try.func14, Try.ntmps14
  go_wp2_with fail
  have h0 := heap_alloc_new w (.cells #[.int .i64 K, .slice A U.length c, .slice B D.length d] 25)
  have x0 : Ext w (w.alloc (Obj.cells #[.int .i64 K, .slice A U.length c, .slice B D.length d] 25)) := (Below.refl _ w).alloc (Nat.le_refl _) _
  have hA0 := hA.below x0
  have hB0 := hB.below x0
  have hC0 := hC.below x0
  generalize w.alloc (Obj.cells #[.int .i64 K, .slice A U.length c, .slice B D.length d] 25) = w0 at *
  have hlt := (Array.getElem?_eq_some_iff.1 h0).1
  refine (check_any _ ⟨K, U, D⟩ w0 ⟨A, c, B, d, rfl, hA0, hB0⟩ hu (Nat.le_trans hd (by decide))).mono ?_
  rw [HC.out]
  rintro e1 w1 ⟨rfl, x1⟩
  have h1 := (x1.block _ hlt).trans h0
  go_wp2_with fail
  go_ret2
  exact ⟨_, rfl, ⟨none, 0, rfl, Ds.nil _⟩, Ext.trans x0 x1⟩

set_option maxHeartbeats 2000000 in
theorem apply_len (K : Int) (A : Option Addr) (c : Nat) (U : List (List UInt8)) (B : Option Addr) (d : Nat) (D : List (List UInt8)) (C : Option Addr) (e : Nat) (L : List (List UInt8)) (w : World) (hA : Ds w A c U) (hB : Ds w B d D) (hC : Ds w C e L)
    (hu : U.length ≤ 3000000000000) (hd : D.length ≤ 1000000000000) (hl : L.length ≤ 1000000000000) (hc : checkP ⟨K, U, D⟩ = 0) (hn : (L.length : Int) - (U.length : Int) ≠ K) :
    Calls Try.prog 14 #[.agg #[.int .i64 K, .slice A U.length c, .slice B D.length d], .slice C L.length e] w fun e w' => ∃ v, e = .returned (.tuple #[v, .int .i64 4]) ∧ IsD [] v w' ∧ Ext w w' := by
  have HC := Lib.hid hc
  have HN := Lib.hid hn
  have hwr : IntKind.i64.wrap ((L.length : Int) - (U.length : Int)) = (L.length : Int) - (U.length : Int) := by rw [IntKind.wrap_i64]; omega
  clear hc hn
  go_enter Try.func14, Try.ntmps14
  go_wp2_with fail
  have h0 := heap_alloc_new w (.cells #[.int .i64 K, .slice A U.length c, .slice B D.length d] 25)
  have x0 : Ext w (w.alloc (Obj.cells #[.int .i64 K, .slice A U.length c, .slice B D.length d] 25)) := (Below.refl _ w).alloc (Nat.le_refl _) _
  have hA0 := hA.below x0
  have hB0 := hB.below x0
  have hC0 := hC.below x0
  generalize w.alloc (Obj.cells #[.int .i64 K, .slice A U.length c, .slice B D.length d] 25) = w0 at *
  have hlt := (Array.getElem?_eq_some_iff.1 h0).1
  refine (check_any _ ⟨K, U, D⟩ w0 ⟨A, c, B, d, rfl, hA0, hB0⟩ hu (Nat.le_trans hd (by decide))).mono ?_
  rw [HC.out]
  rintro e1 w1 ⟨rfl, x1⟩
  have h1 := (x1.block _ hlt).trans h0
  go_wp2_with fail
  have hlt1 := (Array.getElem?_eq_some_iff.1 h1).1
  have hA1 := hA0.below x1
  have hB1 := hB0.below x1
  have hC1 := hC0.below x1
  have m0 : ∀ u, Ext w1 u → u.cell? ⟨w.heap.size, 0, none⟩ = some (.int .i64 K) := fun u hu => by rw [cell_of_row _ _ _ _ _ _ ((hu.block _ hlt1).trans h1)]; rfl
  have m1 : ∀ u, Ext w1 u → u.cell? ⟨w.heap.size, 1, none⟩ = some (.slice A U.length c) := fun u hu => by rw [cell_of_row _ _ _ _ _ _ ((hu.block _ hlt1).trans h1)]; rfl
  have m2 : ∀ u, Ext w1 u → u.cell? ⟨w.heap.size, 2, none⟩ = some (.slice B D.length d) := fun u hu => by rw [cell_of_row _ _ _ _ _ _ ((hu.block _ hlt1).trans h1)]; rfl
  refine wp_region_lay [Fact.val (.slice C L.length e), Fact.val (.int .i64 L.length), Fact.val (.pointer (some ⟨w.heap.size, 1, none⟩)), Fact.val (.slice A U.length c), Fact.val (.int .i64 U.length), Fact.val (.int .i64 ((L.length : Int) - (U.length : Int))), Fact.val (.pointer (some ⟨w.heap.size, 0, none⟩)), Fact.val (.int .i64 K), Fact.val (.bool true), Fact.val (.bool true), Fact.val (undef), Fact.val (undef), Fact.val (undef), Fact.val (undef), Fact.val (undef), Fact.val (undef), Fact.val (undef), Fact.val (undef), Fact.val (.bool true)] (w1) _ (by kernel_rfl) (by kernel_rfl) (by kernel_rfl) (Ext.refl _) ?_ ?_
  · refine ⟨?_, ?_, ?_, ?_, ?_, ?_, ?_, ?_, ?_, ?_, ?_, ?_, ?_, ?_, ?_, ?_, ?_, ?_, ?_, trivial⟩
    · intro a u hx hd hr
      rw [if_pos (wanted_none rfl)]
      have e1 : a.eval (.tmp 1) = .slice C L.length e := hr 1 rfl
      exact Y_copy (.inl rfl) e1
    · intro a u hx hd hr
      rw [if_pos (wanted_none rfl)]
      have e13 : a.eval (.tmp 13) = .slice C L.length e := hd 0 13 rfl rfl
      clear hd hr
      simp only [Act.eval, Array.getD_eq_getD_getElem?] at e13
      exact Y_val (v := .int .i64 L.length) (by go_simp) rfl
    · intro a u hx hd hr
      rw [if_pos (wanted_none rfl)]
      have e2 : a.eval (.tmp 2) = .pointer (some ⟨w.heap.size, 0, none⟩) := hr 2 rfl
      clear hd hr
      simp only [Act.eval, Array.getD_eq_getD_getElem?] at e2
      exact Y_val (v := .pointer (some ⟨w.heap.size, 1, none⟩)) (by go_simp) rfl
    · intro a u hx hd hr
      rw [if_pos (wanted_none rfl)]
      have e15 : a.eval (.tmp 15) = .pointer (some ⟨w.heap.size, 1, none⟩) := hd 2 15 rfl rfl
      have ec := m1 _ hx
      clear hd hr
      simp only [Act.eval, Array.getD_eq_getD_getElem?] at e15
      exact Y_val (v := .slice A U.length c) (by go_simp) rfl
    · intro a u hx hd hr
      rw [if_pos (wanted_none rfl)]
      have e16 : a.eval (.tmp 16) = .slice A U.length c := hd 3 16 rfl rfl
      clear hd hr
      simp only [Act.eval, Array.getD_eq_getD_getElem?] at e16
      exact Y_val (v := .int .i64 U.length) (by go_simp) rfl
    · intro a u hx hd hr
      rw [if_pos (wanted_none rfl)]
      have e14 : a.eval (.tmp 14) = .int .i64 L.length := hd 1 14 rfl rfl
      have e17 : a.eval (.tmp 17) = .int .i64 U.length := hd 4 17 rfl rfl
      clear hd hr
      simp only [Act.eval, Array.getD_eq_getD_getElem?] at e14 e17
      exact Y_val (v := .int .i64 ((L.length : Int) - (U.length : Int))) (by go_simp) rfl
    · intro a u hx hd hr
      rw [if_pos (wanted_none rfl)]
      have e2 : a.eval (.tmp 2) = .pointer (some ⟨w.heap.size, 0, none⟩) := hr 2 rfl
      clear hd hr
      simp only [Act.eval, Array.getD_eq_getD_getElem?] at e2
      exact Y_val (v := .pointer (some ⟨w.heap.size, 0, none⟩)) (by go_simp) rfl
    · intro a u hx hd hr
      rw [if_pos (wanted_none rfl)]
      have e19 : a.eval (.tmp 19) = .pointer (some ⟨w.heap.size, 0, none⟩) := hd 6 19 rfl rfl
      have ec := m0 _ hx
      clear hd hr
      simp only [Act.eval, Array.getD_eq_getD_getElem?] at e19
      exact Y_val (v := .int .i64 K) (by go_simp) rfl
    · intro a u hx hd hr
      rw [if_pos (wanted_none rfl)]
      have e18 : a.eval (.tmp 18) = .int .i64 ((L.length : Int) - (U.length : Int)) := hd 5 18 rfl rfl
      have e20 : a.eval (.tmp 20) = .int .i64 K := hd 7 20 rfl rfl
      clear hd hr
      simp only [Act.eval, Array.getD_eq_getD_getElem?] at e18 e20
      exact Y_val (v := .bool true) (by have := HN.out; go_simp <;> omega) rfl
    · intro a u hx hd hr
      rw [if_pos (wanted_none rfl)]
      have e21 : a.eval (.tmp 21) = .bool true := hd 8 21 rfl rfl
      exact Y_copy (.inl rfl) e21
    · intro a u hx hd hr
      have eg : a.eval (.tmp 22) = .bool true := hd 9 22 rfl rfl
      rw [if_neg (by rw [wanted_some rfl rfl eg]; exact Bool.noConfusion)]
      exact rfl
    · intro a u hx hd hr
      have eg : a.eval (.tmp 22) = .bool true := hd 9 22 rfl rfl
      rw [if_neg (by rw [wanted_some rfl rfl eg]; exact Bool.noConfusion)]
      exact rfl
    · intro a u hx hd hr
      have eg : a.eval (.tmp 22) = .bool true := hd 9 22 rfl rfl
      rw [if_neg (by rw [wanted_some rfl rfl eg]; exact Bool.noConfusion)]
      exact rfl
    · intro a u hx hd hr
      have eg : a.eval (.tmp 22) = .bool true := hd 9 22 rfl rfl
      rw [if_neg (by rw [wanted_some rfl rfl eg]; exact Bool.noConfusion)]
      exact rfl
    · intro a u hx hd hr
      have eg : a.eval (.tmp 22) = .bool true := hd 9 22 rfl rfl
      rw [if_neg (by rw [wanted_some rfl rfl eg]; exact Bool.noConfusion)]
      exact rfl
    · intro a u hx hd hr
      have eg : a.eval (.tmp 22) = .bool true := hd 9 22 rfl rfl
      rw [if_neg (by rw [wanted_some rfl rfl eg]; exact Bool.noConfusion)]
      exact rfl
    · intro a u hx hd hr
      have eg : a.eval (.tmp 22) = .bool true := hd 9 22 rfl rfl
      rw [if_neg (by rw [wanted_some rfl rfl eg]; exact Bool.noConfusion)]
      exact rfl
    · intro a u hx hd hr
      have eg : a.eval (.tmp 22) = .bool true := hd 9 22 rfl rfl
      rw [if_neg (by rw [wanted_some rfl rfl eg]; exact Bool.noConfusion)]
      exact rfl
    · intro a u hx hd hr
      rw [if_pos (wanted_none rfl)]
      have e22 : a.eval (.tmp 22) = .bool true := hd 9 22 rfl rfl
      exact Y_pick rfl e22 rfl
  intro f wq hwq hF
  have f0 : f 0 = .slice C L.length e := hF 0 13 rfl
  have f1 : f 1 = .int .i64 L.length := hF 1 14 rfl
  have f2 : f 2 = .pointer (some ⟨w.heap.size, 1, none⟩) := hF 2 15 rfl
  have f3 : f 3 = .slice A U.length c := hF 3 16 rfl
  have f4 : f 4 = .int .i64 U.length := hF 4 17 rfl
  have f5 : f 5 = .int .i64 ((L.length : Int) - (U.length : Int)) := hF 5 18 rfl
  have f6 : f 6 = .pointer (some ⟨w.heap.size, 0, none⟩) := hF 6 19 rfl
  have f7 : f 7 = .int .i64 K := hF 7 20 rfl
  have f8 : f 8 = .bool true := hF 8 21 rfl
  have f9 : f 9 = .bool true := hF 9 22 rfl
  have f10 : f 10 = undef := hF 10 23 rfl
  have f11 : f 11 = undef := hF 11 24 rfl
  have f12 : f 12 = undef := hF 12 25 rfl
  have f13 : f 13 = undef := hF 13 26 rfl
  have f14 : f 14 = undef := hF 14 27 rfl
  have f15 : f 15 = undef := hF 15 28 rfl
  have f16 : f 16 = undef := hF 16 29 rfl
  have f17 : f 17 = undef := hF 17 30 rfl
  have f18 : f 18 = .bool true := hF 18 31 rfl
  clear hF
  simp only [puts, Act.put, List.setIfInBounds_toArray, List.set_cons_succ, List.set_cons_zero, Nat.zero_add, Nat.reduceAdd, f0, f1, f2, f3, f4, f5, f6, f7, f8, f9, f10, f11, f12, f13, f14, f15, f16, f17, f18]
  clear f0 f1 f2 f3 f4 f5 f6 f7 f8 f9 f10 f11 f12 f13 f14 f15 f16 f17 f18 f
  go_wp2_with fail
  go_ret2
  exact ⟨_, rfl, ⟨none, 0, rfl, Ds.nil _⟩, Ext.trans (Ext.trans x0 x1) hwq⟩

set_option maxHeartbeats 2000000 in
theorem apply_ne (K : Int) (A : Option Addr) (c : Nat) (U : List (List UInt8)) (B : Option Addr) (d : Nat) (D : List (List UInt8)) (C : Option Addr) (e : Nat) (L : List (List UInt8)) (w : World) (hA : Ds w A c U) (hB : Ds w B d D) (hC : Ds w C e L)
    (hu : U.length ≤ 3000000000000) (hd : D.length ≤ 1000000000000) (hl : L.length ≤ 1000000000000) (hc : checkP ⟨K, U, D⟩ = 0) (hk : 0 ≤ K) (hn : (L.length : Int) - (U.length : Int) = K) (hq : decide (L.drop K.toNat = U) = false) :
    Calls Try.prog 14 #[.agg #[.int .i64 K, .slice A U.length c, .slice B D.length d], .slice C L.length e] w fun e w' => ∃ v, e = .returned (.tuple #[v, .int .i64 4]) ∧ IsD [] v w' ∧ Ext w w' := by
  have HC := Lib.hid hc
  have hwr : IntKind.i64.wrap ((L.length : Int) - (U.length : Int)) = (L.length : Int) - (U.length : Int) := by rw [IntKind.wrap_i64]; omega
  obtain ⟨k, rfl⟩ : ∃ k : Nat, K = (k : Int) := ⟨K.toNat, by omega⟩
  have hkl : k ≤ L.length := by omega
  have HN := Lib.hid hn
  rw [Int.toNat_natCast] at hq
  try rw [Int.toNat_natCast]
  have HQ := Lib.hid hq
  have hel := hC.sl.le
  have E1 := Lib.hid (show (L.drop k).length = L.length - k by simp)
  clear hc hn hq hk
  go_enter Try.func14, Try.ntmps14
  go_wp2_with fail
  have h0 := heap_alloc_new w (.cells #[.int .i64 (k : Int), .slice A U.length c, .slice B D.length d] 25)
  have x0 : Ext w (w.alloc (Obj.cells #[.int .i64 (k : Int), .slice A U.length c, .slice B D.length d] 25)) := (Below.refl _ w).alloc (Nat.le_refl _) _
  have hA0 := hA.below x0
  have hB0 := hB.below x0
  have hC0 := hC.below x0
  generalize w.alloc (Obj.cells #[.int .i64 (k : Int), .slice A U.length c, .slice B D.length d] 25) = w0 at *
  have hlt := (Array.getElem?_eq_some_iff.1 h0).1
  refine (check_any _ ⟨(k : Int), U, D⟩ w0 ⟨A, c, B, d, rfl, hA0, hB0⟩ hu (Nat.le_trans hd (by decide))).mono ?_
  rw [HC.out]
  rintro e1 w1 ⟨rfl, x1⟩
  have h1 := (x1.block _ hlt).trans h0
  go_wp2_with fail
  have hlt1 := (Array.getElem?_eq_some_iff.1 h1).1
  have hA1 := hA0.below x1
  have hB1 := hB0.below x1
  have hC1 := hC0.below x1
  have m0 : ∀ u, Ext w1 u → u.cell? ⟨w.heap.size, 0, none⟩ = some (.int .i64 (k : Int)) := fun u hu => by rw [cell_of_row _ _ _ _ _ _ ((hu.block _ hlt1).trans h1)]; rfl
  have m1 : ∀ u, Ext w1 u → u.cell? ⟨w.heap.size, 1, none⟩ = some (.slice A U.length c) := fun u hu => by rw [cell_of_row _ _ _ _ _ _ ((hu.block _ hlt1).trans h1)]; rfl
  have m2 : ∀ u, Ext w1 u → u.cell? ⟨w.heap.size, 2, none⟩ = some (.slice B D.length d) := fun u hu => by rw [cell_of_row _ _ _ _ _ _ ((hu.block _ hlt1).trans h1)]; rfl
  have hcut := hC1.cut (lo := k) (hi := L.length) hkl (Nat.le_refl _)
  rw [List.take_length] at hcut
  refine wp_region_lay [Fact.val (.slice C L.length e), Fact.val (.int .i64 L.length), Fact.val (.pointer (some ⟨w.heap.size, 1, none⟩)), Fact.val (.slice A U.length c), Fact.val (.int .i64 U.length), Fact.val (.int .i64 ((L.length : Int) - (U.length : Int))), Fact.val (.pointer (some ⟨w.heap.size, 0, none⟩)), Fact.val (.int .i64 (k : Int)), Fact.val (.bool false), Fact.val (.bool false), Fact.val (.slice C L.length e), Fact.val (.pointer (some ⟨w.heap.size, 0, none⟩)), Fact.val (.int .i64 (k : Int)), Fact.val (.slice (if e = k then C else Option.map (fun x => x.add (k * 32)) C) (L.length - k) (e - k)), Fact.val (.pointer (some ⟨w.heap.size, 1, none⟩)), Fact.val (.slice A U.length c), Fact.val (.bool false), Fact.val (.bool true), Fact.val (.bool true)] (w1) _ (by kernel_rfl) (by kernel_rfl) (by kernel_rfl) (Ext.refl _) ?_ ?_
  · refine ⟨?_, ?_, ?_, ?_, ?_, ?_, ?_, ?_, ?_, ?_, ?_, ?_, ?_, ?_, ?_, ?_, ?_, ?_, ?_, trivial⟩
    · intro a u hx hd hr
      rw [if_pos (wanted_none rfl)]
      have e1 : a.eval (.tmp 1) = .slice C L.length e := hr 1 rfl
      exact Y_copy (.inl rfl) e1
    · intro a u hx hd hr
      rw [if_pos (wanted_none rfl)]
      have e13 : a.eval (.tmp 13) = .slice C L.length e := hd 0 13 rfl rfl
      clear hd hr
      simp only [Act.eval, Array.getD_eq_getD_getElem?] at e13
      exact Y_val (v := .int .i64 L.length) (by go_simp) rfl
    · intro a u hx hd hr
      rw [if_pos (wanted_none rfl)]
      have e2 : a.eval (.tmp 2) = .pointer (some ⟨w.heap.size, 0, none⟩) := hr 2 rfl
      clear hd hr
      simp only [Act.eval, Array.getD_eq_getD_getElem?] at e2
      exact Y_val (v := .pointer (some ⟨w.heap.size, 1, none⟩)) (by go_simp) rfl
    · intro a u hx hd hr
      rw [if_pos (wanted_none rfl)]
      have e15 : a.eval (.tmp 15) = .pointer (some ⟨w.heap.size, 1, none⟩) := hd 2 15 rfl rfl
      have ec := m1 _ hx
      clear hd hr
      simp only [Act.eval, Array.getD_eq_getD_getElem?] at e15
      exact Y_val (v := .slice A U.length c) (by go_simp) rfl
    · intro a u hx hd hr
      rw [if_pos (wanted_none rfl)]
      have e16 : a.eval (.tmp 16) = .slice A U.length c := hd 3 16 rfl rfl
      clear hd hr
      simp only [Act.eval, Array.getD_eq_getD_getElem?] at e16
      exact Y_val (v := .int .i64 U.length) (by go_simp) rfl
    · intro a u hx hd hr
      rw [if_pos (wanted_none rfl)]
      have e14 : a.eval (.tmp 14) = .int .i64 L.length := hd 1 14 rfl rfl
      have e17 : a.eval (.tmp 17) = .int .i64 U.length := hd 4 17 rfl rfl
      clear hd hr
      simp only [Act.eval, Array.getD_eq_getD_getElem?] at e14 e17
      exact Y_val (v := .int .i64 ((L.length : Int) - (U.length : Int))) (by go_simp) rfl
    · intro a u hx hd hr
      rw [if_pos (wanted_none rfl)]
      have e2 : a.eval (.tmp 2) = .pointer (some ⟨w.heap.size, 0, none⟩) := hr 2 rfl
      clear hd hr
      simp only [Act.eval, Array.getD_eq_getD_getElem?] at e2
      exact Y_val (v := .pointer (some ⟨w.heap.size, 0, none⟩)) (by go_simp) rfl
    · intro a u hx hd hr
      rw [if_pos (wanted_none rfl)]
      have e19 : a.eval (.tmp 19) = .pointer (some ⟨w.heap.size, 0, none⟩) := hd 6 19 rfl rfl
      have ec := m0 _ hx
      clear hd hr
      simp only [Act.eval, Array.getD_eq_getD_getElem?] at e19
      exact Y_val (v := .int .i64 (k : Int)) (by go_simp) rfl
    · intro a u hx hd hr
      rw [if_pos (wanted_none rfl)]
      have e18 : a.eval (.tmp 18) = .int .i64 ((L.length : Int) - (U.length : Int)) := hd 5 18 rfl rfl
      have e20 : a.eval (.tmp 20) = .int .i64 (k : Int) := hd 7 20 rfl rfl
      clear hd hr
      simp only [Act.eval, Array.getD_eq_getD_getElem?] at e18 e20
      exact Y_val (v := .bool false) (by have := HN.out; go_simp <;> omega) rfl
    · intro a u hx hd hr
      rw [if_pos (wanted_none rfl)]
      have e21 : a.eval (.tmp 21) = .bool false := hd 8 21 rfl rfl
      exact Y_copy (.inl rfl) e21
    · intro a u hx hd hr
      have eg : a.eval (.tmp 22) = .bool false := hd 9 22 rfl rfl
      rw [if_pos (by rw [wanted_some rfl rfl eg]; rfl)]
      have e1 : a.eval (.tmp 1) = .slice C L.length e := hr 1 rfl
      exact Y_copy (.inl rfl) e1
    · intro a u hx hd hr
      have eg : a.eval (.tmp 22) = .bool false := hd 9 22 rfl rfl
      rw [if_pos (by rw [wanted_some rfl rfl eg]; rfl)]
      have e2 : a.eval (.tmp 2) = .pointer (some ⟨w.heap.size, 0, none⟩) := hr 2 rfl
      clear hd hr
      simp only [Act.eval, Array.getD_eq_getD_getElem?] at e2
      exact Y_val (v := .pointer (some ⟨w.heap.size, 0, none⟩)) (by go_simp) rfl
    · intro a u hx hd hr
      have eg : a.eval (.tmp 22) = .bool false := hd 9 22 rfl rfl
      rw [if_pos (by rw [wanted_some rfl rfl eg]; rfl)]
      have e24 : a.eval (.tmp 24) = .pointer (some ⟨w.heap.size, 0, none⟩) := hd 11 24 rfl rfl
      have ec := m0 _ hx
      clear hd hr
      simp only [Act.eval, Array.getD_eq_getD_getElem?] at e24
      exact Y_val (v := .int .i64 (k : Int)) (by go_simp) rfl
    · intro a u hx hd hr
      have eg : a.eval (.tmp 22) = .bool false := hd 9 22 rfl rfl
      rw [if_pos (by rw [wanted_some rfl rfl eg]; rfl)]
      have e23 : a.eval (.tmp 23) = .slice C L.length e := hd 10 23 rfl rfl
      have e25 : a.eval (.tmp 25) = .int .i64 (k : Int) := hd 12 25 rfl rfl
      clear hd hr
      simp only [Act.eval, Array.getD_eq_getD_getElem?] at e23 e25
      exact Y_val (v := .slice (if e = k then C else Option.map (fun x => x.add (k * 32)) C) (L.length - k) (e - k)) (by go_simp) rfl
    · intro a u hx hd hr
      have eg : a.eval (.tmp 22) = .bool false := hd 9 22 rfl rfl
      rw [if_pos (by rw [wanted_some rfl rfl eg]; rfl)]
      have e2 : a.eval (.tmp 2) = .pointer (some ⟨w.heap.size, 0, none⟩) := hr 2 rfl
      clear hd hr
      simp only [Act.eval, Array.getD_eq_getD_getElem?] at e2
      exact Y_val (v := .pointer (some ⟨w.heap.size, 1, none⟩)) (by go_simp) rfl
    · intro a u hx hd hr
      have eg : a.eval (.tmp 22) = .bool false := hd 9 22 rfl rfl
      rw [if_pos (by rw [wanted_some rfl rfl eg]; rfl)]
      have e27 : a.eval (.tmp 27) = .pointer (some ⟨w.heap.size, 1, none⟩) := hd 14 27 rfl rfl
      have ec := m1 _ hx
      clear hd hr
      simp only [Act.eval, Array.getD_eq_getD_getElem?] at e27
      exact Y_val (v := .slice A U.length c) (by go_simp) rfl
    · intro a u hx hd hr
      have eg : a.eval (.tmp 22) = .bool false := hd 9 22 rfl rfl
      rw [if_pos (by rw [wanted_some rfl rfl eg]; rfl)]
      have e26 : a.eval (.tmp 26) = .slice (if e = k then C else Option.map (fun x => x.add (k * 32)) C) (L.length - k) (e - k) := hd 13 26 rfl rfl
      have e28 : a.eval (.tmp 28) = .slice A U.length c := hd 15 28 rfl rfl
      clear hd hr
      refine Y_calls (f := 27) (args := #[(a.eval (.tmp 26)), (a.eval (.tmp 28))]) (by go_simp) ?_
      rw [e26, e28]
      exact by rw [← E1.out]; exact (equal_any _ _ (L.drop k) _ _ U _ (hcut.below hx) (hA1.below hx)).mono fun e u2 k => ⟨_, k.1.trans (by rw [HQ.out]), rfl, k.2⟩
    · intro a u hx hd hr
      have eg : a.eval (.tmp 22) = .bool false := hd 9 22 rfl rfl
      rw [if_pos (by rw [wanted_some rfl rfl eg]; rfl)]
      have e29 : a.eval (.tmp 29) = .bool false := hd 16 29 rfl rfl
      clear hd hr
      simp only [Act.eval, Array.getD_eq_getD_getElem?] at e29
      exact Y_val (v := .bool true) (by go_simp) rfl
    · intro a u hx hd hr
      rw [if_pos (wanted_none rfl)]
      have e22 : a.eval (.tmp 22) = .bool false := hd 9 22 rfl rfl
      have e30 : a.eval (.tmp 30) = .bool true := hd 17 30 rfl rfl
      exact Y_pick rfl e22 e30
  intro f wq hwq hF
  have f0 : f 0 = .slice C L.length e := hF 0 13 rfl
  have f1 : f 1 = .int .i64 L.length := hF 1 14 rfl
  have f2 : f 2 = .pointer (some ⟨w.heap.size, 1, none⟩) := hF 2 15 rfl
  have f3 : f 3 = .slice A U.length c := hF 3 16 rfl
  have f4 : f 4 = .int .i64 U.length := hF 4 17 rfl
  have f5 : f 5 = .int .i64 ((L.length : Int) - (U.length : Int)) := hF 5 18 rfl
  have f6 : f 6 = .pointer (some ⟨w.heap.size, 0, none⟩) := hF 6 19 rfl
  have f7 : f 7 = .int .i64 (k : Int) := hF 7 20 rfl
  have f8 : f 8 = .bool false := hF 8 21 rfl
  have f9 : f 9 = .bool false := hF 9 22 rfl
  have f10 : f 10 = .slice C L.length e := hF 10 23 rfl
  have f11 : f 11 = .pointer (some ⟨w.heap.size, 0, none⟩) := hF 11 24 rfl
  have f12 : f 12 = .int .i64 (k : Int) := hF 12 25 rfl
  have f13 : f 13 = .slice (if e = k then C else Option.map (fun x => x.add (k * 32)) C) (L.length - k) (e - k) := hF 13 26 rfl
  have f14 : f 14 = .pointer (some ⟨w.heap.size, 1, none⟩) := hF 14 27 rfl
  have f15 : f 15 = .slice A U.length c := hF 15 28 rfl
  have f16 : f 16 = .bool false := hF 16 29 rfl
  have f17 : f 17 = .bool true := hF 17 30 rfl
  have f18 : f 18 = .bool true := hF 18 31 rfl
  clear hF
  simp only [puts, Act.put, List.setIfInBounds_toArray, List.set_cons_succ, List.set_cons_zero, Nat.zero_add, Nat.reduceAdd, f0, f1, f2, f3, f4, f5, f6, f7, f8, f9, f10, f11, f12, f13, f14, f15, f16, f17, f18]
  clear f0 f1 f2 f3 f4 f5 f6 f7 f8 f9 f10 f11 f12 f13 f14 f15 f16 f17 f18 f
  generalize (if e = k then C else Option.map (fun x => x.add (k * 32)) C) = C2 at *
  go_wp2_with fail
  go_ret2
  exact ⟨_, rfl, ⟨none, 0, rfl, Ds.nil _⟩, Ext.trans (Ext.trans x0 x1) hwq⟩

set_option maxHeartbeats 2000000 in
theorem apply_in (K : Int) (A : Option Addr) (c : Nat) (U : List (List UInt8)) (B : Option Addr) (d : Nat) (D : List (List UInt8)) (C : Option Addr) (e : Nat) (L : List (List UInt8)) (w : World) (hA : Ds w A c U) (hB : Ds w B d D) (hC : Ds w C e L)
    (hu : U.length ≤ 3000000000000) (hd : D.length ≤ 1000000000000) (hl : L.length ≤ 1000000000000) (hc : checkP ⟨K, U, D⟩ = 0) (hk : 0 ≤ K) (hn : (L.length : Int) - (U.length : Int) = K) (hq : decide (L.drop K.toNat = U) = true) (hb : (D.any fun x => decide (x ∈ L.take K.toNat)) = true) :
    Calls Try.prog 14 #[.agg #[.int .i64 K, .slice A U.length c, .slice B D.length d], .slice C L.length e] w fun e w' => ∃ v, e = .returned (.tuple #[v, .int .i64 4]) ∧ IsD [] v w' ∧ Ext w w' := by
  have HC := Lib.hid hc
  have hwr : IntKind.i64.wrap ((L.length : Int) - (U.length : Int)) = (L.length : Int) - (U.length : Int) := by rw [IntKind.wrap_i64]; omega
  obtain ⟨k, rfl⟩ : ∃ k : Nat, K = (k : Int) := ⟨K.toNat, by omega⟩
  have hkl : k ≤ L.length := by omega
  have HN := Lib.hid hn
  rw [Int.toNat_natCast] at hq
  try rw [Int.toNat_natCast]
  have HQ := Lib.hid hq
  have hel := hC.sl.le
  have E1 := Lib.hid (show (L.drop k).length = L.length - k by simp)
  clear hc hn hq hk
  rw [Int.toNat_natCast] at hb
  have HB := Lib.hid hb
  clear hb
  go_enter Try.func14, Try.ntmps14
  go_wp2_with fail
  have h0 := heap_alloc_new w (.cells #[.int .i64 (k : Int), .slice A U.length c, .slice B D.length d] 25)
  have x0 : Ext w (w.alloc (Obj.cells #[.int .i64 (k : Int), .slice A U.length c, .slice B D.length d] 25)) := (Below.refl _ w).alloc (Nat.le_refl _) _
  have hA0 := hA.below x0
  have hB0 := hB.below x0
  have hC0 := hC.below x0
  generalize w.alloc (Obj.cells #[.int .i64 (k : Int), .slice A U.length c, .slice B D.length d] 25) = w0 at *
  have hlt := (Array.getElem?_eq_some_iff.1 h0).1
  refine (check_any _ ⟨(k : Int), U, D⟩ w0 ⟨A, c, B, d, rfl, hA0, hB0⟩ hu (Nat.le_trans hd (by decide))).mono ?_
  rw [HC.out]
  rintro e1 w1 ⟨rfl, x1⟩
  have h1 := (x1.block _ hlt).trans h0
  go_wp2_with fail
  have hlt1 := (Array.getElem?_eq_some_iff.1 h1).1
  have hA1 := hA0.below x1
  have hB1 := hB0.below x1
  have hC1 := hC0.below x1
  have m0 : ∀ u, Ext w1 u → u.cell? ⟨w.heap.size, 0, none⟩ = some (.int .i64 (k : Int)) := fun u hu => by rw [cell_of_row _ _ _ _ _ _ ((hu.block _ hlt1).trans h1)]; rfl
  have m1 : ∀ u, Ext w1 u → u.cell? ⟨w.heap.size, 1, none⟩ = some (.slice A U.length c) := fun u hu => by rw [cell_of_row _ _ _ _ _ _ ((hu.block _ hlt1).trans h1)]; rfl
  have m2 : ∀ u, Ext w1 u → u.cell? ⟨w.heap.size, 2, none⟩ = some (.slice B D.length d) := fun u hu => by rw [cell_of_row _ _ _ _ _ _ ((hu.block _ hlt1).trans h1)]; rfl
  have hcut := hC1.cut (lo := k) (hi := L.length) hkl (Nat.le_refl _)
  rw [List.take_length] at hcut
  refine wp_region_lay [Fact.val (.slice C L.length e), Fact.val (.int .i64 L.length), Fact.val (.pointer (some ⟨w.heap.size, 1, none⟩)), Fact.val (.slice A U.length c), Fact.val (.int .i64 U.length), Fact.val (.int .i64 ((L.length : Int) - (U.length : Int))), Fact.val (.pointer (some ⟨w.heap.size, 0, none⟩)), Fact.val (.int .i64 (k : Int)), Fact.val (.bool false), Fact.val (.bool false), Fact.val (.slice C L.length e), Fact.val (.pointer (some ⟨w.heap.size, 0, none⟩)), Fact.val (.int .i64 (k : Int)), Fact.val (.slice (if e = k then C else Option.map (fun x => x.add (k * 32)) C) (L.length - k) (e - k)), Fact.val (.pointer (some ⟨w.heap.size, 1, none⟩)), Fact.val (.slice A U.length c), Fact.val (.bool true), Fact.val (.bool false), Fact.val (.bool false)] (w1) _ (by kernel_rfl) (by kernel_rfl) (by kernel_rfl) (Ext.refl _) ?_ ?_
  · refine ⟨?_, ?_, ?_, ?_, ?_, ?_, ?_, ?_, ?_, ?_, ?_, ?_, ?_, ?_, ?_, ?_, ?_, ?_, ?_, trivial⟩
    · intro a u hx hd hr
      rw [if_pos (wanted_none rfl)]
      have e1 : a.eval (.tmp 1) = .slice C L.length e := hr 1 rfl
      exact Y_copy (.inl rfl) e1
    · intro a u hx hd hr
      rw [if_pos (wanted_none rfl)]
      have e13 : a.eval (.tmp 13) = .slice C L.length e := hd 0 13 rfl rfl
      clear hd hr
      simp only [Act.eval, Array.getD_eq_getD_getElem?] at e13
      exact Y_val (v := .int .i64 L.length) (by go_simp) rfl
    · intro a u hx hd hr
      rw [if_pos (wanted_none rfl)]
      have e2 : a.eval (.tmp 2) = .pointer (some ⟨w.heap.size, 0, none⟩) := hr 2 rfl
      clear hd hr
      simp only [Act.eval, Array.getD_eq_getD_getElem?] at e2
      exact Y_val (v := .pointer (some ⟨w.heap.size, 1, none⟩)) (by go_simp) rfl
    · intro a u hx hd hr
      rw [if_pos (wanted_none rfl)]
      have e15 : a.eval (.tmp 15) = .pointer (some ⟨w.heap.size, 1, none⟩) := hd 2 15 rfl rfl
      have ec := m1 _ hx
      clear hd hr
      simp only [Act.eval, Array.getD_eq_getD_getElem?] at e15
      exact Y_val (v := .slice A U.length c) (by go_simp) rfl
    · intro a u hx hd hr
      rw [if_pos (wanted_none rfl)]
      have e16 : a.eval (.tmp 16) = .slice A U.length c := hd 3 16 rfl rfl
      clear hd hr
      simp only [Act.eval, Array.getD_eq_getD_getElem?] at e16
      exact Y_val (v := .int .i64 U.length) (by go_simp) rfl
    · intro a u hx hd hr
      rw [if_pos (wanted_none rfl)]
      have e14 : a.eval (.tmp 14) = .int .i64 L.length := hd 1 14 rfl rfl
      have e17 : a.eval (.tmp 17) = .int .i64 U.length := hd 4 17 rfl rfl
      clear hd hr
      simp only [Act.eval, Array.getD_eq_getD_getElem?] at e14 e17
      exact Y_val (v := .int .i64 ((L.length : Int) - (U.length : Int))) (by go_simp) rfl
    · intro a u hx hd hr
      rw [if_pos (wanted_none rfl)]
      have e2 : a.eval (.tmp 2) = .pointer (some ⟨w.heap.size, 0, none⟩) := hr 2 rfl
      clear hd hr
      simp only [Act.eval, Array.getD_eq_getD_getElem?] at e2
      exact Y_val (v := .pointer (some ⟨w.heap.size, 0, none⟩)) (by go_simp) rfl
    · intro a u hx hd hr
      rw [if_pos (wanted_none rfl)]
      have e19 : a.eval (.tmp 19) = .pointer (some ⟨w.heap.size, 0, none⟩) := hd 6 19 rfl rfl
      have ec := m0 _ hx
      clear hd hr
      simp only [Act.eval, Array.getD_eq_getD_getElem?] at e19
      exact Y_val (v := .int .i64 (k : Int)) (by go_simp) rfl
    · intro a u hx hd hr
      rw [if_pos (wanted_none rfl)]
      have e18 : a.eval (.tmp 18) = .int .i64 ((L.length : Int) - (U.length : Int)) := hd 5 18 rfl rfl
      have e20 : a.eval (.tmp 20) = .int .i64 (k : Int) := hd 7 20 rfl rfl
      clear hd hr
      simp only [Act.eval, Array.getD_eq_getD_getElem?] at e18 e20
      exact Y_val (v := .bool false) (by have := HN.out; go_simp <;> omega) rfl
    · intro a u hx hd hr
      rw [if_pos (wanted_none rfl)]
      have e21 : a.eval (.tmp 21) = .bool false := hd 8 21 rfl rfl
      exact Y_copy (.inl rfl) e21
    · intro a u hx hd hr
      have eg : a.eval (.tmp 22) = .bool false := hd 9 22 rfl rfl
      rw [if_pos (by rw [wanted_some rfl rfl eg]; rfl)]
      have e1 : a.eval (.tmp 1) = .slice C L.length e := hr 1 rfl
      exact Y_copy (.inl rfl) e1
    · intro a u hx hd hr
      have eg : a.eval (.tmp 22) = .bool false := hd 9 22 rfl rfl
      rw [if_pos (by rw [wanted_some rfl rfl eg]; rfl)]
      have e2 : a.eval (.tmp 2) = .pointer (some ⟨w.heap.size, 0, none⟩) := hr 2 rfl
      clear hd hr
      simp only [Act.eval, Array.getD_eq_getD_getElem?] at e2
      exact Y_val (v := .pointer (some ⟨w.heap.size, 0, none⟩)) (by go_simp) rfl
    · intro a u hx hd hr
      have eg : a.eval (.tmp 22) = .bool false := hd 9 22 rfl rfl
      rw [if_pos (by rw [wanted_some rfl rfl eg]; rfl)]
      have e24 : a.eval (.tmp 24) = .pointer (some ⟨w.heap.size, 0, none⟩) := hd 11 24 rfl rfl
      have ec := m0 _ hx
      clear hd hr
      simp only [Act.eval, Array.getD_eq_getD_getElem?] at e24
      exact Y_val (v := .int .i64 (k : Int)) (by go_simp) rfl
    · intro a u hx hd hr
      have eg : a.eval (.tmp 22) = .bool false := hd 9 22 rfl rfl
      rw [if_pos (by rw [wanted_some rfl rfl eg]; rfl)]
      have e23 : a.eval (.tmp 23) = .slice C L.length e := hd 10 23 rfl rfl
      have e25 : a.eval (.tmp 25) = .int .i64 (k : Int) := hd 12 25 rfl rfl
      clear hd hr
      simp only [Act.eval, Array.getD_eq_getD_getElem?] at e23 e25
      exact Y_val (v := .slice (if e = k then C else Option.map (fun x => x.add (k * 32)) C) (L.length - k) (e - k)) (by go_simp) rfl
    · intro a u hx hd hr
      have eg : a.eval (.tmp 22) = .bool false := hd 9 22 rfl rfl
      rw [if_pos (by rw [wanted_some rfl rfl eg]; rfl)]
      have e2 : a.eval (.tmp 2) = .pointer (some ⟨w.heap.size, 0, none⟩) := hr 2 rfl
      clear hd hr
      simp only [Act.eval, Array.getD_eq_getD_getElem?] at e2
      exact Y_val (v := .pointer (some ⟨w.heap.size, 1, none⟩)) (by go_simp) rfl
    · intro a u hx hd hr
      have eg : a.eval (.tmp 22) = .bool false := hd 9 22 rfl rfl
      rw [if_pos (by rw [wanted_some rfl rfl eg]; rfl)]
      have e27 : a.eval (.tmp 27) = .pointer (some ⟨w.heap.size, 1, none⟩) := hd 14 27 rfl rfl
      have ec := m1 _ hx
      clear hd hr
      simp only [Act.eval, Array.getD_eq_getD_getElem?] at e27
      exact Y_val (v := .slice A U.length c) (by go_simp) rfl
    · intro a u hx hd hr
      have eg : a.eval (.tmp 22) = .bool false := hd 9 22 rfl rfl
      rw [if_pos (by rw [wanted_some rfl rfl eg]; rfl)]
      have e26 : a.eval (.tmp 26) = .slice (if e = k then C else Option.map (fun x => x.add (k * 32)) C) (L.length - k) (e - k) := hd 13 26 rfl rfl
      have e28 : a.eval (.tmp 28) = .slice A U.length c := hd 15 28 rfl rfl
      clear hd hr
      refine Y_calls (f := 27) (args := #[(a.eval (.tmp 26)), (a.eval (.tmp 28))]) (by go_simp) ?_
      rw [e26, e28]
      exact by rw [← E1.out]; exact (equal_any _ _ (L.drop k) _ _ U _ (hcut.below hx) (hA1.below hx)).mono fun e u2 k => ⟨_, k.1.trans (by rw [HQ.out]), rfl, k.2⟩
    · intro a u hx hd hr
      have eg : a.eval (.tmp 22) = .bool false := hd 9 22 rfl rfl
      rw [if_pos (by rw [wanted_some rfl rfl eg]; rfl)]
      have e29 : a.eval (.tmp 29) = .bool true := hd 16 29 rfl rfl
      clear hd hr
      simp only [Act.eval, Array.getD_eq_getD_getElem?] at e29
      exact Y_val (v := .bool false) (by go_simp) rfl
    · intro a u hx hd hr
      rw [if_pos (wanted_none rfl)]
      have e22 : a.eval (.tmp 22) = .bool false := hd 9 22 rfl rfl
      have e30 : a.eval (.tmp 30) = .bool false := hd 17 30 rfl rfl
      exact Y_pick rfl e22 e30
  intro f wq hwq hF
  have f0 : f 0 = .slice C L.length e := hF 0 13 rfl
  have f1 : f 1 = .int .i64 L.length := hF 1 14 rfl
  have f2 : f 2 = .pointer (some ⟨w.heap.size, 1, none⟩) := hF 2 15 rfl
  have f3 : f 3 = .slice A U.length c := hF 3 16 rfl
  have f4 : f 4 = .int .i64 U.length := hF 4 17 rfl
  have f5 : f 5 = .int .i64 ((L.length : Int) - (U.length : Int)) := hF 5 18 rfl
  have f6 : f 6 = .pointer (some ⟨w.heap.size, 0, none⟩) := hF 6 19 rfl
  have f7 : f 7 = .int .i64 (k : Int) := hF 7 20 rfl
  have f8 : f 8 = .bool false := hF 8 21 rfl
  have f9 : f 9 = .bool false := hF 9 22 rfl
  have f10 : f 10 = .slice C L.length e := hF 10 23 rfl
  have f11 : f 11 = .pointer (some ⟨w.heap.size, 0, none⟩) := hF 11 24 rfl
  have f12 : f 12 = .int .i64 (k : Int) := hF 12 25 rfl
  have f13 : f 13 = .slice (if e = k then C else Option.map (fun x => x.add (k * 32)) C) (L.length - k) (e - k) := hF 13 26 rfl
  have f14 : f 14 = .pointer (some ⟨w.heap.size, 1, none⟩) := hF 14 27 rfl
  have f15 : f 15 = .slice A U.length c := hF 15 28 rfl
  have f16 : f 16 = .bool true := hF 16 29 rfl
  have f17 : f 17 = .bool false := hF 17 30 rfl
  have f18 : f 18 = .bool false := hF 18 31 rfl
  clear hF
  simp only [puts, Act.put, List.setIfInBounds_toArray, List.set_cons_succ, List.set_cons_zero, Nat.zero_add, Nat.reduceAdd, f0, f1, f2, f3, f4, f5, f6, f7, f8, f9, f10, f11, f12, f13, f14, f15, f16, f17, f18]
  clear f0 f1 f2 f3 f4 f5 f6 f7 f8 f9 f10 f11 f12 f13 f14 f15 f16 f17 f18 f
  generalize (if e = k then C else Option.map (fun x => x.add (k * 32)) C) = C2 at *
  have E2 := Lib.hid (show (L.take k).length = k by rw [List.length_take]; omega)
  have q0 := m0 _ hwq
  have q2 := m2 _ hwq
  have hq1 := (hwq.block _ hlt1).trans h1
  have hBq := hB1.below hwq
  have hTq : Ds wq C e (L.take k) := (hC1.below hwq).take hkl
  have x0q : Ext w wq := Ext.trans (Ext.trans x0 x1) hwq
  clear m0 m1 m2 h0 h1 hlt hlt1 hA0 hB0 hC0 hA1 hB1 hC1 hcut x0 x1 hwq
  have a0 := heap_alloc_new wq (.cells #[.slice C k e] 23)
  have ax : Ext wq (wq.alloc (.cells #[.slice C k e] 23)) := (Below.refl _ wq).alloc (Nat.le_refl _) _
  have r2 : (wq.alloc (.cells #[.slice C k e] 23)).cell? ⟨w.heap.size, 2, none⟩ = some (.slice B D.length d) := by
    rw [cell_of_row _ _ _ _ _ _ ((ax.block _ (Array.getElem?_eq_some_iff.1 hq1).1).trans hq1)]; rfl
  have hR := containsf_any C e (L.take k) B d D wq.heap.size _ (hTq.below ax) (hBq.below ax) (by rw [E2.out]; exact a0)
  rw [HB.out] at hR
  go_wp2_with fail
  refine hR.mono ?_
  rintro e2 w2 ⟨rfl, x2⟩
  go_wp2_with fail
  go_ret2
  exact ⟨_, rfl, ⟨none, 0, rfl, Ds.nil _⟩, Ext.trans x0q (Ext.trans ax x2)⟩

set_option maxHeartbeats 2000000 in
theorem apply_ok (K : Int) (A : Option Addr) (c : Nat) (U : List (List UInt8)) (B : Option Addr) (d : Nat) (D : List (List UInt8)) (C : Option Addr) (e : Nat) (L : List (List UInt8)) (w : World) (hA : Ds w A c U) (hB : Ds w B d D) (hC : Ds w C e L)
    (hu : U.length ≤ 3000000000000) (hd : D.length ≤ 1000000000000) (hl : L.length ≤ 1000000000000) (hc : checkP ⟨K, U, D⟩ = 0) (hk : 0 ≤ K) (hn : (L.length : Int) - (U.length : Int) = K) (hq : decide (L.drop K.toNat = U) = true) (hb : (D.any fun x => decide (x ∈ L.take K.toNat)) = false) :
    Calls Try.prog 14 #[.agg #[.int .i64 K, .slice A U.length c, .slice B D.length d], .slice C L.length e] w fun e w' => ∃ v, e = .returned (.tuple #[v, .int .i64 0]) ∧ IsD (L.take K.toNat ++ D) v w' ∧ Ext w w' := by
  have HC := Lib.hid hc
  have hwr : IntKind.i64.wrap ((L.length : Int) - (U.length : Int)) = (L.length : Int) - (U.length : Int) := by rw [IntKind.wrap_i64]; omega
  obtain ⟨k, rfl⟩ : ∃ k : Nat, K = (k : Int) := ⟨K.toNat, by omega⟩
  have hkl : k ≤ L.length := by omega
  have HN := Lib.hid hn
  rw [Int.toNat_natCast] at hq
  try rw [Int.toNat_natCast]
  have HQ := Lib.hid hq
  have hel := hC.sl.le
  have E1 := Lib.hid (show (L.drop k).length = L.length - k by simp)
  clear hc hn hq hk
  rw [Int.toNat_natCast] at hb
  have HB := Lib.hid hb
  clear hb
  go_enter Try.func14, Try.ntmps14
  go_wp2_with fail
  have h0 := heap_alloc_new w (.cells #[.int .i64 (k : Int), .slice A U.length c, .slice B D.length d] 25)
  have x0 : Ext w (w.alloc (Obj.cells #[.int .i64 (k : Int), .slice A U.length c, .slice B D.length d] 25)) := (Below.refl _ w).alloc (Nat.le_refl _) _
  have hA0 := hA.below x0
  have hB0 := hB.below x0
  have hC0 := hC.below x0
  generalize w.alloc (Obj.cells #[.int .i64 (k : Int), .slice A U.length c, .slice B D.length d] 25) = w0 at *
  have hlt := (Array.getElem?_eq_some_iff.1 h0).1
  refine (check_any _ ⟨(k : Int), U, D⟩ w0 ⟨A, c, B, d, rfl, hA0, hB0⟩ hu (Nat.le_trans hd (by decide))).mono ?_
  rw [HC.out]
  rintro e1 w1 ⟨rfl, x1⟩
  have h1 := (x1.block _ hlt).trans h0
  go_wp2_with fail
  have hlt1 := (Array.getElem?_eq_some_iff.1 h1).1
  have hA1 := hA0.below x1
  have hB1 := hB0.below x1
  have hC1 := hC0.below x1
  have m0 : ∀ u, Ext w1 u → u.cell? ⟨w.heap.size, 0, none⟩ = some (.int .i64 (k : Int)) := fun u hu => by rw [cell_of_row _ _ _ _ _ _ ((hu.block _ hlt1).trans h1)]; rfl
  have m1 : ∀ u, Ext w1 u → u.cell? ⟨w.heap.size, 1, none⟩ = some (.slice A U.length c) := fun u hu => by rw [cell_of_row _ _ _ _ _ _ ((hu.block _ hlt1).trans h1)]; rfl
  have m2 : ∀ u, Ext w1 u → u.cell? ⟨w.heap.size, 2, none⟩ = some (.slice B D.length d) := fun u hu => by rw [cell_of_row _ _ _ _ _ _ ((hu.block _ hlt1).trans h1)]; rfl
  have hcut := hC1.cut (lo := k) (hi := L.length) hkl (Nat.le_refl _)
  rw [List.take_length] at hcut
  refine wp_region_lay [Fact.val (.slice C L.length e), Fact.val (.int .i64 L.length), Fact.val (.pointer (some ⟨w.heap.size, 1, none⟩)), Fact.val (.slice A U.length c), Fact.val (.int .i64 U.length), Fact.val (.int .i64 ((L.length : Int) - (U.length : Int))), Fact.val (.pointer (some ⟨w.heap.size, 0, none⟩)), Fact.val (.int .i64 (k : Int)), Fact.val (.bool false), Fact.val (.bool false), Fact.val (.slice C L.length e), Fact.val (.pointer (some ⟨w.heap.size, 0, none⟩)), Fact.val (.int .i64 (k : Int)), Fact.val (.slice (if e = k then C else Option.map (fun x => x.add (k * 32)) C) (L.length - k) (e - k)), Fact.val (.pointer (some ⟨w.heap.size, 1, none⟩)), Fact.val (.slice A U.length c), Fact.val (.bool true), Fact.val (.bool false), Fact.val (.bool false)] (w1) _ (by kernel_rfl) (by kernel_rfl) (by kernel_rfl) (Ext.refl _) ?_ ?_
  · refine ⟨?_, ?_, ?_, ?_, ?_, ?_, ?_, ?_, ?_, ?_, ?_, ?_, ?_, ?_, ?_, ?_, ?_, ?_, ?_, trivial⟩
    · intro a u hx hd hr
      rw [if_pos (wanted_none rfl)]
      have e1 : a.eval (.tmp 1) = .slice C L.length e := hr 1 rfl
      exact Y_copy (.inl rfl) e1
    · intro a u hx hd hr
      rw [if_pos (wanted_none rfl)]
      have e13 : a.eval (.tmp 13) = .slice C L.length e := hd 0 13 rfl rfl
      clear hd hr
      simp only [Act.eval, Array.getD_eq_getD_getElem?] at e13
      exact Y_val (v := .int .i64 L.length) (by go_simp) rfl
    · intro a u hx hd hr
      rw [if_pos (wanted_none rfl)]
      have e2 : a.eval (.tmp 2) = .pointer (some ⟨w.heap.size, 0, none⟩) := hr 2 rfl
      clear hd hr
      simp only [Act.eval, Array.getD_eq_getD_getElem?] at e2
      exact Y_val (v := .pointer (some ⟨w.heap.size, 1, none⟩)) (by go_simp) rfl
    · intro a u hx hd hr
      rw [if_pos (wanted_none rfl)]
      have e15 : a.eval (.tmp 15) = .pointer (some ⟨w.heap.size, 1, none⟩) := hd 2 15 rfl rfl
      have ec := m1 _ hx
      clear hd hr
      simp only [Act.eval, Array.getD_eq_getD_getElem?] at e15
      exact Y_val (v := .slice A U.length c) (by go_simp) rfl
    · intro a u hx hd hr
      rw [if_pos (wanted_none rfl)]
      have e16 : a.eval (.tmp 16) = .slice A U.length c := hd 3 16 rfl rfl
      clear hd hr
      simp only [Act.eval, Array.getD_eq_getD_getElem?] at e16
      exact Y_val (v := .int .i64 U.length) (by go_simp) rfl
    · intro a u hx hd hr
      rw [if_pos (wanted_none rfl)]
      have e14 : a.eval (.tmp 14) = .int .i64 L.length := hd 1 14 rfl rfl
      have e17 : a.eval (.tmp 17) = .int .i64 U.length := hd 4 17 rfl rfl
      clear hd hr
      simp only [Act.eval, Array.getD_eq_getD_getElem?] at e14 e17
      exact Y_val (v := .int .i64 ((L.length : Int) - (U.length : Int))) (by go_simp) rfl
    · intro a u hx hd hr
      rw [if_pos (wanted_none rfl)]
      have e2 : a.eval (.tmp 2) = .pointer (some ⟨w.heap.size, 0, none⟩) := hr 2 rfl
      clear hd hr
      simp only [Act.eval, Array.getD_eq_getD_getElem?] at e2
      exact Y_val (v := .pointer (some ⟨w.heap.size, 0, none⟩)) (by go_simp) rfl
    · intro a u hx hd hr
      rw [if_pos (wanted_none rfl)]
      have e19 : a.eval (.tmp 19) = .pointer (some ⟨w.heap.size, 0, none⟩) := hd 6 19 rfl rfl
      have ec := m0 _ hx
      clear hd hr
      simp only [Act.eval, Array.getD_eq_getD_getElem?] at e19
      exact Y_val (v := .int .i64 (k : Int)) (by go_simp) rfl
    · intro a u hx hd hr
      rw [if_pos (wanted_none rfl)]
      have e18 : a.eval (.tmp 18) = .int .i64 ((L.length : Int) - (U.length : Int)) := hd 5 18 rfl rfl
      have e20 : a.eval (.tmp 20) = .int .i64 (k : Int) := hd 7 20 rfl rfl
      clear hd hr
      simp only [Act.eval, Array.getD_eq_getD_getElem?] at e18 e20
      exact Y_val (v := .bool false) (by have := HN.out; go_simp <;> omega) rfl
    · intro a u hx hd hr
      rw [if_pos (wanted_none rfl)]
      have e21 : a.eval (.tmp 21) = .bool false := hd 8 21 rfl rfl
      exact Y_copy (.inl rfl) e21
    · intro a u hx hd hr
      have eg : a.eval (.tmp 22) = .bool false := hd 9 22 rfl rfl
      rw [if_pos (by rw [wanted_some rfl rfl eg]; rfl)]
      have e1 : a.eval (.tmp 1) = .slice C L.length e := hr 1 rfl
      exact Y_copy (.inl rfl) e1
    · intro a u hx hd hr
      have eg : a.eval (.tmp 22) = .bool false := hd 9 22 rfl rfl
      rw [if_pos (by rw [wanted_some rfl rfl eg]; rfl)]
      have e2 : a.eval (.tmp 2) = .pointer (some ⟨w.heap.size, 0, none⟩) := hr 2 rfl
      clear hd hr
      simp only [Act.eval, Array.getD_eq_getD_getElem?] at e2
      exact Y_val (v := .pointer (some ⟨w.heap.size, 0, none⟩)) (by go_simp) rfl
    · intro a u hx hd hr
      have eg : a.eval (.tmp 22) = .bool false := hd 9 22 rfl rfl
      rw [if_pos (by rw [wanted_some rfl rfl eg]; rfl)]
      have e24 : a.eval (.tmp 24) = .pointer (some ⟨w.heap.size, 0, none⟩) := hd 11 24 rfl rfl
      have ec := m0 _ hx
      clear hd hr
      simp only [Act.eval, Array.getD_eq_getD_getElem?] at e24
      exact Y_val (v := .int .i64 (k : Int)) (by go_simp) rfl
    · intro a u hx hd hr
      have eg : a.eval (.tmp 22) = .bool false := hd 9 22 rfl rfl
      rw [if_pos (by rw [wanted_some rfl rfl eg]; rfl)]
      have e23 : a.eval (.tmp 23) = .slice C L.length e := hd 10 23 rfl rfl
      have e25 : a.eval (.tmp 25) = .int .i64 (k : Int) := hd 12 25 rfl rfl
      clear hd hr
      simp only [Act.eval, Array.getD_eq_getD_getElem?] at e23 e25
      exact Y_val (v := .slice (if e = k then C else Option.map (fun x => x.add (k * 32)) C) (L.length - k) (e - k)) (by go_simp) rfl
    · intro a u hx hd hr
      have eg : a.eval (.tmp 22) = .bool false := hd 9 22 rfl rfl
      rw [if_pos (by rw [wanted_some rfl rfl eg]; rfl)]
      have e2 : a.eval (.tmp 2) = .pointer (some ⟨w.heap.size, 0, none⟩) := hr 2 rfl
      clear hd hr
      simp only [Act.eval, Array.getD_eq_getD_getElem?] at e2
      exact Y_val (v := .pointer (some ⟨w.heap.size, 1, none⟩)) (by go_simp) rfl
    · intro a u hx hd hr
      have eg : a.eval (.tmp 22) = .bool false := hd 9 22 rfl rfl
      rw [if_pos (by rw [wanted_some rfl rfl eg]; rfl)]
      have e27 : a.eval (.tmp 27) = .pointer (some ⟨w.heap.size, 1, none⟩) := hd 14 27 rfl rfl
      have ec := m1 _ hx
      clear hd hr
      simp only [Act.eval, Array.getD_eq_getD_getElem?] at e27
      exact Y_val (v := .slice A U.length c) (by go_simp) rfl
    · intro a u hx hd hr
      have eg : a.eval (.tmp 22) = .bool false := hd 9 22 rfl rfl
      rw [if_pos (by rw [wanted_some rfl rfl eg]; rfl)]
      have e26 : a.eval (.tmp 26) = .slice (if e = k then C else Option.map (fun x => x.add (k * 32)) C) (L.length - k) (e - k) := hd 13 26 rfl rfl
      have e28 : a.eval (.tmp 28) = .slice A U.length c := hd 15 28 rfl rfl
      clear hd hr
      refine Y_calls (f := 27) (args := #[(a.eval (.tmp 26)), (a.eval (.tmp 28))]) (by go_simp) ?_
      rw [e26, e28]
      exact by rw [← E1.out]; exact (equal_any _ _ (L.drop k) _ _ U _ (hcut.below hx) (hA1.below hx)).mono fun e u2 k => ⟨_, k.1.trans (by rw [HQ.out]), rfl, k.2⟩
    · intro a u hx hd hr
      have eg : a.eval (.tmp 22) = .bool false := hd 9 22 rfl rfl
      rw [if_pos (by rw [wanted_some rfl rfl eg]; rfl)]
      have e29 : a.eval (.tmp 29) = .bool true := hd 16 29 rfl rfl
      clear hd hr
      simp only [Act.eval, Array.getD_eq_getD_getElem?] at e29
      exact Y_val (v := .bool false) (by go_simp) rfl
    · intro a u hx hd hr
      rw [if_pos (wanted_none rfl)]
      have e22 : a.eval (.tmp 22) = .bool false := hd 9 22 rfl rfl
      have e30 : a.eval (.tmp 30) = .bool false := hd 17 30 rfl rfl
      exact Y_pick rfl e22 e30
  intro f wq hwq hF
  have f0 : f 0 = .slice C L.length e := hF 0 13 rfl
  have f1 : f 1 = .int .i64 L.length := hF 1 14 rfl
  have f2 : f 2 = .pointer (some ⟨w.heap.size, 1, none⟩) := hF 2 15 rfl
  have f3 : f 3 = .slice A U.length c := hF 3 16 rfl
  have f4 : f 4 = .int .i64 U.length := hF 4 17 rfl
  have f5 : f 5 = .int .i64 ((L.length : Int) - (U.length : Int)) := hF 5 18 rfl
  have f6 : f 6 = .pointer (some ⟨w.heap.size, 0, none⟩) := hF 6 19 rfl
  have f7 : f 7 = .int .i64 (k : Int) := hF 7 20 rfl
  have f8 : f 8 = .bool false := hF 8 21 rfl
  have f9 : f 9 = .bool false := hF 9 22 rfl
  have f10 : f 10 = .slice C L.length e := hF 10 23 rfl
  have f11 : f 11 = .pointer (some ⟨w.heap.size, 0, none⟩) := hF 11 24 rfl
  have f12 : f 12 = .int .i64 (k : Int) := hF 12 25 rfl
  have f13 : f 13 = .slice (if e = k then C else Option.map (fun x => x.add (k * 32)) C) (L.length - k) (e - k) := hF 13 26 rfl
  have f14 : f 14 = .pointer (some ⟨w.heap.size, 1, none⟩) := hF 14 27 rfl
  have f15 : f 15 = .slice A U.length c := hF 15 28 rfl
  have f16 : f 16 = .bool true := hF 16 29 rfl
  have f17 : f 17 = .bool false := hF 17 30 rfl
  have f18 : f 18 = .bool false := hF 18 31 rfl
  clear hF
  simp only [puts, Act.put, List.setIfInBounds_toArray, List.set_cons_succ, List.set_cons_zero, Nat.zero_add, Nat.reduceAdd, f0, f1, f2, f3, f4, f5, f6, f7, f8, f9, f10, f11, f12, f13, f14, f15, f16, f17, f18]
  clear f0 f1 f2 f3 f4 f5 f6 f7 f8 f9 f10 f11 f12 f13 f14 f15 f16 f17 f18 f
  generalize (if e = k then C else Option.map (fun x => x.add (k * 32)) C) = C2 at *
  have E2 := Lib.hid (show (L.take k).length = k by rw [List.length_take]; omega)
  have q0 := m0 _ hwq
  have q2 := m2 _ hwq
  have hq1 := (hwq.block _ hlt1).trans h1
  have hBq := hB1.below hwq
  have hTq : Ds wq C e (L.take k) := (hC1.below hwq).take hkl
  have x0q : Ext w wq := Ext.trans (Ext.trans x0 x1) hwq
  clear m0 m1 m2 h0 h1 hlt hlt1 hA0 hB0 hC0 hA1 hB1 hC1 hcut x0 x1 hwq
  have a0 := heap_alloc_new wq (.cells #[.slice C k e] 23)
  have ax : Ext wq (wq.alloc (.cells #[.slice C k e] 23)) := (Below.refl _ wq).alloc (Nat.le_refl _) _
  have r2 : (wq.alloc (.cells #[.slice C k e] 23)).cell? ⟨w.heap.size, 2, none⟩ = some (.slice B D.length d) := by
    rw [cell_of_row _ _ _ _ _ _ ((ax.block _ (Array.getElem?_eq_some_iff.1 hq1).1).trans hq1)]; rfl
  have hR := containsf_any C e (L.take k) B d D wq.heap.size _ (hTq.below ax) (hBq.below ax) (by rw [E2.out]; exact a0)
  rw [HB.out] at hR
  go_wp2_with fail
  refine hR.mono ?_
  rintro e2 w2 ⟨rfl, x2⟩
  have hq2 := (x2.block _ (Array.getElem?_eq_some_iff.1 ((ax.block _ (Array.getElem?_eq_some_iff.1 hq1).1).trans hq1)).1).trans ((ax.block _ (Array.getElem?_eq_some_iff.1 hq1).1).trans hq1)
  have ha2 := (x2.block _ (Array.getElem?_eq_some_iff.1 a0).1).trans a0
  have s2 : w2.cell? ⟨w.heap.size, 2, none⟩ = some (.slice B D.length d) := by rw [cell_of_row _ _ _ _ _ _ hq2]; rfl
  have s7 : w2.cell? ⟨wq.heap.size, 0, none⟩ = some (.slice C k e) := by rw [cell_of_row _ _ _ _ _ _ ha2]; rfl
  have x2q : Ext wq w2 := Ext.trans ax x2
  have hB2 := hBq.below x2q
  have hT2 := hTq.below x2q
  have xx := Ext.trans x0q x2q
  have ay : Ext w2 (w2.alloc (.cells #[.slice C k e, .slice B D.length d] 23)) := (Below.refl _ w2).alloc (Nat.le_refl _) _
  have hK := concat_any C e (L.take k) B d D w2.heap.size (w2.alloc (.cells #[.slice C k e, .slice B D.length d] 23)) (hT2.below ay) (hB2.below ay) (by rw [E2.out]; exact heap_alloc_new w2 _) (by rw [E2.out]; omega)
  clear hq1 hBq hTq x0q a0 ax r2 hq2 ha2 x2q x2 q0 q2
  go_wp2_with fail
  refine hK.mono ?_
  rintro e3 w3 ⟨v, rfl, ho, x3⟩
  go_wp2_with fail
  go_ret2
  exact ⟨_, rfl, IsD.own ho (fun x hx => by
    rcases List.mem_append.1 hx with h | h
    · exact hC.ok x (List.mem_of_mem_take h)
    · exact hB.ok x h), Ext.trans xx (Ext.trans ay x3)⟩

theorem apply_any (v : Value) (P : PV) (C : Option Addr) (e : Nat) (L : List (List UInt8)) (w : World) (hv : IsPlan w v P) (hC : Ds w C e L) (hu : P.u.length ≤ 3000000000000) (hd : P.d.length ≤ 1000000000000) (hl : L.length ≤ 1000000000000) :
    Calls Try.prog 14 #[v, .slice C L.length e] w fun e w' => ∃ v, e = .returned (.tuple #[v, .int .i64 (applyP P L).2]) ∧ IsD (applyP P L).1 v w' ∧ Ext w w' := by
  obtain ⟨A, c, B, d, rfl, hA, hB⟩ := hv
  obtain ⟨K, U, D⟩ := P
  simp only at *
  have hc : checkP ⟨K, U, D⟩ = 0 ∨ checkP ⟨K, U, D⟩ = 2 := by unfold checkP; split <;> simp
  rcases hc with hc | hc
  · have hk : 0 ≤ K := by
      unfold checkP at hc
      split at hc
      · cases hc
      · rename_i h; simp only [not_or] at h; omega
    by_cases hn : (L.length : Int) - (U.length : Int) = K
    · by_cases hq : L.drop K.toNat = U
      · have h2 : ¬ ((L.length : Int) - (U.length : Int) ≠ K ∨ L.drop K.toNat ≠ U) := fun h => h.elim (fun h => h hn) (fun h => h hq)
        cases hb : D.any fun x => decide (x ∈ L.take K.toNat) with
        | true =>
          rw [show applyP ⟨K, U, D⟩ L = ([], 4) by unfold applyP; rw [if_neg (fun h => h hc)]; simp only; rw [if_neg h2, hb]; rfl]
          exact apply_in K A c U B d D C e L w hA hB hC hu hd hl hc hk hn (decide_eq_true hq) hb
        | false =>
          rw [show applyP ⟨K, U, D⟩ L = (L.take K.toNat ++ D, 0) by unfold applyP; rw [if_neg (fun h => h hc)]; simp only; rw [if_neg h2, hb]; rfl]
          exact apply_ok K A c U B d D C e L w hA hB hC hu hd hl hc hk hn (decide_eq_true hq) hb
      · rw [show applyP ⟨K, U, D⟩ L = ([], 4) by unfold applyP; rw [if_neg (fun h => h hc)]; simp only; rw [if_pos (.inr hq)]]
        exact apply_ne K A c U B d D C e L w hA hB hC hu hd hl hc hk hn (decide_eq_false hq)
    · rw [show applyP ⟨K, U, D⟩ L = ([], 4) by unfold applyP; rw [if_neg (fun h => h hc)]; simp only; rw [if_pos (.inl hn)]]
      exact apply_len K A c U B d D C e L w hA hB hC hu hd hl hc hn
  · rw [show applyP ⟨K, U, D⟩ L = ([], 2) by unfold applyP; rw [if_pos (by rw [hc]; decide), hc]]
    exact apply_bad K A c U B d D C e L w hA hB hC hu hd hl hc
end Go.Proofs.Ytigcfbpgbenabaa
