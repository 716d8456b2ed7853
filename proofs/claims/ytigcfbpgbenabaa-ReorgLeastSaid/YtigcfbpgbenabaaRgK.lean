import Derived.Test.YtigcfbpgbenabaaRgJ
namespace Go.Proofs.Ytigcfbpgbenabaa
open Go.RowKit

theorem light_any (v : Value) (P : PV) (w : World) (hv : IsPlan w v P) :
    Calls Try.prog 8 #[v] w fun e w' => e = .returned (.bool (decide (P.u.length ≤ 40) && decide (P.d.length ≤ 40))) ∧ Ext w w' := by
  obtain ⟨A, c, B, d, rfl, hA, hB⟩ := hv
  obtain ⟨K, U, D⟩ := P
  simp only at *
  have x0 : Ext w (w.alloc (Obj.cells #[.int .i64 K, .slice A U.length c, .slice B D.length d] 25)) := (Below.refl _ w).alloc (Nat.le_refl _) _
  by_cases h1 : U.length ≤ 40
  · by_cases h2 : D.length ≤ 40
    · have E : (decide (U.length ≤ 40) && decide (D.length ≤ 40)) = true := by simp [h1, h2]
      have H := Lib.hid E
      have h1' : (U.length : Int) ≤ 40 := by omega
      have h2' : (D.length : Int) ≤ 40 := by omega
      clear E h1 h2
      go_enter Try.func8, Try.ntmps8
      go_wp2_with fail
      rw [H.out]
      go_ret
      exact ⟨rfl, x0⟩
    · have E : (decide (U.length ≤ 40) && decide (D.length ≤ 40)) = false := by simp [h2]
      have H := Lib.hid E
      have h1' : (U.length : Int) ≤ 40 := by omega
      have h2' : ¬ (D.length : Int) ≤ 40 := by omega
      clear E h1 h2
      go_enter Try.func8, Try.ntmps8
      go_wp2_with fail
      rw [H.out]
      go_ret
      exact ⟨rfl, x0⟩
  · have E : (decide (U.length ≤ 40) && decide (D.length ≤ 40)) = false := by simp [h1]
    have H := Lib.hid E
    have h1' : ¬ (U.length : Int) ≤ 40 := by omega
    clear E h1
    go_enter Try.func8, Try.ntmps8
    go_wp2_with fail
    rw [H.out]
    go_ret
    exact ⟨rfl, x0⟩

theorem depth_any (v : Value) (P : PV) (w : World) (hv : IsPlan w v P) (hu : P.u.length ≤ 3000000000000) (hd : P.d.length ≤ 3000000000000) :
    Calls Try.prog 18 #[v] w fun e w' => e = .returned (.int .i64 (if checkP P = 0 then (P.u.length : Int) else 0)) ∧ Ext w w' := by
  have hv0 := hv
  obtain ⟨A, c, B, d, rfl, hA, hB⟩ := hv
  have h0 := heap_alloc_new w (.cells #[.int .i64 P.k, .slice A P.u.length c, .slice B P.d.length d] 25)
  have x0 : Ext w (w.alloc (Obj.cells #[.int .i64 P.k, .slice A P.u.length c, .slice B P.d.length d] 25)) := (Below.refl _ w).alloc (Nat.le_refl _) _
  have hc : checkP P = 0 ∨ checkP P = 2 := by unfold checkP; split <;> simp
  have hm : ∀ w1, Ext (w.alloc (Obj.cells #[.int .i64 P.k, .slice A P.u.length c, .slice B P.d.length d] 25)) w1 → w1.cell? ⟨w.heap.size, 1, none⟩ = some (.slice A P.u.length c) := fun w1 x1 => by
    rw [cell_of_row _ _ _ _ _ _ ((x1.block _ (Array.getElem?_eq_some_iff.1 h0).1).trans h0)]; rfl
  rcases hc with hc | hc
  · rw [hc, if_pos rfl]
    have HC := Lib.hid hc
    clear hc
    go_enter Try.func18, Try.ntmps18
    go_wp2_with fail
    refine (check_any _ P _ (hv0.ext x0) hu hd).mono ?_
    rw [HC.out]
    rintro e w1 ⟨rfl, x1⟩
    have m1 := hm _ x1
    go_wp2_with fail
    go_ret
    exact ⟨rfl, Ext.trans x0 x1⟩
  · rw [hc, if_neg (by decide)]
    have HC := Lib.hid hc
    clear hc
    go_enter Try.func18, Try.ntmps18
    go_wp2_with fail
    refine (check_any _ P _ (hv0.ext x0) hu hd).mono ?_
    rw [HC.out]
    rintro e w1 ⟨rfl, x1⟩
    go_wp2_with fail
    go_ret
    exact ⟨rfl, Ext.trans x0 x1⟩

theorem spares_any (v : Value) (P : PV) (s : Int) (w : World) (hv : IsPlan w v P) (hu : P.u.length ≤ 3000000000000) (hd : P.d.length ≤ 3000000000000) :
    Calls Try.prog 21 #[v, .int .i64 s] w fun e w' => e = .returned (.bool (decide (checkP P = 0) && decide (s ≤ P.k))) ∧ Ext w w' := by
  have hv0 := hv
  obtain ⟨A, c, B, d, rfl, hA, hB⟩ := hv
  have h0 := heap_alloc_new w (.cells #[.int .i64 P.k, .slice A P.u.length c, .slice B P.d.length d] 25)
  have x0 : Ext w (w.alloc (Obj.cells #[.int .i64 P.k, .slice A P.u.length c, .slice B P.d.length d] 25)) := (Below.refl _ w).alloc (Nat.le_refl _) _
  have hc : checkP P = 0 ∨ checkP P = 2 := by unfold checkP; split <;> simp
  have hm : ∀ w1, Ext (w.alloc (Obj.cells #[.int .i64 P.k, .slice A P.u.length c, .slice B P.d.length d] 25)) w1 → w1.cell? ⟨w.heap.size, 0, none⟩ = some (.int .i64 P.k) := fun w1 x1 => by
    rw [cell_of_row _ _ _ _ _ _ ((x1.block _ (Array.getElem?_eq_some_iff.1 h0).1).trans h0)]; rfl
  generalize hE : (decide (checkP P = 0) && decide (s ≤ P.k)) = R
  have H := Lib.hid hE
  clear hE
  rcases hc with hc | hc
  · have HC := Lib.hid hc
    go_enter Try.func21, Try.ntmps21
    by_cases hs : s ≤ P.k
    · have HR : R = true := by rw [← H.out]; simp [hc, hs]
      subst HR
      clear hc
      go_wp2_with fail
      refine (check_any _ P _ (hv0.ext x0) hu hd).mono ?_
      rw [HC.out]
      rintro e w1 ⟨rfl, x1⟩
      have m1 := hm _ x1
      go_wp2_with fail
      go_ret
      exact ⟨rfl, Ext.trans x0 x1⟩
    · have HR : R = false := by rw [← H.out]; simp [hs]
      subst HR
      clear hc
      go_wp2_with fail
      refine (check_any _ P _ (hv0.ext x0) hu hd).mono ?_
      rw [HC.out]
      rintro e w1 ⟨rfl, x1⟩
      have m1 := hm _ x1
      go_wp2_with fail
      go_ret
      refine ⟨?_, Ext.trans x0 x1⟩
      show Ending.returned (.bool (decide (s ≤ P.k))) = _
      rw [decide_eq_false (by omega)]
  · have HC := Lib.hid hc
    have HR : R = false := by rw [← H.out]; simp [hc]
    subst HR
    clear hc
    go_enter Try.func21, Try.ntmps21
    go_wp2_with fail
    refine (check_any _ P _ (hv0.ext x0) hu hd).mono ?_
    rw [HC.out]
    rintro e w1 ⟨rfl, x1⟩
    go_wp2_with fail
    go_ret
    exact ⟨rfl, Ext.trans x0 x1⟩

theorem kitplan_any (v : Value) (P : PV) (v2 : Value) (Q : PV) (w : World) (hv : IsPlan w v P) (hv2 : IsPlan w v2 Q) :
    Calls Try.prog 16 #[v, v2] w fun e w' => e = .returned (.bool (decide (P.k = Q.k) && (decide (P.u = Q.u) && decide (P.d = Q.d)))) ∧ Ext w w' := by
  obtain ⟨A, c, B, d, rfl, hA, hB⟩ := hv
  obtain ⟨A2, c2, B2, d2, rfl, hA2, hB2⟩ := hv2
  obtain ⟨K, U, D⟩ := P
  obtain ⟨K2, U2, D2⟩ := Q
  simp only at *
  obtain ⟨o1, ho1⟩ : ∃ o, o = Obj.cells #[.int .i64 K, .slice A U.length c, .slice B D.length d] 25 := ⟨_, rfl⟩
  obtain ⟨o2, ho2⟩ : ∃ o, o = Obj.cells #[.int .i64 K2, .slice A2 U2.length c2, .slice B2 D2.length d2] 25 := ⟨_, rfl⟩
  have h1 := heap_alloc_new w o1
  have h2 := heap_alloc_new (w.alloc o1) o2
  have x1 : Ext w (w.alloc o1) := (Below.refl _ w).alloc (Nat.le_refl _) _
  have x2 : Ext (w.alloc o1) ((w.alloc o1).alloc o2) := (Below.refl _ _).alloc (Nat.le_refl _) _
  have h1 := (x2.block _ (Array.getElem?_eq_some_iff.1 h1).1).trans h1
  rw [show (w.alloc o1).heap.size = w.heap.size + 1 by simp only [World.alloc, Array.size_push]] at h2
  have x0 := Ext.trans x1 x2
  have hA := hA.below x0
  have hB := hB.below x0
  have hA2 := hA2.below x0
  have hB2 := hB2.below x0
  clear x1 x2
  subst ho1
  subst ho2
  generalize hE : (decide (K = K2) && (decide (U = U2) && decide (D = D2))) = R
  have H := Lib.hid hE
  clear hE
  go_enter Try.func16, Try.ntmps16
  by_cases hk : K = K2
  · subst hk
    by_cases hu : U = U2
    · have HU := Lib.hid (decide_eq_true hu)
      have HR : R = decide (D = D2) := by rw [← H.out]; simp [hu]
      subst HR
      clear hu
      go_wp2_with fail
      generalize (w.alloc _).alloc _ = w0 at *
      refine (digests_any A c U A2 c2 U2 _ hA hA2).mono ?_
      rw [HU.out]
      rintro e w3 ⟨rfl, x3⟩
      have m1 : w3.cell? ⟨w.heap.size, 2, none⟩ = some (.slice B D.length d) := by rw [cell_of_row _ _ _ _ _ _ ((x3.block _ (Array.getElem?_eq_some_iff.1 h1).1).trans h1)]; rfl
      have m2 : w3.cell? ⟨w.heap.size + 1, 2, none⟩ = some (.slice B2 D2.length d2) := by rw [cell_of_row _ _ _ _ _ _ ((x3.block _ (Array.getElem?_eq_some_iff.1 h2).1).trans h2)]; rfl
      go_wp2_with fail
      refine (digests_any B d D B2 d2 D2 _ (hB.below x3) (hB2.below x3)).mono ?_
      rintro e w4 ⟨rfl, x4⟩
      go_wp2_with fail
      go_ret
      exact ⟨rfl, Ext.trans x0 (Ext.trans x3 x4)⟩
    · have HU := Lib.hid (decide_eq_false hu)
      have HR : R = false := by rw [← H.out]; simp [hu]
      subst HR
      clear hu
      go_wp2_with fail
      generalize (w.alloc _).alloc _ = w0 at *
      refine (digests_any A c U A2 c2 U2 _ hA hA2).mono ?_
      rw [HU.out]
      rintro e w3 ⟨rfl, x3⟩
      go_wp2_with fail
      go_ret
      exact ⟨rfl, Ext.trans x0 x3⟩
  · have HR : R = false := by rw [← H.out]; simp [hk]
    subst HR
    go_wp2_with fail
    go_ret
    exact ⟨rfl, x0⟩

theorem same_any (v : Value) (P : PV) (v2 : Value) (Q : PV) (w : World) (hv : IsPlan w v P) (hv2 : IsPlan w v2 Q) :
    Calls Try.prog 19 #[v, v2] w fun e w' => e = .returned (.bool (decide (P.k = Q.k) && (decide (P.u = Q.u) && decide (P.d = Q.d)))) ∧ Ext w w' := by
  obtain ⟨A, c, B, d, rfl, hA, hB⟩ := hv
  obtain ⟨A2, c2, B2, d2, rfl, hA2, hB2⟩ := hv2
  obtain ⟨K, U, D⟩ := P
  obtain ⟨K2, U2, D2⟩ := Q
  simp only at *
  obtain ⟨o1, ho1⟩ : ∃ o, o = Obj.cells #[.int .i64 K, .slice A U.length c, .slice B D.length d] 25 := ⟨_, rfl⟩
  obtain ⟨o2, ho2⟩ : ∃ o, o = Obj.cells #[.int .i64 K2, .slice A2 U2.length c2, .slice B2 D2.length d2] 25 := ⟨_, rfl⟩
  have h1 := heap_alloc_new w o1
  have h2 := heap_alloc_new (w.alloc o1) o2
  have x1 : Ext w (w.alloc o1) := (Below.refl _ w).alloc (Nat.le_refl _) _
  have x2 : Ext (w.alloc o1) ((w.alloc o1).alloc o2) := (Below.refl _ _).alloc (Nat.le_refl _) _
  have h1 := (x2.block _ (Array.getElem?_eq_some_iff.1 h1).1).trans h1
  rw [show (w.alloc o1).heap.size = w.heap.size + 1 by simp only [World.alloc, Array.size_push]] at h2
  have x0 := Ext.trans x1 x2
  have hA := hA.below x0
  have hB := hB.below x0
  have hA2 := hA2.below x0
  have hB2 := hB2.below x0
  clear x1 x2
  subst ho1
  subst ho2
  generalize hE : (decide (K = K2) && (decide (U = U2) && decide (D = D2))) = R
  have H := Lib.hid hE
  clear hE
  go_enter Try.func19, Try.ntmps19
  by_cases hk : K = K2
  · subst hk
    by_cases hu : U = U2
    · have HU := Lib.hid (decide_eq_true hu)
      have HR : R = decide (D = D2) := by rw [← H.out]; simp [hu]
      subst HR
      clear hu
      go_wp2_with fail
      generalize (w.alloc _).alloc _ = w0 at *
      refine (equal_any A c U A2 c2 U2 _ hA hA2).mono ?_
      rw [HU.out]
      rintro e w3 ⟨rfl, x3⟩
      have m1 : w3.cell? ⟨w.heap.size, 2, none⟩ = some (.slice B D.length d) := by rw [cell_of_row _ _ _ _ _ _ ((x3.block _ (Array.getElem?_eq_some_iff.1 h1).1).trans h1)]; rfl
      have m2 : w3.cell? ⟨w.heap.size + 1, 2, none⟩ = some (.slice B2 D2.length d2) := by rw [cell_of_row _ _ _ _ _ _ ((x3.block _ (Array.getElem?_eq_some_iff.1 h2).1).trans h2)]; rfl
      go_wp2_with fail
      refine (equal_any B d D B2 d2 D2 _ (hB.below x3) (hB2.below x3)).mono ?_
      rintro e w4 ⟨rfl, x4⟩
      go_wp2_with fail
      go_ret
      exact ⟨rfl, Ext.trans x0 (Ext.trans x3 x4)⟩
    · have HU := Lib.hid (decide_eq_false hu)
      have HR : R = false := by rw [← H.out]; simp [hu]
      subst HR
      clear hu
      go_wp2_with fail
      generalize (w.alloc _).alloc _ = w0 at *
      refine (equal_any A c U A2 c2 U2 _ hA hA2).mono ?_
      rw [HU.out]
      rintro e w3 ⟨rfl, x3⟩
      go_wp2_with fail
      go_ret
      exact ⟨rfl, Ext.trans x0 x3⟩
  · have HR : R = false := by rw [← H.out]; simp [hk]
    subst HR
    go_wp2_with fail
    go_ret
    exact ⟨rfl, x0⟩
end Go.Proofs.Ytigcfbpgbenabaa
