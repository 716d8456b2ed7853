import Derived.Test.YtomdplbdndadcaaNtC
namespace Go.Proofs.Ytomdplbdndadcaa
open Go.RowKit

theorem checkN_val (M : NV) : checkN M = 0 ∨ checkN M = 2 := by unfold checkN; split <;> simp

/-- the error of a place -/
def atN (M : NV) (i : Int) : Int := if checkN M ≠ 0 then 2 else if i < 0 ∨ (M.l.length : Int) ≤ i then 6 else 0

theorem at_any (v : Value) (M : NV) (rs : List Raw) (i : Int) (w : World) (hv : IsNet w v M rs) :
    Calls Try.prog 24 #[v, .int .i64 i] w fun e w' => e = .returned (.int .i64 (atN M i)) ∧ Ext w w' := by
  have hv0 := hv
  obtain ⟨A, c, rfl, hA⟩ := hv
  have h0 := heap_alloc_new w (.cells #[.int .i64 M.n, .slice A M.l.length c] 27)
  have x0 := Ext.alloc w (.cells #[.int .i64 M.n, .slice A M.l.length c] 27)
  have hv1 := hv0.ext x0
  have H0 := Lib.hid h0
  clear h0
  rcases checkN_val M with hc | hc
  · have HC := Lib.hid hc
    by_cases h1 : i < 0
    · rw [show atN M i = 6 by unfold atN; rw [if_neg (by omega), if_pos (.inl h1)]]
      clear hc
      go_enter Try.func24, Try.ntmps24
      go_wp2_with fail
      have hct := check_any _ M rs _ hv1
      rw [HC.out] at hct
      refine hct.mono ?_
      rintro e w1 ⟨rfl, x1⟩
      clear hct
      go_wp2_with fail
      go_ret
      exact ⟨rfl, Ext.trans x0 x1⟩
    · by_cases h2 : (M.l.length : Int) ≤ i
      · rw [show atN M i = 6 by unfold atN; rw [if_neg (by omega), if_pos (.inr h2)]]
        clear hc
        go_enter Try.func24, Try.ntmps24
        go_wp2_with fail
        have hct := check_any _ M rs _ hv1
        rw [HC.out] at hct
        refine hct.mono ?_
        rintro e w1 ⟨rfl, x1⟩
        clear hct
        have m1 : w1.cell? ⟨w.heap.size, 1, none⟩ = some (.slice A M.l.length c) := by rw [cell_of_row _ _ _ _ _ _ ((x1.block _ (Array.getElem?_eq_some_iff.1 H0.out).1).trans H0.out)]; rfl
        go_wp2_with fail
        go_ret
        exact ⟨rfl, Ext.trans x0 x1⟩
      · rw [show atN M i = 0 by unfold atN; rw [if_neg (by omega), if_neg (by omega)]]
        have h3 : ¬ i < 0 := h1
        have h4 : ¬ (M.l.length : Int) ≤ i := h2
        clear hc h1 h2
        go_enter Try.func24, Try.ntmps24
        go_wp2_with fail
        have hct := check_any _ M rs _ hv1
        rw [HC.out] at hct
        refine hct.mono ?_
        rintro e w1 ⟨rfl, x1⟩
        clear hct
        have m1 : w1.cell? ⟨w.heap.size, 1, none⟩ = some (.slice A M.l.length c) := by rw [cell_of_row _ _ _ _ _ _ ((x1.block _ (Array.getElem?_eq_some_iff.1 H0.out).1).trans H0.out)]; rfl
        go_wp2_with fail
        go_ret
        exact ⟨rfl, Ext.trans x0 x1⟩
  · have HC := Lib.hid hc
    rw [show atN M i = 2 by unfold atN; rw [if_pos (by omega)]]
    clear hc
    go_enter Try.func24, Try.ntmps24
    go_wp2_with fail
    have hct := check_any _ M rs _ hv1
    rw [HC.out] at hct
    refine hct.mono ?_
    rintro e w1 ⟨rfl, x1⟩
    clear hct
    go_wp2_with fail
    go_ret
    exact ⟨rfl, Ext.trans x0 x1⟩

def newN (n : Int) : NV × Int := if checkN ⟨n, []⟩ = 0 then (⟨n, []⟩, 0) else (⟨0, []⟩, 2)

set_option maxHeartbeats 1000000 in
theorem new_any (n : Int) (w : World) :
    Calls Try.prog 9 #[.int .i64 n] w fun e w' => e = .returned (.tuple #[.agg #[.int .i64 (newN n).1.n, .slice none 0 0], .int .i64 (newN n).2]) ∧ Ext w w' := by
  obtain ⟨o1, ho1⟩ : ∃ o, o = Obj.cells #[.int .i64 0, .slice none 0 0] 27 := ⟨_, rfl⟩
  obtain ⟨o2, ho2⟩ : ∃ o, o = Obj.cells #[.int .i64 n, .slice none 0 0] 27 := ⟨_, rfl⟩
  have h1 := heap_alloc_new w o1
  have h2 := heap_alloc_new (w.alloc o1) o2
  have x1 := Ext.alloc w o1
  have x2 := Ext.alloc (w.alloc o1) o2
  have h1 := (x2.block _ (Array.getElem?_eq_some_iff.1 h1).1).trans h1
  rw [show (w.alloc o1).heap.size = w.heap.size + 1 by simp only [World.alloc, Array.size_push]] at h2
  have x0 := Ext.trans x1 x2
  clear x1 x2
  subst ho1
  subst ho2
  have H1 := Lib.hid h1
  have H2 := Lib.hid h2
  clear h1 h2
  rcases checkN_val ⟨n, []⟩ with hc | hc
  · rw [show newN n = (⟨n, []⟩, 0) by unfold newN; rw [if_pos hc]]
    have HC := Lib.hid hc
    clear hc
    go_enter Try.func9, Try.ntmps9
    go_wp2_with fail
    have hct := check_any (.agg #[.int .i64 n, .slice none 0 0]) ⟨n, []⟩ [] ((w.alloc (.cells #[.int .i64 0, .slice none 0 0] 27)).alloc (.cells #[.int .i64 n, .slice none 0 0] 27)) ⟨none, 0, rfl, Es.nil _⟩
    rw [HC.out] at hct
    refine hct.mono ?_
    rintro e w3 ⟨rfl, x3⟩
    clear hct
    have k1 := Lib.hid ((x3.block _ (Array.getElem?_eq_some_iff.1 H1.out).1).trans H1.out)
    have k2 := Lib.hid ((x3.block _ (Array.getElem?_eq_some_iff.1 H2.out).1).trans H2.out)
    have m0 : w3.cell? ⟨w.heap.size, 0, none⟩ = some (.int .i64 0) := by rw [cell_of_row _ _ _ _ _ _ k1.out]; rfl
    have m1 : w3.cell? ⟨w.heap.size, 1, none⟩ = some (.slice none 0 0) := by rw [cell_of_row _ _ _ _ _ _ k1.out]; rfl
    have n0 := frozen_of_row w3 w.heap.size 0 _ _ k1.out
    have n1 := frozen_of_row w3 w.heap.size 1 _ _ k1.out
    have q0 : w3.cell? ⟨w.heap.size + 1, 0, none⟩ = some (.int .i64 n) := by rw [cell_of_row _ _ _ _ _ _ k2.out]; rfl
    have q1 : w3.cell? ⟨w.heap.size + 1, 1, none⟩ = some (.slice none 0 0) := by rw [cell_of_row _ _ _ _ _ _ k2.out]; rfl
    go_wp2_with fail
    refine bodyPost_ret (results_cell2 rfl _ _ w.heap.size _ rfl (net_load (cells2 (.int .i64 n) (.slice none 0 0) k1.out))) rfl ?_
    exact ⟨rfl, (Ext.trans x0 x3).set2 (Nat.le_refl _) _ _⟩
  · rw [show newN n = (⟨0, []⟩, 2) by unfold newN; rw [if_neg (by omega)]]
    have HC := Lib.hid hc
    clear hc
    go_enter Try.func9, Try.ntmps9
    go_wp2_with fail
    have hct := check_any (.agg #[.int .i64 n, .slice none 0 0]) ⟨n, []⟩ [] ((w.alloc (.cells #[.int .i64 0, .slice none 0 0] 27)).alloc (.cells #[.int .i64 n, .slice none 0 0] 27)) ⟨none, 0, rfl, Es.nil _⟩
    rw [HC.out] at hct
    refine hct.mono ?_
    rintro e w3 ⟨rfl, x3⟩
    clear hct
    have k1 := Lib.hid ((x3.block _ (Array.getElem?_eq_some_iff.1 H1.out).1).trans H1.out)
    have m0 : w3.cell? ⟨w.heap.size, 0, none⟩ = some (.int .i64 0) := by rw [cell_of_row _ _ _ _ _ _ k1.out]; rfl
    have m1 : w3.cell? ⟨w.heap.size, 1, none⟩ = some (.slice none 0 0) := by rw [cell_of_row _ _ _ _ _ _ k1.out]; rfl
    have n0 := frozen_of_row w3 w.heap.size 0 _ _ k1.out
    have n1 := frozen_of_row w3 w.heap.size 1 _ _ k1.out
    go_wp2_with fail
    refine bodyPost_ret (results_cell2 rfl _ _ w.heap.size _ rfl (net_load (cells2 (.int .i64 0) (.slice none 0 0) k1.out))) rfl ?_
    exact ⟨rfl, (Ext.trans x0 x3).set2 (Nat.le_refl _) _ _⟩
end Go.Proofs.Ytomdplbdndadcaa
