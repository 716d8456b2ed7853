import Derived.Test.YtomdplbdndadcaaNtK
namespace Go.Proofs.Ytomdplbdndadcaa
open Go.RowKit

set_option maxHeartbeats 4000000 in
theorem changed_nil (k p : Nat) (hcf : ∀ (x y : Value) (u : World), (callFunc k #[x, y]).run Try.prog u = .ok (.enter k #[x, y]) u) (n : Int) (A : Option Addr) (c : Nat) (w : World) (hA : Es w A c [] [])
    (E2 : List EV) (base0 : Nat)
    (hcall : ∀ (w1 : World) (A1 : Option Addr) (c1 : Nat), Ext w w1 → w.heap.size + 2 ≤ w1.heap.size → w1.ownsRow (w.heap.size + 2) 38 3 (.slice A1 0 c1) 0 [] →
      Calls Try.prog k #[.slice A1 0 c1, .pointer (some ⟨p, 0, none⟩)] w1 fun e w2 => ∃ B d ss, e = .returned (.slice B E2.length d) ∧ Es w2 B d E2 ss ∧ (∀ a, B = some a → w.heap.size + 2 ≤ a.block) ∧ Fr w2 base0 ss ∧ Ext w w2 ∧ (∀ q, q < w.heap.size + 2 → w2.heap[q]? = w1.heap[q]?)) :
    Calls Try.prog 25 #[.agg #[.int .i64 n, .slice A 0 c], .func (.func k) #[] #[.pointer (some ⟨p, 0, none⟩)]] w fun e w2 => ∃ B d ss, e = .returned (.agg #[.int .i64 n, .slice B E2.length d]) ∧ Es w2 B d E2 ss ∧ (∀ a, B = some a → w.heap.size + 2 ≤ a.block) ∧ Fr w2 base0 ss ∧ Ext w w2 := by
  obtain ⟨o1, ho1⟩ : ∃ o, o = Obj.cells #[.int .i64 n, .slice A 0 c] 27 := ⟨_, rfl⟩
  obtain ⟨o2, ho2⟩ : ∃ o, o = Obj.cells #[.int .i64 0, .slice none 0 0] 27 := ⟨_, rfl⟩
  have h1 := heap_alloc_new w o1
  have h2 := heap_alloc_new (w.alloc o1) o2
  have x1 := Ext.alloc w o1
  have x2 := Ext.alloc (w.alloc o1) o2
  have h1 := (x2.block _ (Array.getElem?_eq_some_iff.1 h1).1).trans h1
  rw [show (w.alloc o1).heap.size = w.heap.size + 1 by simp only [World.alloc, Array.size_push]] at h2
  have x0 := Ext.trans x1 x2
  have hs0 : ((w.alloc o1).alloc o2).heap.size = w.heap.size + 2 := by simp only [World.alloc, Array.size_push]
  have HS0 := Lib.hid hs0
  clear hs0
  have hA0 := hA.below x0
  clear x1 x2
  subst ho1
  subst ho2
  have H1 := Lib.hid h1
  have H2 := Lib.hid h2
  have HCALL := Lib.hid hcall
  clear h1 h2 hcall
  go_enter Try.func25, Try.ntmps25
  go_wp2_with fail
  generalize (w.alloc _).alloc _ = w0 at *
  refine (clone_any A c [] [] w0 hA0 (by simp)).mono ?_
  rintro e w1 ⟨v, rfl, hown, y1⟩
  have hown := own_base hown (base' := w.heap.size + 2) (by have := HS0.out; omega)
  obtain ⟨A1, c1, rfl, _, _⟩ := Sl.of_own hown
  have k1 := Lib.hid ((y1.block _ (Array.getElem?_eq_some_iff.1 H1.out).1).trans H1.out)
  have k2 := Lib.hid ((y1.block _ (Array.getElem?_eq_some_iff.1 H2.out).1).trans H2.out)
  have hct := HCALL.out w1 A1 c1 (Ext.trans x0 y1) (by first | omega | (have := y1.size; omega) | (have := (Array.getElem?_eq_some_iff.1 k2.out).1; omega)) hown
  simp only [List.length_nil]
  go_wp2_with fail
  refine wp_loop_rounds 1 ?_
  rw [rounds_succ]
  go_wp2_with fail
  refine hct.mono ?_
  rintro e w2 ⟨B, d, ss, rfl, hE2, hB2, hss, x2, hkeep⟩
  have q1 := Lib.hid ((hkeep w.heap.size (by omega)).trans k1.out)
  have q2 := Lib.hid ((hkeep (w.heap.size + 1) (by omega)).trans k2.out)
  have m0 : w2.cell? ⟨w.heap.size, 0, none⟩ = some (.int .i64 n) := by rw [cell_of_row _ _ _ _ _ _ q1.out]; rfl
  have m1 : w2.cell? ⟨w.heap.size, 1, none⟩ = some (.slice A 0 c) := by rw [cell_of_row _ _ _ _ _ _ q1.out]; rfl
  have n1 := frozen_of_row w2 w.heap.size 1 _ _ q1.out
  have p0 : w2.cell? ⟨w.heap.size + 1, 0, none⟩ = some (.int .i64 0) := by rw [cell_of_row _ _ _ _ _ _ q2.out]; rfl
  have p1 : w2.cell? ⟨w.heap.size + 1, 1, none⟩ = some (.slice none 0 0) := by rw [cell_of_row _ _ _ _ _ _ q2.out]; rfl
  have s0 := frozen_of_row w2 (w.heap.size + 1) 0 _ _ q2.out
  have s1 := frozen_of_row w2 (w.heap.size + 1) 1 _ _ q2.out
  go_wp2_with fail
  have hq2 : (w2.setCell ⟨w.heap.size, 1, none⟩ (.slice B E2.length d)).heap[w.heap.size + 1]? = _ := (heap_setCell_other w2 ⟨w.heap.size, 1, none⟩ (w.heap.size + 1) _ (by show w.heap.size + 1 ≠ w.heap.size; omega)).trans q2.out
  have hk := cells2 (.int .i64 n) (.slice B E2.length d) hq2
  have hoth : ∀ k, k ≠ w.heap.size ∧ k ≠ w.heap.size + 1 → (((w2.setCell ⟨w.heap.size, 1, none⟩ (.slice B E2.length d)).setCell ⟨w.heap.size + 1, 0, none⟩ (.int .i64 n)).setCell ⟨w.heap.size + 1, 1, none⟩ (.slice B E2.length d)).heap[k]? = w2.heap[k]? := fun k hk => by
    rw [other2 _ _ _ (by omega), heap_setCell_other w2 ⟨w.heap.size, 1, none⟩ k _ (by show k ≠ w.heap.size; omega)]
  have hne : ∀ q ∈ ss, ∀ a, q.1 = some a → a.block ≠ w.heap.size ∧ a.block ≠ w.heap.size + 1 := fun q hq a ha => ⟨hss.ne hq ha q1.out (by decide), hss.ne hq ha q2.out (by decide)⟩
  refine bodyPost_ret (results_cell1 rfl _ _ (w.heap.size + 1) _ rfl (net_load hk)) rfl ?_
  refine ⟨B, d, ss, rfl, ⟨hE2.len, hE2.sl.keep (fun a ha _ => hoth _ (by have := hB2 a ha; omega)), fun i h1 h2 => Sl.keep (hE2.raw i h1 h2) (fun a ha _ => hoth _ (hne _ (List.getElem_mem h2) a ha))⟩, hB2, hss.kept (Nat.le_refl _) (fun q hq a ha _ => hoth _ (hne q hq a ha)), ?_⟩
  exact Ext.set2 (Below.setCell x2 (p := ⟨w.heap.size, 1, none⟩) (Nat.le_refl _) _) (by omega) _ _
end Go.Proofs.Ytomdplbdndadcaa
