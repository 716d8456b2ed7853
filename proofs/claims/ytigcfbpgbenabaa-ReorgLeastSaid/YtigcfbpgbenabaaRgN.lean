import Derived.Test.YtigcfbpgbenabaaRgM
namespace Go.Proofs.Ytigcfbpgbenabaa
open Go.RowKit

/-- the plan that leads back -/
def backP (P : PV) : PV × Int := if checkP P = 0 then (⟨P.k, P.d, P.u⟩, 0) else (PV.zero, 2)

theorem IsPlan.keep {w w' : World} {v : Value} {P : PV} {b : Nat} (h : IsPlan w v P) (hk : ∀ k, k ≠ b → w'.heap[k]? = w.heap[k]?) (hb : ∀ A c B d, v = .agg #[.int .i64 P.k, .slice A P.u.length c, .slice B P.d.length d] → (∀ a, A = some a → a.block ≠ b) ∧ ∀ a, B = some a → a.block ≠ b) : IsPlan w' v P := by
  obtain ⟨A, c, B, d, rfl, h1, h2⟩ := h
  obtain ⟨hA, hB⟩ := hb A c B d rfl
  exact ⟨A, c, B, d, rfl, h1.keep (fun a ha _ => hk _ (hA a ha)), h2.keep (fun a ha _ => hk _ (hB a ha))⟩

/-- cells of a slice do not lie in a block of a plan's cells: the block is not one of digests -/
theorem Ds.apart {w : World} {A : Option Addr} {c : Nat} {L : List (List UInt8)} (h : Ds w A c L) {b : Nat} {x y z : Value} {t : TypeId} (hb : w.heap[b]? = some (.cells #[x, y, z] t (0, 0))) : ∀ (W : World), (∀ k, k ≠ b → W.heap[k]? = w.heap[k]?) → Ds W A c L := by
  intro W hW
  refine ⟨?_, h.ok⟩
  cases L with
  | nil =>
    have hl := h.sl.len
    refine ⟨h.sl.len, h.sl.le, h.sl.max, h.sl.nul, fun a ha j u hu => ?_⟩
    simp [cellsD] at hu
  | cons q L =>
    refine h.sl.keep fun a ha _ => hW _ fun e => ?_
    have hq := h.ok q (List.mem_cons_self ..)
    have h1 : ∀ i, i < 4 → ∃ u, (cellsD (q :: L))[i]? = some u := fun i hi => by
      rw [cellsD_cons, List.getElem?_append_left (by rw [List.length_map]; omega), List.getElem?_map, List.getElem?_eq_getElem (by omega)]
      exact ⟨_, rfl⟩
    have hs : a.spot = none := by
      obtain ⟨u, hu⟩ := h1 0 (by omega)
      have h2 := World.cell?_spot (h.sl.cell a ha 0 u hu)
      simpa [Addr.add] using h2
    obtain ⟨b', o, s⟩ := a
    simp only at hs e
    subst hs
    subst e
    obtain ⟨u, hu⟩ := h1 3 (by omega)
    have h3 := h.sl.cell _ ha 3 u hu
    rw [Addr.add_mid, cell_of_row _ _ _ _ _ _ hb] at h3
    have := (Array.getElem?_eq_some_iff.1 h3).1
    simp at this
    omega

set_option maxHeartbeats 1000000 in
theorem back_any (v : Value) (P : PV) (w : World) (hv : IsPlan w v P) (hu : P.u.length ≤ 3000000000000) (hd : P.d.length ≤ 3000000000000) :
    Calls Try.prog 20 #[v] w fun e w' => ∃ v, e = .returned (.tuple #[v, .int .i64 (backP P).2]) ∧ IsPlan w' v (backP P).1 ∧ Ext w w' := by
  have hv0 := hv
  obtain ⟨A, c, B, d, rfl, hA, hB⟩ := hv
  obtain ⟨o1, ho1⟩ : ∃ o, o = Obj.cells #[.int .i64 P.k, .slice A P.u.length c, .slice B P.d.length d] 25 := ⟨_, rfl⟩
  obtain ⟨o2, ho2⟩ : ∃ o, o = Obj.cells #[.int .i64 0, .slice none 0 0, .slice none 0 0] 25 := ⟨_, rfl⟩
  have h1 := heap_alloc_new w o1
  have h2 := heap_alloc_new (w.alloc o1) o2
  have x1 : Ext w (w.alloc o1) := (Below.refl _ w).alloc (Nat.le_refl _) _
  have x2 : Ext (w.alloc o1) ((w.alloc o1).alloc o2) := (Below.refl _ _).alloc (Nat.le_refl _) _
  have h1 := (x2.block _ (Array.getElem?_eq_some_iff.1 h1).1).trans h1
  rw [show (w.alloc o1).heap.size = w.heap.size + 1 by simp only [World.alloc, Array.size_push]] at h2
  have x0 := Ext.trans x1 x2
  clear x1 x2
  subst ho1
  subst ho2
  have hc : checkP P = 0 ∨ checkP P = 2 := by unfold checkP; split <;> simp
  rcases hc with hc | hc
  · rw [show backP P = (⟨P.k, P.d, P.u⟩, 0) by unfold backP; rw [if_pos hc]]
    have HC := Lib.hid hc
    clear hc
    go_enter Try.func20, Try.ntmps20
    go_wp2_with fail
    generalize (w.alloc _).alloc _ = w0 at *
    refine (check_any _ P _ (hv0.ext x0) hu hd).mono ?_
    rw [HC.out]
    rintro e w1 ⟨rfl, y1⟩
    have k1 := (y1.block _ (Array.getElem?_eq_some_iff.1 h1).1).trans h1
    have k2 := (y1.block _ (Array.getElem?_eq_some_iff.1 h2).1).trans h2
    have m0 : w1.cell? ⟨w.heap.size, 0, none⟩ = some (.int .i64 P.k) := by rw [cell_of_row _ _ _ _ _ _ k1]; rfl
    have m1 : w1.cell? ⟨w.heap.size, 1, none⟩ = some (.slice A P.u.length c) := by rw [cell_of_row _ _ _ _ _ _ k1]; rfl
    have m2 : w1.cell? ⟨w.heap.size, 2, none⟩ = some (.slice B P.d.length d) := by rw [cell_of_row _ _ _ _ _ _ k1]; rfl
    go_wp2_with fail
    refine (turned_any _ P _ (hv0.ext (Ext.trans x0 y1)) (by omega) (by omega)).mono ?_
    rintro e w3 ⟨v, rfl, hp, x3⟩
    obtain ⟨A3, c3, B3, d3, rfl, f1, f2⟩ := hp
    simp only at f1 f2 ⊢
    have k3 := (x3.block _ (Array.getElem?_eq_some_iff.1 k2).1).trans k2
    have q0 : w3.cell? ⟨w.heap.size + 1, 0, none⟩ = some (.int .i64 0) := by rw [cell_of_row _ _ _ _ _ _ k3]; rfl
    have q1 : w3.cell? ⟨w.heap.size + 1, 1, none⟩ = some (.slice none 0 0) := by rw [cell_of_row _ _ _ _ _ _ k3]; rfl
    have q2 : w3.cell? ⟨w.heap.size + 1, 2, none⟩ = some (.slice none 0 0) := by rw [cell_of_row _ _ _ _ _ _ k3]; rfl
    have s0 := frozen_of_row w3 (w.heap.size + 1) 0 _ _ k3
    have s1 := frozen_of_row w3 (w.heap.size + 1) 1 _ _ k3
    have s2 := frozen_of_row w3 (w.heap.size + 1) 2 _ _ k3
    go_wp2_with fail
    refine bodyPost_ret (results_plan2 rfl _ _ (w.heap.size + 1) _ rfl (plan_load (cells3 (.int .i64 P.k) (.slice A3 P.d.length c3) (.slice B3 P.u.length d3) k3))) rfl ?_
    exact ⟨_, rfl, ⟨A3, c3, B3, d3, rfl, f1.apart k3 _ (other3 _ _ _), f2.apart k3 _ (other3 _ _ _)⟩, (Ext.trans x0 (Ext.trans y1 x3)).set3 (by omega) _ _ _⟩
  · rw [show backP P = (PV.zero, 2) by unfold backP; rw [if_neg (by omega)]]
    have HC := Lib.hid hc
    clear hc
    go_enter Try.func20, Try.ntmps20
    go_wp2_with fail
    generalize (w.alloc _).alloc _ = w0 at *
    refine (check_any _ P _ (hv0.ext x0) hu hd).mono ?_
    rw [HC.out]
    rintro e w1 ⟨rfl, y1⟩
    have k2 := (y1.block _ (Array.getElem?_eq_some_iff.1 h2).1).trans h2
    have q0 : w1.cell? ⟨w.heap.size + 1, 0, none⟩ = some (.int .i64 0) := by rw [cell_of_row _ _ _ _ _ _ k2]; rfl
    have q1 : w1.cell? ⟨w.heap.size + 1, 1, none⟩ = some (.slice none 0 0) := by rw [cell_of_row _ _ _ _ _ _ k2]; rfl
    have q2 : w1.cell? ⟨w.heap.size + 1, 2, none⟩ = some (.slice none 0 0) := by rw [cell_of_row _ _ _ _ _ _ k2]; rfl
    have s0 := frozen_of_row w1 (w.heap.size + 1) 0 _ _ k2
    have s1 := frozen_of_row w1 (w.heap.size + 1) 1 _ _ k2
    have s2 := frozen_of_row w1 (w.heap.size + 1) 2 _ _ k2
    go_wp2_with fail
    refine bodyPost_ret (results_plan2 rfl _ _ (w.heap.size + 1) _ rfl (plan_load (cells3 (.int .i64 0) (.slice none 0 0) (.slice none 0 0) k2))) rfl ?_
    exact ⟨_, rfl, IsPlan.zero _, (Ext.trans x0 y1).set3 (by omega) _ _ _⟩
end Go.Proofs.Ytigcfbpgbenabaa
