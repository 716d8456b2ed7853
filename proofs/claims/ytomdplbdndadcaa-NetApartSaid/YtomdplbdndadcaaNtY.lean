import Derived.Test.YtomdplbdndadcaaNtX
namespace Go.Proofs.Ytomdplbdndadcaa
open Go.RowKit

theorem to_ok (n node : Int) (A : Option Addr) (c : Nat) (E : List EV) (rs : List Raw) (w : World) (hA : Es w A c E rs) (hE : E.length ≤ 100000) (hc0 : checkN ⟨n, E⟩ = 0) :
    Calls Try.prog 20 #[.agg #[.int .i64 n, .slice A E.length c], .int .i64 node] w fun e w' => ∃ B d, e = .returned (.slice B (upT node (E.map EV.t) E.length).length d) ∧ Is w' B d (upT node (E.map EV.t) E.length) ∧ (∀ a, B = some a → w.heap.size ≤ a.block) ∧ Ext w w' := by
  obtain ⟨o1, ho1⟩ : ∃ ob, ob = Obj.cells #[.int .i64 n, .slice A E.length c] 27 := ⟨_, rfl⟩
  have x0 := Ext.alloc w o1
  have h1 := heap_alloc_new w o1
  have H1 := Lib.hid h1
  have X0 := Lib.hid x0
  have HC := Lib.hid hc0
  have hA0 := hA.below x0
  clear h1 x0 hc0
  subst ho1
  go_enter Try.func20, Try.ntmps20
  go_wp2_with fail
  generalize w.alloc _ = w0 at *
  have hct := check_any _ ⟨n, E⟩ rs w0 ⟨A, c, rfl, hA0⟩
  rw [HC.out] at hct
  refine hct.mono ?_
  rintro e w1 ⟨rfl, y1⟩
  have k1 := Lib.hid ((y1.block _ (Array.getElem?_eq_some_iff.1 H1.out).1).trans H1.out)
  have m0 : w1.cell? ⟨w.heap.size, 0, none⟩ = some (.int .i64 n) := by rw [cell_of_row _ _ _ _ _ _ k1.out]; rfl
  have m1 : w1.cell? ⟨w.heap.size, 1, none⟩ = some (.slice A E.length c) := by rw [cell_of_row _ _ _ _ _ _ k1.out]; rfl
  have hA1 := hA0.below y1
  clear hct
  go_wp2_with fail
  refine (places_any n node A E.length c w1).mono ?_
  rintro e w2 ⟨rfl, hw2⟩
  have xa := Ext.alloc w1 (.cells #[.int .i64 n, .slice A E.length c] 27)
  have xb := Ext.alloc (w1.alloc (.cells #[.int .i64 n, .slice A E.length c] 27)) (.cells #[.int .i64 node] 3)
  have ha := heap_alloc_new w1 (.cells #[.int .i64 n, .slice A E.length c] 27)
  have ha := (xb.block _ (Array.getElem?_eq_some_iff.1 ha).1).trans ha
  have hb := heap_alloc_new (w1.alloc (.cells #[.int .i64 n, .slice A E.length c] 27)) (.cells #[.int .i64 node] 3)
  have hs1 : (w1.alloc (.cells #[.int .i64 n, .slice A E.length c] 27)).heap.size = w1.heap.size + 1 := by simp only [World.alloc, Array.size_push]
  rw [hs1] at hb
  have xab := Ext.trans xa xb
  rw [← hw2] at ha hb xab
  have hl1 := (Array.getElem?_eq_some_iff.1 ha).1
  have hl2 := (Array.getElem?_eq_some_iff.1 hb).1
  have hcol := collect_any w1.heap.size (w1.heap.size + 1) n node A E.length c hE (E.map EV.t) w2 hl1 hl2 (by rw [cell_of_row _ _ _ _ _ _ ha]; rfl) (by rw [cell_of_row _ _ _ _ _ _ hb]; rfl) (TCells.of (hA1.below xab))
  have XAB := Lib.hid xab
  have HCOL := Lib.hid hcol
  clear hw2 xa xb ha hb hs1 xab hl1 hl2 hcol m0 m1
  go_wp2_with fail
  refine HCOL.out.mono ?_
  rintro e w3 ⟨v, rfl, hown, y3⟩
  obtain ⟨B, d, rfl, hs, hge⟩ := Sl.of_own hown
  obtain ⟨L, hL⟩ : ∃ L, L = upT node (E.map EV.t) E.length := ⟨_, rfl⟩
  rw [← hL] at hs ⊢
  have HL := Lib.hid hL
  have H := Lib.hid (And.intro hs (And.intro hge y3))
  clear hs hge y3 hown hL
  go_wp2_with fail
  go_ret
  rw [← HL.out]
  obtain ⟨hs, hge, y3⟩ := H.out
  have hsz1 := X0.out.size
  have hsz2 := y1.size
  have hsz3 := XAB.out.size
  exact ⟨B, d, rfl, hs, fun a ha => by have := hge a ha; omega, Ext.trans (Ext.trans X0.out y1) (Ext.trans XAB.out y3)⟩
end Go.Proofs.Ytomdplbdndadcaa
