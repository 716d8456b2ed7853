import Derived.Test.YtomdplbdndadcaaNtJ
namespace Go.Proofs.Ytomdplbdndadcaa
open Go.RowKit

theorem other3at {w : World} {g i j l : Nat} {x y z : Value} (k : Nat) (h : k ≠ g) : (((w.setCell ⟨g, i, none⟩ x).setCell ⟨g, j, none⟩ y).setCell ⟨g, l, none⟩ z).heap[k]? = w.heap[k]? := by
  rw [heap_setCell_other _ _ _ _ h, heap_setCell_other _ _ _ _ h, heap_setCell_other _ _ _ _ h]
theorem grown3 {w1 w2 : World} {g i j l : Nat} {x y z : Value} (h : w1.grownBy w2 (some g)) : w1.grownBy (((w2.setCell ⟨g, i, none⟩ x).setCell ⟨g, j, none⟩ y).setCell ⟨g, l, none⟩ z) (some g) :=
  ⟨h.os, h.tape, h.output, by simpa [World.setCell] using h.size, fun k hk hne => by rw [other3at k (fun e => hne (by rw [e]))]; exact h.block k hk hne⟩
theorem own_base {w : World} {base base' : Nat} {e : TypeId} {sz : Nat} {v : Value} {n : Nat} {cs : List Value} (h : w.ownsRow base e sz v n cs) (hb : base' ≤ base) : w.ownsRow base' e sz v n cs := by
  obtain ⟨h1, h2⟩ := h
  refine ⟨h1, ?_⟩
  rcases h2 with h2 | ⟨g, cap, cur, a, b, c⟩
  · exact .inl h2
  · exact .inr ⟨g, cap, cur, a, Nat.le_trans hb b, c⟩

theorem calls26 (x y : Value) (u : World) : (callFunc 26 #[x, y]).run Try.prog u = .ok (.enter 26 #[x, y]) u := by kernel_rfl
theorem calls28 (x y : Value) (u : World) : (callFunc 28 #[x, y]).run Try.prog u = .ok (.enter 28 #[x, y]) u := by kernel_rfl
theorem calls29 (x y : Value) (u : World) : (callFunc 29 #[x, y]).run Try.prog u = .ok (.enter 29 #[x, y]) u := by kernel_rfl

set_option maxHeartbeats 4000000 in
theorem changed_some (k p : Nat) (hcf : ∀ (x y : Value) (u : World), (callFunc k #[x, y]).run Try.prog u = .ok (.enter k #[x, y]) u) (n : Int) (A : Option Addr) (c : Nat) (E : List EV) (rs : List Raw) (w : World) (hA : Es w A c E rs) (hlE : E.length ≤ 100000) (hr : ∀ e ∈ E, e.r.length ≤ 100000) (h0 : 0 < E.length)
    (E2 : List EV) (base0 : Nat)
    (hcall : ∀ (w1 : World) (g cap : Nat) (qs : List Raw), Ext w w1 → w1.ownsRow (w.heap.size + 2) 38 3 (.slice (some ⟨g, 0, none⟩) E.length cap) E.length (cellsE E qs) → Es w1 (some ⟨g, 0, none⟩) cap E qs → Fr w1 (w.heap.size + 2) qs →
      Calls Try.prog k #[.slice (some ⟨g, 0, none⟩) E.length cap, .pointer (some ⟨p, 0, none⟩)] w1 fun e w2 => ∃ B d ss, e = .returned (.slice B E2.length d) ∧ Es w2 B d E2 ss ∧ (∀ a, B = some a → w.heap.size + 2 ≤ a.block) ∧ Fr w2 base0 ss ∧ Ext w w2 ∧ (∀ q, q < w1.heap.size → q ≠ g → w2.heap[q]? = w1.heap[q]?)) :
    Calls Try.prog 25 #[.agg #[.int .i64 n, .slice A E.length c], .func (.func k) #[] #[.pointer (some ⟨p, 0, none⟩)]] w fun e w2 => ∃ B d ss, e = .returned (.agg #[.int .i64 n, .slice B E2.length d]) ∧ Es w2 B d E2 ss ∧ (∀ a, B = some a → w.heap.size + 2 ≤ a.block) ∧ Fr w2 base0 ss ∧ Ext w w2 := by
  obtain ⟨o1, ho1⟩ : ∃ o, o = Obj.cells #[.int .i64 n, .slice A E.length c] 27 := ⟨_, rfl⟩
  obtain ⟨o2, ho2⟩ : ∃ o, o = Obj.cells #[.int .i64 0, .slice none 0 0] 27 := ⟨_, rfl⟩
  have h1 := heap_alloc_new w o1
  have h2 := heap_alloc_new (w.alloc o1) o2
  have x1 := Ext.alloc w o1
  have x2 := Ext.alloc (w.alloc o1) o2
  have h1 := (x2.block _ (Array.getElem?_eq_some_iff.1 h1).1).trans h1
  rw [show (w.alloc o1).heap.size = w.heap.size + 1 by simp only [World.alloc, Array.size_push]] at h2
  have x0 := Ext.trans x1 x2
  have hs0 : ((w.alloc o1).alloc o2).heap.size = w.heap.size + 2 := by simp only [World.alloc, Array.size_push]
  have HS0 := Lib.hid hs0
  clear hs0
  have hA0 := hA.below x0
  clear x1 x2
  subst ho1
  subst ho2
  have H1 := Lib.hid h1
  have H2 := Lib.hid h2
  have HCALL := Lib.hid hcall
  clear h1 h2 hcall
  go_enter Try.func25, Try.ntmps25
  go_wp2_with fail
  generalize (w.alloc _).alloc _ = w0 at *
  refine (clone_any A c E rs w0 hA0 (by omega)).mono ?_
  rintro e w1 ⟨v, rfl, hown, y1⟩
  obtain ⟨g, cap, rfl, hgb, hgl⟩ := hown.form h0
  have k1 := Lib.hid ((y1.block _ (Array.getElem?_eq_some_iff.1 H1.out).1).trans H1.out)
  have k2 := Lib.hid ((y1.block _ (Array.getElem?_eq_some_iff.1 H2.out).1).trans H2.out)
  have hrsl := hA.len
  have hraw : ∀ i (h1 : i < E.length) (h2 : i < rs.length), Bs w1 rs[i].1 rs[i].2 E[i].r := fun i h1 h2 => Sl.below (Sl.below (hA.raw i h1 h2) x0) y1
  have hsz := x0.size
  have hsz0 : w0.heap.size = w.heap.size + 2 := HS0.out
  have hown := own_base hown (base' := w.heap.size + 2) (by omega)
  have HSZ0 := Lib.hid hsz0
  clear hsz0
  have hstart : ∃ qs : List Raw, qs.length = E.length ∧ w1.ownsRow (w.heap.size + 2) 38 3 (.slice (some ⟨g, 0, none⟩) E.length cap) E.length (cellsE E qs) ∧ (∀ i (h1 : i < E.length) (h2 : i < qs.length), Bs w1 qs[i].1 qs[i].2 E[i].r ∧ (i < 0 → ∀ a, qs[i].1 = some a → w.heap.size + 2 ≤ a.block ∧ ∃ cur, w1.heap[a.block]? = some (.cells cur 5 (0, 0))) ∧ (0 ≤ i → qs[i] = rs[i]'(by omega))) ∧ w1.grownBy w1 (some g) :=
    ⟨rs, hrsl, hown, fun i h1 h2 => ⟨hraw i h1 h2, fun h => by omega, fun _ => rfl⟩, World.grownBy.refl _ _⟩
  have HSTART := Lib.hid hstart
  have HRAW := Lib.hid hraw
  have HR := Lib.hid hr
  clear hraw hstart hr hown
  have hlE2 : E.length ≤ 9223372036854775807 := by omega
  go_wp2_with fail
  go_loopw [12] (fun i wr => ∃ j : Nat, j ≤ E.length ∧ i = .int .i64 (j : Int) ∧ (∃ qs : List Raw, qs.length = E.length ∧ wr.ownsRow (w.heap.size + 2) 38 3 (.slice (some ⟨g, 0, none⟩) E.length cap) E.length (cellsE E qs) ∧ (∀ i (h1 : i < E.length) (h2 : i < qs.length), Bs wr qs[i].1 qs[i].2 E[i].r ∧ (i < j → ∀ a, qs[i].1 = some a → w.heap.size + 2 ≤ a.block ∧ ∃ cur, wr.heap[a.block]? = some (.cells cur 5 (0, 0))) ∧ (j ≤ i → qs[i] = rs[i]'(by omega))) ∧ w1.grownBy wr (some g))) (fun i _ => E.length - (intOf i).toNat)
  case atStart => exact ⟨0, by omega, rfl, HSTART.out⟩
  case round =>
    obtain ⟨j, hj, rfl, qs, hql, hown, hq, hgr⟩ := hrel
    have HQ := Lib.hid hq
    clear hq
    by_cases hjl : j < E.length
    · have hjq : j < qs.length := by omega
      obtain ⟨c1, c2, c3⟩ := cellsE_get (E := E) (rs := qs) j hjl hjq
      have hcj := fun m u (hu : (cellsE E qs)[m]? = some u) => hown.cells (g := g) (by simp [Value.ownBlock] <;> omega) m u hu
      have g1 := hcj _ _ c1
      have g2 := hcj _ _ c2
      have g3 := hcj _ _ c3
      rw [Addr.add_lit, Nat.zero_add] at g1 g2 g3
      obtain ⟨hb, _, _⟩ := HQ.out j hjl hjq
      obtain ⟨q, hqd⟩ : ∃ q, q = qs[j] := ⟨_, rfl⟩
      obtain ⟨e, he⟩ : ∃ e, e = E[j] := ⟨_, rfl⟩
      rw [← hqd] at g3 hb
      rw [← he] at g1 g2 g3 hb
      have her : e.r.length ≤ 100000 := by rw [he]; exact HR.out _ (List.getElem_mem hjl)
      have HE := Lib.hid he
      clear he hqd hcj c1 c2 c3
      go_wp2_with fail
      refine (own_any e.f e.t q.1 q.2 e.r wr hb (by omega)).mono ?_
      rintro e1 w2 ⟨B, d, rfl, hB, hBf, y2⟩
      have hown2 := hown.kept (below_grown (row := none) y2) (.inr (by simp [Value.ownBlock] <;> omega))
      have hglr : g < wr.heap.size := Nat.lt_of_lt_of_le hgl hgr.size
      obtain ⟨c1, c2, c3⟩ := cellsE_get (E := E) (rs := qs) j hjl hjq
      have hcj := fun m u (hu : (cellsE E qs)[m]? = some u) => hown2.cells (g := g) (by simp [Value.ownBlock] <;> omega) m u hu
      have g1 := hcj _ _ c1
      have g2 := hcj _ _ c2
      have g3 := hcj _ _ c3
      rw [Addr.add_lit, Nat.zero_add] at g1 g2 g3
      have z1 := World.ownsRow.frozenAt hown2 (j * 3)
      have z2 := World.ownsRow.frozenAt hown2 (j * 3 + 1)
      have z3 := World.ownsRow.frozenAt hown2 (j * 3 + 2)
      clear hcj c1 c2 c3
      have hset := own_set3 hown2 hql j hjl (B, d)
      rw [← HE.out] at hset
      have HSET := Lib.hid hset
      clear hset
      go_wp2_with fail
      have hgr2 : w1.grownBy w2 (some g) := ⟨y2.os.trans hgr.os, y2.tape.trans hgr.tape, y2.output.trans hgr.output, Nat.le_trans hgr.size y2.size, fun k hk hne => (y2.block k (Nat.lt_of_lt_of_le hk hgr.size)).trans (hgr.block k hk hne)⟩
      have hw1r : w.heap.size + 2 ≤ wr.heap.size := by have h1 := HSZ0.out; have h2 := hgr.size; omega
      go_roundw
      case rel =>
        refine ⟨j + 1, by omega, by go_num, qs.set j (B, d), by rw [List.length_set]; exact hql, HSET.out, ?_, grown3 hgr2⟩
        intro i h1 h2
        have hi2 : i < qs.length := by rwa [List.length_set] at h2
        obtain ⟨hbi, hfi, hri⟩ := HQ.out i h1 hi2
        obtain ⟨cg, hcg⟩ := own_tag hown
        by_cases hij : i = j
        · subst hij
          rw [List.getElem_set_self]
          refine ⟨?_, fun _ a ha => ?_, fun h => by omega⟩
          · rw [← HE.out]
            exact Sl.keep hB (fun a ha _ => other3at _ (by have := (hBf a ha).1; omega))
          · obtain ⟨h3, cur, h4⟩ := hBf a ha
            exact ⟨by omega, cur, by rw [other3at _ (by omega)]; exact h4⟩
        · rw [List.getElem_set_ne (fun e => hij e.symm)]
          have hgne : i < j → ∀ a, qs[i].1 = some a → a.block ≠ g := fun hlt a ha => by
            obtain ⟨_, cur, hc⟩ := hfi hlt a ha
            intro hab
            rw [hab, hcg] at hc
            simp at hc
          refine ⟨?_, fun h a ha => ?_, fun h => hri (by omega)⟩
          · refine Sl.keep2 (Sl.below hbi y2) (fun a ha hne => other3at _ ?_)
            rcases Nat.lt_or_ge i j with hlt | hge
            · exact hgne hlt a ha
            · have hrr := hri (by omega)
              have hlt := Sl.lt (hA.raw i h1 (by omega)) (by rw [← hrr]; exact ha) hne
              omega
          · have hlt : i < j := by omega
            obtain ⟨h3, cur, h4⟩ := hfi hlt a ha
            exact ⟨h3, cur, by rw [other3at _ (hgne hlt a ha), y2.block _ (Array.getElem?_eq_some_iff.1 h4).1]; exact h4⟩
      case measure => simp [intOf]; omega
    · have hjj : j = E.length := by omega
      have hraws : ∀ i (h1 : i < E.length) (h2 : i < qs.length), Bs wr qs[i].1 qs[i].2 E[i].r := fun i h1 h2 => (HQ.out i h1 h2).1
      have hfr : Fr wr (w.heap.size + 2) qs := by
        intro q hq a ha
        obtain ⟨i, hi, rfl⟩ := List.getElem_of_mem hq
        exact (HQ.out i (by omega) hi).2.1 (by omega) a ha
      have hs0 := HSZ0.out
      have xr : Ext w wr := Below.grown (Ext.trans x0 y1) hgr (by have := y1.size; omega) (by rintro k ⟨⟩; omega)
      have r1 := Lib.hid ((hgr.block w.heap.size (Array.getElem?_eq_some_iff.1 k1.out).1 (by intro e; cases e; omega)).trans k1.out)
      have r2 := Lib.hid ((hgr.block (w.heap.size + 1) (Array.getElem?_eq_some_iff.1 k2.out).1 (by intro e; cases e; omega)).trans k2.out)
      have hct := HCALL.out wr g cap qs xr hown (Es.of_own hown hql hraws) hfr
      have hnl : ¬ j < E.length := hjl
      clear hjj hs0
      go_wp2_with fail
      refine hct.mono ?_
      rintro e w2 ⟨B, d, ss, rfl, hE2, hB2, hss, x2, hkeep⟩
      have HFR := Lib.hid hss
      have q1 := Lib.hid ((hkeep w.heap.size (Array.getElem?_eq_some_iff.1 r1.out).1 (by have := HSZ0.out; omega)).trans r1.out)
      have q2 := Lib.hid ((hkeep (w.heap.size + 1) (Array.getElem?_eq_some_iff.1 r2.out).1 (by have := HSZ0.out; omega)).trans r2.out)
      have m0 : w2.cell? ⟨w.heap.size, 0, none⟩ = some (.int .i64 n) := by rw [cell_of_row _ _ _ _ _ _ q1.out]; rfl
      have m1 : w2.cell? ⟨w.heap.size, 1, none⟩ = some (.slice A E.length c) := by rw [cell_of_row _ _ _ _ _ _ q1.out]; rfl
      have n1 := frozen_of_row w2 w.heap.size 1 _ _ q1.out
      have p0 : w2.cell? ⟨w.heap.size + 1, 0, none⟩ = some (.int .i64 0) := by rw [cell_of_row _ _ _ _ _ _ q2.out]; rfl
      have p1 : w2.cell? ⟨w.heap.size + 1, 1, none⟩ = some (.slice none 0 0) := by rw [cell_of_row _ _ _ _ _ _ q2.out]; rfl
      have s0 := frozen_of_row w2 (w.heap.size + 1) 0 _ _ q2.out
      have s1 := frozen_of_row w2 (w.heap.size + 1) 1 _ _ q2.out
      go_wp2_with fail
      have hq2 : (w2.setCell ⟨w.heap.size, 1, none⟩ (.slice B E2.length d)).heap[w.heap.size + 1]? = _ := (heap_setCell_other w2 ⟨w.heap.size, 1, none⟩ (w.heap.size + 1) _ (by show w.heap.size + 1 ≠ w.heap.size; omega)).trans q2.out
      have hk := cells2 (.int .i64 n) (.slice B E2.length d) hq2
      have hoth : ∀ k, k ≠ w.heap.size ∧ k ≠ w.heap.size + 1 → (((w2.setCell ⟨w.heap.size, 1, none⟩ (.slice B E2.length d)).setCell ⟨w.heap.size + 1, 0, none⟩ (.int .i64 n)).setCell ⟨w.heap.size + 1, 1, none⟩ (.slice B E2.length d)).heap[k]? = w2.heap[k]? := fun k hk => by
        rw [other2 _ _ _ (by omega), heap_setCell_other w2 ⟨w.heap.size, 1, none⟩ k _ (by show k ≠ w.heap.size; omega)]
      have hne : ∀ q ∈ ss, ∀ a, q.1 = some a → a.block ≠ w.heap.size ∧ a.block ≠ w.heap.size + 1 := fun q hq a ha => ⟨hss.ne hq ha q1.out (by decide), hss.ne hq ha q2.out (by decide)⟩
      refine bodyPost_ret (results_cell1 rfl _ _ (w.heap.size + 1) _ rfl (net_load hk)) rfl ?_
      refine ⟨B, d, ss, rfl, ⟨hE2.len, hE2.sl.keep (fun a ha _ => hoth _ (by have := hB2 a ha; omega)), fun i h1 h2 => Sl.keep (hE2.raw i h1 h2) (fun a ha _ => hoth _ (hne _ (List.getElem_mem h2) a ha))⟩, hB2, hss.kept (Nat.le_refl _) (fun q hq a ha _ => hoth _ (hne q hq a ha)), ?_⟩
      exact Ext.set2 (Below.setCell x2 (p := ⟨w.heap.size, 1, none⟩) (Nat.le_refl _) _) (by omega) _ _
end Go.Proofs.Ytomdplbdndadcaa
