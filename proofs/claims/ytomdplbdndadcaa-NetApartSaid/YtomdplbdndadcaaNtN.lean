import Derived.Test.YtomdplbdndadcaaNtM
namespace Go.Proofs.Ytomdplbdndadcaa
open Go.RowKit

/-- Put's closure -/
theorem putfn_any (base p : Nat) (A : Option Addr) (c : Nat) (E : List EV) (qs : List Raw) (C : Option Addr) (d : Nat) (F : List EV) (ts : List Raw) (w : World)
    (hown : w.ownsRow base 38 3 (.slice A E.length c) E.length (cellsE E qs)) (hql : qs.length = E.length) (hF : Es w C d F ts) (hE : E.length ≤ 100000) (hFl : F.length ≤ 100000) (hF0 : 0 < F.length) (hb : base ≤ w.heap.size)
    (hp : w.cell? ⟨p, 0, none⟩ = some (.slice C F.length d)) :
    Calls Try.prog 29 #[.slice A E.length c, .pointer (some ⟨p, 0, none⟩)] w fun e w' => ∃ v', e = .returned v' ∧ w'.ownsRow base 38 3 v' (E ++ F).length (cellsE (E ++ F) (qs ++ ts)) ∧
      w.grownBy w' (Value.slice A E.length c).ownBlock ∧ (v'.ownBlock = (Value.slice A E.length c).ownBlock ∨ v'.ownBlock = some w.heap.size) := by
  have hct := insert_any base A c E qs C d F ts w hown hql hF hE hFl hF0 hb
  go_enter Try.func29, Try.ntmps29
  go_wp2_with fail
  refine hct.mono ?_
  rintro e w2 ⟨v', rfl, h1, h2, h3⟩
  have H := Lib.hid (And.intro h1 (And.intro h2 h3))
  clear h1 h2 h3
  go_wp2_with fail
  go_ret
  exact ⟨_, rfl, H.out⟩

/-- the element that is doubled -/
theorem twicefn_any (base p : Nat) (A : Option Addr) (c : Nat) (E : List EV) (qs : List Raw) (j : Nat) (w : World)
    (hown : w.ownsRow base 38 3 (.slice A E.length c) E.length (cellsE E qs)) (hs : Es w A c E qs) (hE : E.length ≤ 100000) (hj : j < E.length) (hr : E[j].r.length ≤ 100000) (hb : base ≤ w.heap.size)
    (hp : w.cell? ⟨p, 0, none⟩ = some (.int .i64 (j : Int))) :
    Calls Try.prog 28 #[.slice A E.length c, .pointer (some ⟨p, 0, none⟩)] w fun e w' => ∃ v' q, e = .returned v' ∧ w'.ownsRow base 38 3 v' (E.length + 1) (cellsE E qs ++ cellsE [E[j]] [q]) ∧ Bs w' q.1 q.2 E[j].r ∧ (∀ a, q.1 = some a → w.heap.size ≤ a.block ∧ ∃ cur, w'.heap[a.block]? = some (.cells cur 5 (0, 0))) ∧
      w.grownBy w' (Value.slice A E.length c).ownBlock ∧ (v'.ownBlock = (Value.slice A E.length c).ownBlock ∨ ∀ b, v'.ownBlock = some b → w.heap.size ≤ b) := by
  obtain ⟨i0, hi0, hz0, hz1, hz2⟩ := info_parts env_info
  obtain ⟨b1, o1, rfl, hr1⟩ := hs.at (by omega)
  obtain ⟨g1, g2, g3⟩ := hr1 j hj (by rw [hs.len]; exact hj)
  have hraw := hs.raw j hj (by rw [hs.len]; exact hj)
  obtain ⟨q, hq⟩ : ∃ q, q = qs[j]'(by rw [hs.len]; exact hj) := ⟨_, rfl⟩
  obtain ⟨x, hx⟩ : ∃ x, x = E[j] := ⟨_, rfl⟩
  rw [← hq] at g3 hraw
  rw [← hx] at g1 g2 g3 hraw hr ⊢
  clear hr1 hq hs hx
  go_enter Try.func28, Try.ntmps28
  go_wp2_with fail
  refine (own_any x.f x.t q.1 q.2 x.r w hraw (by omega)).mono ?_
  rintro e w2 ⟨B, d, rfl, hB, hBf, y2⟩
  have hblk : (Value.slice (some ⟨b1, o1, none⟩) E.length c).ownBlock ≠ none := by
    obtain ⟨g, cap, hv, _, _⟩ := World.ownsRow.form hown (by omega)
    rw [hv]
    simp [Value.ownBlock] <;> omega
  have hown2 := World.ownsRow.kept hown (below_grown (row := none) y2) (.inr hblk)
  have hnew : Sl (w2.alloc (.cells #[.int .i64 x.f, .int .i64 x.t, .slice B x.r.length d] 38)) (some ⟨w2.heap.size, 0, none⟩) 1 1 3 (cellsE [x] [(B, d)]) := by
    refine ⟨rfl, Nat.le_refl _, by simp [maxLen], (fun h => by cases h), ?_⟩
    rintro a ⟨⟩ i u hu
    rw [Addr.add_lit, Nat.zero_add, cell_of_row _ _ _ _ _ _ (heap_alloc_new _ _)]
    simpa [cellsE] using hu
  go_wp2_with (at_builtin; refine wpList_append_sl _ rfl (.tmp 4) (.tmp 10) 25 rfl base 38 i0 _ 3 40 Try.underlying25 hi0 hz0 hz1 hz2 (by simp [Value.cells]) (by omega) (.slice (some ⟨b1, o1, none⟩) E.length c) E.length (cellsE E qs) rfl (World.ownsRow.alloc hown2 _) (some ⟨w2.heap.size, 0, none⟩) 1 1 (cellsE [x] [(B, d)]) rfl hnew (cellsE_one _ _) (by unfold maxLen; omega) (by omega) (by have := y2.size; simp only [World.alloc, Array.size_push]; omega) ?_; intro v' w3 hown3 hg3 hat3)
  go_ret
  have xa := Ext.alloc w2 (.cells #[.int .i64 x.f, .int .i64 x.t, .slice B x.r.length d] 38)
  have hkB : ∀ a, B = some a → a.block < w2.heap.size → w3.heap[a.block]? = w2.heap[a.block]? := fun a ha hlt => by
    rw [hg3.block _ (Nat.lt_of_lt_of_le hlt xa.size) (fun e => ?_), xa.block _ hlt]
    obtain ⟨g, cap, hv, _, hgl⟩ := World.ownsRow.form hown (by omega)
    have h1 := (hBf a ha).1
    have h2 := (World.ownsRow.lt hown a.block e.symm).2
    omega
  refine ⟨v', (B, d), rfl, hown3, Sl.keep hB hkB, fun a ha => ?_, ⟨hg3.os.trans (xa.os.trans y2.os), hg3.tape.trans (xa.tape.trans y2.tape), hg3.output.trans (xa.output.trans y2.output), Nat.le_trans (Nat.le_trans y2.size xa.size) hg3.size, fun i hi hne => ?_⟩, ?_⟩
  · obtain ⟨h1, cur, h2⟩ := hBf a ha
    exact ⟨h1, cur, by rw [hkB a ha (Array.getElem?_eq_some_iff.1 h2).1]; exact h2⟩
  · have hi2 : i < w2.heap.size := Nat.lt_of_lt_of_le hi y2.size
    rw [hg3.block i (Nat.lt_of_lt_of_le hi2 xa.size) hne, xa.block i hi2, y2.block i hi]
  · rcases hat3 with h | h
    · exact .inl h
    · refine .inr fun b hb => ?_
      rw [h] at hb
      cases hb
      exact Nat.le_trans y2.size xa.size

/-- Twice's closure as 'changed' wants it -/
theorem twice_call (p j : Nat) (E : List EV) (w : World) (hE : E.length ≤ 100000) (hj : j < E.length) (hr : E[j].r.length ≤ 100000) (hpw : w.cell? ⟨p, 0, none⟩ = some (.int .i64 (j : Int))) :
    ∀ (w1 : World) (g cap : Nat) (qs : List Raw), Ext w w1 → w1.ownsRow (w.heap.size + 2) 38 3 (.slice (some ⟨g, 0, none⟩) E.length cap) E.length (cellsE E qs) → Es w1 (some ⟨g, 0, none⟩) cap E qs → Fr w1 (w.heap.size + 2) qs →
      Calls Try.prog 28 #[.slice (some ⟨g, 0, none⟩) E.length cap, .pointer (some ⟨p, 0, none⟩)] w1 fun e w2 => ∃ B d ss, e = .returned (.slice B (E ++ [E[j]]).length d) ∧ Es w2 B d (E ++ [E[j]]) ss ∧ (∀ a, B = some a → w.heap.size + 2 ≤ a.block) ∧ Fr w2 (w.heap.size + 2) ss ∧ Ext w w2 ∧ (∀ q, q < w1.heap.size → q ≠ g → w2.heap[q]? = w1.heap[q]?) := by
  intro w1 g cap qs hx hown hEs hfr
  have hpb := World.block_lt_of_cell? w _ hpw
  have hp1 := (hx.cell hpb).trans hpw
  obtain ⟨g', cap', hv, hgb, hgl⟩ := World.ownsRow.form hown (by omega)
  simp only [Value.slice.injEq, Option.some.injEq, Addr.mk.injEq, and_true, true_and] at hv
  obtain ⟨rfl, rfl⟩ := hv
  have hob : (Value.slice (some ⟨g, 0, none⟩) E.length cap).ownBlock = some g := by simp [Value.ownBlock] <;> omega
  refine (twicefn_any (w.heap.size + 2) p (some ⟨g, 0, none⟩) cap E qs j w1 hown hEs hE hj hr (by omega) hp1).mono ?_
  rintro e w2 ⟨v', q, rfl, hown2, hB, hBf, hg, _⟩
  obtain ⟨A', c', rfl, hsl, hge⟩ := Sl.of_own hown2
  rw [hob] at hg
  have hlen : (E ++ [E[j]]).length = E.length + 1 := by simp
  obtain ⟨cg, hcg⟩ := own_tag hown
  have hkq : ∀ r ∈ qs, ∀ a, r.1 = some a → a.block < w1.heap.size → w2.heap[a.block]? = w1.heap[a.block]? := fun r hr2 a ha hlt => hg.block _ hlt (fun e => hfr.ne hr2 ha hcg (by decide) (by cases e; rfl))
  have hfq : Fr w2 (w.heap.size + 2) (qs ++ [q]) := by
    refine (hfr.kept (Nat.le_refl _) hkq).append ?_
    intro r hr2 a ha
    simp at hr2
    subst hr2
    obtain ⟨h1, h2⟩ := hBf a ha
    exact ⟨by have := hx.size; omega, h2⟩
  refine ⟨A', c', qs ++ [q], by rw [hlen], ⟨by simp [hEs.len], by rw [hlen, cellsE_append hEs.len]; exact hsl, fun i h1 h2 => ?_⟩, hge, hfq, Below.grown hx hg hx.size (by rintro k ⟨⟩; omega), fun k hk hne => hg.block k hk (fun e => hne (by cases e; rfl))⟩
  · rcases Nat.lt_or_ge i E.length with hi | hi
    · rw [List.getElem_append_left hi, List.getElem_append_left (by rw [hEs.len]; exact hi)]
      exact Sl.keep (hEs.raw i hi (by rw [hEs.len]; exact hi)) (fun a ha hlt => hkq _ (List.getElem_mem _) a ha hlt)
    · have hi2 : i = E.length := by rw [hlen] at h1; omega
      subst hi2
      rw [List.getElem_append_right (Nat.le_refl _), List.getElem_append_right (by rw [hEs.len]; exact Nat.le_refl _)]
      simpa [hEs.len] using hB
end Go.Proofs.Ytomdplbdndadcaa
