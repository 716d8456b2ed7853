import Derived.Test.YtomdplbdndadcaaNtO
import Derived.Deep.RegionLaw
namespace Go.Proofs.Ytomdplbdndadcaa
open Go.RowKit

theorem zero38 (w : World) : (zeroValue 38).run Try.prog w = .ok (.agg #[.int .i64 0, .int .i64 0, .slice none 0 0]) w := by kernel_rfl

/-- 'clear(s)', s one envelope -/
theorem run_clear_one (w : World) (ty : TypeId) (b o c : Nat)
    (hc : ∀ j, j < 3 → (w.cell? ⟨b, o + j, none⟩).isSome = true) (hf : ∀ j, j < 3 → w.frozen? ⟨b, o + j, none⟩ = false) :
    (Builtin.clear_ #[25] ty #[.slice (some ⟨b, o, none⟩) 1 c]).run Try.prog w = .ok (.tuple #[]) (w.setCells b o [.int .i64 0, .int .i64 0, .slice none 0 0]) := by
  have hst := run_storeCells_cells (P := Try.prog) b o [.int .i64 0, .int .i64 0, .slice none 0 0] 0 w (by simpa using hc) (by simpa using hf) (by intro v hv; simp at hv; rcases hv with rfl | rfl | rfl <;> rfl)
  simp only [Nat.add_zero] at hst
  have hz : (Builtin.zeroCells (Value.agg #[.int .i64 0, .int .i64 0, .slice none 0 0]).cells 1).toList = [.int .i64 0, .int .i64 0, .slice none 0 0] := by
    simp [Builtin.zeroCells, Value.cells]
    rfl
  simp [Builtin.clear_, run_underlying (P := Try.prog) Try.underlying25, hz, hst]

theorem setCells_heap (b : Nat) : ∀ (vs : List Value) (o : Nat) (w : World) (k : Nat), k ≠ b → (w.setCells b o vs).heap[k]? = w.heap[k]?
  | [], _, _, _, _ => rfl
  | v :: r, o, w, k, h => by
    rw [World.setCells, setCells_heap b r (o + 1) _ k h, heap_setCell_other w ⟨b, o, none⟩ k v h]
theorem setCells_rest (b : Nat) : ∀ (vs : List Value) (o : Nat) (w : World), (w.setCells b o vs).heap.size = w.heap.size ∧ (w.setCells b o vs).os = w.os ∧ (w.setCells b o vs).tape = w.tape ∧ (w.setCells b o vs).output = w.output
  | [], _, _ => ⟨rfl, rfl, rfl, rfl⟩
  | v :: r, o, w => by
    obtain ⟨h1, h2, h3, h4⟩ := setCells_rest b r (o + 1) (w.setCell ⟨b, o, none⟩ v)
    rw [World.setCells]
    exact ⟨h1.trans (by simp [World.setCell]), h2.trans (by simp [World.setCell]), h3.trans (by simp [World.setCell]), h4.trans (by simp [World.setCell])⟩
theorem setCells_grown (b : Nat) (vs : List Value) (o : Nat) (w : World) : w.grownBy (w.setCells b o vs) (some b) := by
  obtain ⟨h1, h2, h3, h4⟩ := setCells_rest b vs o w
  exact ⟨h2, h3, h4, by omega, fun k _ hk => setCells_heap b vs o w k (fun e => hk (by rw [e]))⟩

theorem cellsE_take : ∀ {E : List EV} {rs : List Raw} (j : Nat), cellsE (E.take j) (rs.take j) = (cellsE E rs).take (j * 3)
  | [], rs, j => by cases rs <;> simp [cellsE]
  | e :: E, [], j => by cases j <;> simp [cellsE]
  | e :: E, q :: rs, 0 => by simp [cellsE]
  | e :: E, q :: rs, j + 1 => by
    have ih := cellsE_take (E := E) (rs := rs) j
    rw [show (j + 1) * 3 = j * 3 + 3 by omega]
    simp [cellsE, ih]
theorem cellsE_drop : ∀ {E : List EV} {rs : List Raw} (j : Nat), cellsE (E.drop j) (rs.drop j) = (cellsE E rs).drop (j * 3)
  | [], rs, j => by cases rs <;> simp [cellsE]
  | e :: E, [], j => by cases j <;> simp [cellsE]
  | e :: E, q :: rs, 0 => by simp
  | e :: E, q :: rs, j + 1 => by
    have ih := cellsE_drop (E := E) (rs := rs) j
    rw [show (j + 1) * 3 = j * 3 + 3 by omega]
    simp [cellsE, ih]

/-- what stands behind the deletion -/
theorem deleted_sl {w : World} {base g cap : Nat} {E : List EV} {qs : List Raw} {j : Nat} (hown : w.ownsRow base 38 3 (.slice (some ⟨g, 0, none⟩) E.length cap) E.length (cellsE E qs)) (hql : qs.length = E.length) (hj : j < E.length) (zs : List Value) (_hz : zs.length = 3) :
    Sl ((w.drew.setCells g (j * 3) (cellsE (E.drop (j + 1)) (qs.drop (j + 1)))).setCells g ((j + (E.length - (j + 1))) * 3) zs) (some ⟨g, 0, none⟩) (E.eraseIdx j).length cap 3 (cellsE (E.eraseIdx j) (qs.eraseIdx j)) := by
  obtain ⟨A, c, hv, hs, _⟩ := Sl.of_own hown
  simp only [Value.slice.injEq, true_and] at hv
  obtain ⟨rfl, rfl⟩ := hv
  have hel : (E.eraseIdx j).length = E.length - 1 := by rw [List.length_eraseIdx]; simp [hj]
  have hqe : (qs.eraseIdx j).length = E.length - 1 := by rw [List.length_eraseIdx]; simp [hql, hj]
  have hcE := cellsE_length hql
  have hnl : (cellsE (E.drop (j + 1)) (qs.drop (j + 1))).length = (E.length - (j + 1)) * 3 := by rw [cellsE_length (by simp [hql])]; simp
  have hcells : ∀ i u, (cellsE E qs)[i]? = some u → w.cell? ⟨g, i, none⟩ = some u := fun i u hu => by
    have := hs.cell _ rfl i u hu
    rwa [Addr.add_lit, Nat.zero_add] at this
  have hsome : ∀ i, i < E.length * 3 → (w.cell? ⟨g, i, none⟩).isSome = true := fun i hi => by
    rw [hcells i _ (List.getElem?_eq_getElem (by omega))]; rfl
  refine ⟨by rw [cellsE_length (by omega)], by have := hs.le; omega, hs.max, (fun h => by cases h), ?_⟩
  rintro a ⟨⟩ i u hu
  rw [Addr.add_lit, Nat.zero_add]
  have hil : i < (E.length - 1) * 3 := by
    have := (List.getElem?_eq_some_iff.1 hu).1
    rw [cellsE_length (by omega), hel] at this
    exact this
  have hsplit : cellsE (E.eraseIdx j) (qs.eraseIdx j) = (cellsE E qs).take (j * 3) ++ (cellsE E qs).drop ((j + 1) * 3) := by
    rw [List.eraseIdx_eq_take_drop_succ, List.eraseIdx_eq_take_drop_succ, cellsE_append (by simp [hql]), cellsE_take, cellsE_drop]
  rw [hsplit] at hu
  rw [World.cell?_setCells_out _ _ _ _ _ (fun _ _ => Or.inl (by show i < _; omega))]
  rcases Nat.lt_or_ge i (j * 3) with h | h
  · rw [World.cell?_setCells_out _ _ _ _ _ (fun _ _ => Or.inl (by show i < _; omega))]
    rw [List.getElem?_append_left (by rw [List.length_take]; omega), List.getElem?_take_of_lt h] at hu
    exact hcells _ _ hu
  · obtain ⟨k, rfl⟩ : ∃ k, i = j * 3 + k := ⟨i - j * 3, by omega⟩
    have hk : k < (cellsE (E.drop (j + 1)) (qs.drop (j + 1))).length := by rw [hnl]; omega
    rw [World.cell?_setCells_in g _ (j * 3) w.drew (fun t ht => by rw [hnl] at ht; show (w.cell? _).isSome = true; exact hsome _ (by omega)) k hk]
    have hlt : ((cellsE E qs).take (j * 3)).length = j * 3 := by rw [List.length_take]; omega
    rw [List.getElem?_append_right (by omega), hlt, Nat.add_sub_cancel_left, ← cellsE_drop, List.getElem?_eq_getElem hk] at hu
    exact hu

set_option maxHeartbeats 4000000 in
theorem delete_any (base g cap : Nat) (E : List EV) (qs : List Raw) (j : Nat) (w : World) (hown : w.ownsRow base 38 3 (.slice (some ⟨g, 0, none⟩) E.length cap) E.length (cellsE E qs)) (hql : qs.length = E.length) (hj : j < E.length) (hE : E.length ≤ 100000) (k : Nat) (hk : k = j + 1) :
    Calls Try.prog 27 #[.slice (some ⟨g, 0, none⟩) E.length cap, .int .i64 (j : Int), .int .i64 (k : Int)] w fun e w' => e = .returned (.slice (some ⟨g, 0, none⟩) (E.eraseIdx j).length cap) ∧ Sl w' (some ⟨g, 0, none⟩) (E.eraseIdx j).length cap 3 (cellsE (E.eraseIdx j) (qs.eraseIdx j)) ∧ w.grownBy w' (some g) := by
  obtain ⟨i0, hi0, hz0, hz1, hz2⟩ := info_parts env_info
  have hel : (E.eraseIdx j).length = E.length - 1 := by rw [List.length_eraseIdx]; simp [hj]
  have hob : (Value.slice (some ⟨g, 0, none⟩) E.length cap).ownBlock = some g := by simp [Value.ownBlock] <;> omega
  have hdel := deleted_sl hown hql hj [.int .i64 0, .int .i64 0, .slice none 0 0] rfl
  rw [← hk] at hdel
  have hkj : j < k := by omega
  have hkE : k ≤ E.length := by omega
  obtain ⟨A, c, hv, hs, _⟩ := Sl.of_own hown
  simp only [Value.slice.injEq, true_and] at hv
  obtain ⟨rfl, rfl⟩ := hv
  have hcE := cellsE_length hql
  have hcap : E.length ≤ cap := hs.le
  have hcm : cap ≤ 9223372036854775807 := by have := hs.max; unfold maxLen at this; omega
  obtain ⟨news, hnews⟩ : ∃ news, news = cellsE (E.drop k) (qs.drop k) := ⟨_, rfl⟩
  have hnl : news.length = (E.length - k) * 3 := by rw [hnews, cellsE_length (by simp [hql])]; simp
  have hcells : ∀ i u, (cellsE E qs)[i]? = some u → w.cell? ⟨g, i, none⟩ = some u := fun i u hu => by
    have := hs.cell _ rfl i u hu
    rwa [Addr.add_lit, Nat.zero_add] at this
  have hsome : ∀ i, i < E.length * 3 → (w.cell? ⟨g, i, none⟩).isSome = true := fun i hi => by
    rw [hcells i _ (List.getElem?_eq_getElem (by omega))]; rfl
  have hfz : ∀ i, w.frozen? ⟨g, i, none⟩ = false := fun i => World.ownsRow.frozenAt hown i
  obtain ⟨A, hA, hsrc⟩ : ∃ A : Addr, (if cap = k then some (⟨g, 0, none⟩ : Addr) else some ⟨g, k * 3, none⟩) = some A ∧ Hid (∀ t u, news[t]? = some u → w.drew.cell? (A.add t) = some u) := by
    by_cases h : cap = k
    · refine ⟨⟨g, 0, none⟩, by simp [h], fun t u hu => ?_⟩
      have h0 : news.length = 0 := by rw [hnl]; omega
      rw [List.length_eq_zero_iff.1 h0] at hu
      simp at hu
    · refine ⟨⟨g, k * 3, none⟩, by simp [h], fun t u hu => ?_⟩
      rw [hnews, cellsE_drop, List.getElem?_drop] at hu
      rw [Addr.add_lit]
      exact hcells _ _ hu
  have s1 : Hid (news.length = (E.length - k) * 3) := hnl
  have s2 : Hid (∀ u ∈ news, u.oneCell' = true) := by rw [hnews]; exact cellsE_one _ _
  have s3 : Hid (∀ t, t < news.length → (w.drew.cell? ⟨g, 0 + j * 3 + t, none⟩).isSome = true ∧ w.drew.frozen? ⟨g, 0 + j * 3 + t, none⟩ = false) := by
    intro t ht
    rw [hnl] at ht
    exact ⟨hsome _ (by omega), hfz _⟩
  obtain ⟨W1, hW1⟩ : ∃ W1, W1 = w.drew.setCells g (0 + j * 3) news := ⟨_, rfl⟩
  have hcl : ∀ ty, (Builtin.clear_ #[25] ty #[.slice (some ⟨g, (j + (E.length - k)) * 3, none⟩) 1 (cap - (j + (E.length - k)))]).run Try.prog W1 = .ok (.tuple #[]) (W1.setCells g ((j + (E.length - k)) * 3) [.int .i64 0, .int .i64 0, .slice none 0 0]) := by
    intro ty
    refine run_clear_one W1 ty g _ _ (fun i hi => ?_) (fun i hi => ?_)
    · rw [hW1, World.cell?_setCells_out _ _ _ _ _ (fun _ _ => Or.inr (by show _ ≤ _; rw [hnl]; show _ ≤ (_ : Nat) + i; omega))]
      exact hsome _ (by omega)
    · rw [hW1, World.frozen?_setCells]
      exact hfz _
  have hgr : w.grownBy (W1.setCells g ((j + (E.length - k)) * 3) [.int .i64 0, .int .i64 0, .slice none 0 0]) (some g) := by
    have h1 := setCells_grown g news (0 + j * 3) w.drew
    have h2 := setCells_grown g [.int .i64 0, .int .i64 0, .slice none 0 0] ((j + (E.length - k)) * 3) W1
    rw [hW1] at h2 ⊢
    exact ⟨h2.os.trans h1.os, h2.tape.trans h1.tape, h2.output.trans h1.output, Nat.le_trans h1.size h2.size, fun k hk hne => (h2.block k (Nat.lt_of_lt_of_le hk h1.size) hne).trans (h1.block k hk hne)⟩
  have HD : Hid (Sl (W1.setCells g ((j + (E.length - k)) * 3) [.int .i64 0, .int .i64 0, .slice none 0 0]) (some ⟨g, 0, none⟩) (E.eraseIdx j).length cap 3 (cellsE (E.eraseIdx j) (qs.eraseIdx j))) := by
    rw [hW1, hnews, Nat.zero_add]; exact hdel
  have HG := Lib.hid hgr
  have hW : Hid (W1 = w.drew.setCells g (0 + j * 3) news) := hW1
  have HEL := Lib.hid hel
  have hic : j ≤ cap := by omega
  have hjc : k ≤ cap := by omega
  have hne : ¬ (j : Int) = (k : Int) := by omega
  have h9 : E.length - (j + (E.length - k)) = 1 := by omega
  clear hW1 hdel hown hs hcE hnl hcells hsome hfz hgr hel hnews hql hob
  have HK := Lib.hid hk
  clear hk
  go_enter Try.func27, Try.ntmps27
  go_wp2_with fail
  go_region_law (refine step_append_room rfl (.tmp 22) (.tmp 25) 25 rfl 38 i0 3 Try.underlying25 hi0 hz1 g 0 j cap (by simp [Act.eval, Act.put]) A (E.length - k) (cap - k) news (by simp [Act.eval, Act.put]) s1.out hsrc.out s2.out (by omega) s3.out ?_; rw [← hW.out])
  have h10 : j + (E.length - k) ≤ E.length := by omega
  go_wp2_with fail
  go_ret
  exact ⟨by rw [show j + (E.length - k) = (E.eraseIdx j).length by rw [HEL.out]; have := HK.out; omega]; rfl, HD.out, HG.out⟩

/-- Drop's closure as 'changed' wants it -/
theorem drop_call (p j : Nat) (E : List EV) (w : World) (hE : E.length ≤ 100000) (hj : j < E.length) (hpw : w.cell? ⟨p, 0, none⟩ = some (.int .i64 (j : Int))) :
    ∀ (w1 : World) (g cap : Nat) (qs : List Raw), Ext w w1 → w1.ownsRow (w.heap.size + 2) 38 3 (.slice (some ⟨g, 0, none⟩) E.length cap) E.length (cellsE E qs) → Es w1 (some ⟨g, 0, none⟩) cap E qs → Fr w1 (w.heap.size + 2) qs →
      Calls Try.prog 26 #[.slice (some ⟨g, 0, none⟩) E.length cap, .pointer (some ⟨p, 0, none⟩)] w1 fun e w2 => ∃ B d ss, e = .returned (.slice B (E.eraseIdx j).length d) ∧ Es w2 B d (E.eraseIdx j) ss ∧ (∀ a, B = some a → w.heap.size + 2 ≤ a.block) ∧ Fr w2 (w.heap.size + 2) ss ∧ Ext w w2 ∧ (∀ q, q < w1.heap.size → q ≠ g → w2.heap[q]? = w1.heap[q]?) := by
  intro w1 g cap qs hx hown hEs hfr
  have hpb := World.block_lt_of_cell? w _ hpw
  have hp1 := (hx.cell hpb).trans hpw
  obtain ⟨g', cap', hv, hgb, hgl⟩ := World.ownsRow.form hown (by omega)
  simp only [Value.slice.injEq, Option.some.injEq, Addr.mk.injEq, and_true, true_and] at hv
  obtain ⟨rfl, rfl⟩ := hv
  have hct := delete_any (w.heap.size + 2) g cap E qs j w1 hown hEs.len hj hE (j + 1) rfl
  have hjE : (j : Int) + 1 = ((j + 1 : Nat) : Int) := by omega
  obtain ⟨k, hk⟩ : ∃ k, k = j + 1 := ⟨_, rfl⟩
  rw [← hk] at hct hjE
  clear hk
  have HO := Lib.hid (And.intro hown (And.intro hEs (And.intro hfr hx)))
  clear hown hEs hfr hx hpw
  have hct2 : Calls Try.prog 26 #[.slice (some ⟨g, 0, none⟩) E.length cap, .pointer (some ⟨p, 0, none⟩)] w1 fun e w2 => e = .returned (.slice (some ⟨g, 0, none⟩) (E.eraseIdx j).length cap) ∧ Sl w2 (some ⟨g, 0, none⟩) (E.eraseIdx j).length cap 3 (cellsE (E.eraseIdx j) (qs.eraseIdx j)) ∧ w1.grownBy w2 (some g) := by
    go_enter Try.func26, Try.ntmps26
    go_wp2_with fail
    refine hct.mono ?_
    rintro e w2 ⟨rfl, h1, h2⟩
    have H := Lib.hid (And.intro h1 h2)
    clear h1 h2 hct
    go_wp2_with fail
    go_ret
    exact ⟨rfl, H.out⟩
  obtain ⟨hown, hEs, hfr, hx⟩ := HO.out
  refine hct2.mono ?_
  rintro e w2 ⟨rfl, hsl, hg⟩
  have hql := hEs.len
  obtain ⟨cg, hcg⟩ := own_tag hown
  have hkq : ∀ r ∈ qs, ∀ a, r.1 = some a → a.block < w1.heap.size → w2.heap[a.block]? = w1.heap[a.block]? := fun r hr2 a ha hlt => hg.block _ hlt (fun e => hfr.ne hr2 ha hcg (by decide) (by cases e; rfl))
  have hfq : Fr w2 (w.heap.size + 2) (qs.eraseIdx j) := fun q hq a ha => (hfr.kept (Nat.le_refl _) hkq) q (List.mem_of_mem_eraseIdx hq) a ha
  refine ⟨_, _, qs.eraseIdx j, rfl, ⟨by rw [List.length_eraseIdx, List.length_eraseIdx, hql], hsl, fun i h1 h2 => ?_⟩, ?_, hfq, Below.grown hx hg hx.size (by rintro k ⟨⟩; omega), fun k hk hne => hg.block k hk (fun e => hne (by cases e; rfl))⟩
  · have hlen : ∀ i, (hi : i < E.length) → (hi2 : i < qs.length) → Bs w2 qs[i].1 qs[i].2 E[i].r := fun i hi hi2 => by
      exact Sl.keep (hEs.raw i hi hi2) (fun a ha hlt => hkq _ (List.getElem_mem hi2) a ha hlt)
    rw [List.length_eraseIdx] at h1
    simp only [List.getElem_eraseIdx]
    have h1 : i < E.length - 1 := by simpa [hj] using h1
    by_cases hij : i < j
    · have := hlen i (by omega) (by omega)
      simpa [hij] using this
    · have := hlen (i + 1) (by omega) (by omega)
      simpa [hij] using this
  · rintro a ⟨⟩
    exact hgb
end Go.Proofs.Ytomdplbdndadcaa
