import Derived.Test.YtomdplbdndadcaaNtI
namespace Go.Proofs.Ytomdplbdndadcaa
open Go.RowKit

theorem cellsE_set : ∀ {E : List EV} {rs : List Raw} (i : Nat) (h1 : i < E.length) (_ : i < rs.length) (q : Raw),
    cellsE E (rs.set i q) = (cellsE E rs).set (i * 3 + 2) (.slice q.1 E[i].r.length q.2)
  | [], _, i, h1, _, _ => by simp at h1
  | _ :: _, [], i, _, h2, _ => by simp at h2
  | e :: E, p :: rs, 0, _, _, q => by simp [cellsE]
  | e :: E, p :: rs, i + 1, h1, h2, q => by
    have ih := cellsE_set (E := E) (rs := rs) i (by simpa using h1) (by simpa using h2) q
    have e3 : (i + 1) * 3 + 2 = (i * 3 + 2) + 3 := by omega
    rw [List.set_cons_succ, e3]
    simp only [cellsE, List.cons_append, List.nil_append, List.set_cons_succ, List.getElem_cons_succ, ih]
/-- the bytes lie in blocks of bytes from base on -/
def Fr (w : World) (base : Nat) (rs : List Raw) : Prop := ∀ q ∈ rs, ∀ a, q.1 = some a → base ≤ a.block ∧ ∃ cur, w.heap[a.block]? = some (.cells cur 5 (0, 0))
theorem Fr.lt {w : World} {base : Nat} {rs : List Raw} (h : Fr w base rs) {q : Raw} (hq : q ∈ rs) {a : Addr} (ha : q.1 = some a) : a.block < w.heap.size := by
  obtain ⟨_, cur, hc⟩ := h q hq a ha
  exact (Array.getElem?_eq_some_iff.1 hc).1
theorem Fr.ne {w : World} {base : Nat} {rs : List Raw} (h : Fr w base rs) {q : Raw} (hq : q ∈ rs) {a : Addr} (ha : q.1 = some a) {g : Nat} {cs : Array Value} {e : TypeId} (hg : w.heap[g]? = some (.cells cs e (0, 0))) (he : e ≠ 5) : a.block ≠ g := by
  intro hab
  obtain ⟨_, cur, hc⟩ := h q hq a ha
  rw [hab, hg] at hc
  simp only [Option.some.injEq, Obj.cells.injEq] at hc
  exact he hc.2.1
theorem Fr.kept {w w' : World} {base base' : Nat} {rs : List Raw} (h : Fr w base rs) (hb : base' ≤ base) (hk : ∀ q ∈ rs, ∀ a, q.1 = some a → a.block < w.heap.size → w'.heap[a.block]? = w.heap[a.block]?) : Fr w' base' rs := by
  intro q hq a ha
  obtain ⟨h1, cur, hc⟩ := h q hq a ha
  exact ⟨Nat.le_trans hb h1, cur, by rw [hk q hq a ha (h.lt hq ha)]; exact hc⟩
theorem Fr.ext {w w' : World} {base base' : Nat} {rs : List Raw} (h : Fr w base rs) (hb : base' ≤ base) (hx : Below w.heap.size w w') : Fr w' base' rs := h.kept hb fun _ _ _ _ hl => hx.block _ hl
theorem Fr.append {w : World} {b : Nat} {rs ss : List Raw} (h1 : Fr w b rs) (h2 : Fr w b ss) : Fr w b (rs ++ ss) := by
  intro q hq
  rcases List.mem_append.1 hq with h | h
  · exact h1 q h
  · exact h2 q h
theorem own_tag {w : World} {base g cap n : Nat} {cs : List Value} (h : w.ownsRow base 38 3 (.slice (some ⟨g, 0, none⟩) n cap) n cs) : ∃ cur, w.heap[g]? = some (.cells cur 38 (0, 0)) := own_row h _ rfl
/-- an element stored back with bytes of its own -/
theorem own_set3 {w : World} {base g cap : Nat} {E : List EV} {rs : List Raw} (h : w.ownsRow base 38 3 (.slice (some ⟨g, 0, none⟩) E.length cap) E.length (cellsE E rs)) (hl : rs.length = E.length) (i : Nat) (hi : i < E.length) (q : Raw) :
    (((w.setCell ⟨g, i * 3, none⟩ (.int .i64 E[i].f)).setCell ⟨g, i * 3 + 1, none⟩ (.int .i64 E[i].t)).setCell ⟨g, i * 3 + 2, none⟩ (.slice q.1 E[i].r.length q.2)).ownsRow base 38 3 (.slice (some ⟨g, 0, none⟩) E.length cap) E.length (cellsE E (rs.set i q)) := by
  have hi2 : i < rs.length := by omega
  obtain ⟨g1, g2, g3⟩ := cellsE_get (E := E) (rs := rs) i hi hi2
  have s1 := h.stored (i * 3) (.int .i64 E[i].f)
  have e1 : (cellsE E rs).set (i * 3) (.int .i64 E[i].f) = cellsE E rs := by
    obtain ⟨hlt, hv⟩ := List.getElem?_eq_some_iff.1 g1
    rw [← hv]; exact List.set_getElem_self hlt
  have s1 := s1.1
  rw [e1] at s1
  have s2 := (s1.stored (i * 3 + 1) (.int .i64 E[i].t)).1
  have e2 : (cellsE E rs).set (i * 3 + 1) (.int .i64 E[i].t) = cellsE E rs := by
    obtain ⟨hlt, hv⟩ := List.getElem?_eq_some_iff.1 g2
    rw [← hv]; exact List.set_getElem_self hlt
  rw [e2] at s2
  have s3 := (s2.stored (i * 3 + 2) (.slice q.1 E[i].r.length q.2)).1
  rw [← cellsE_set i hi hi2 q] at s3
  exact s3
/-- an own list reads -/
theorem Es.of_own {w : World} {base g cap : Nat} {E : List EV} {rs : List Raw} (h : w.ownsRow base 38 3 (.slice (some ⟨g, 0, none⟩) E.length cap) E.length (cellsE E rs)) (hl : rs.length = E.length)
    (hr : ∀ i (h1 : i < E.length) (h2 : i < rs.length), Bs w rs[i].1 rs[i].2 E[i].r) : Es w (some ⟨g, 0, none⟩) cap E rs := by
  obtain ⟨A, c, hv, hs, _⟩ := Sl.of_own h
  simp only [Value.slice.injEq, true_and] at hv
  obtain ⟨rfl, rfl⟩ := hv
  exact ⟨hl, hs, hr⟩
end Go.Proofs.Ytomdplbdndadcaa
