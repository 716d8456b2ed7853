import Derived.Test.YtomdplbdndadcaaOpen
import Derived.Test.YtomdplbdndadcaaNtA
/- A net and an out that came in, as values. -/
namespace Go.Proofs.Ytomdplbdndadcaa
open Go.RowKit Go.ChangeShapes Go.WideShapes Go.ChangeAt

section
variable {H : Type} {enc : TypeId × Value → H} {P : Program} {w : World} {base : Nat} {spare : Nat → Bool} {held : Bool}
theorem trod_bytes {t e : TypeId} {fuel : Nat} {cs : List Value} {y : DataW H × List MemPlace} (ht : P.underlying t = some (.slice e)) (he : P.underlying e = some (.int .u8)) (hc : P.cellsOf e = 1)
    (hf : DataW.trod enc P w base spare held fuel t cs = some y) : ∃ A c l, cs = [.slice A (List.length l) c] ∧ Bs w A c l := by
  rcases open_ints ht he hc hf with ⟨rfl, _⟩ | ⟨a, len, cap, zs, rfl, _, hl, hm, hz, _, hcell, hwz⟩
  · exact ⟨none, 0, [], rfl, Sl.nil _ _⟩
  · have hlz : len ≤ zs.length := by rw [hz]; split <;> omega
    have hw : ∀ z ∈ zs.take len, (Lit.int .u8 z).wf = true := fun z h => hwz z (List.mem_of_mem_take h)
    have hlen : ((zs.take len).map fun n => UInt8.ofNat n.toNat).length = len := by simp; omega
    refine ⟨some a, cap, (zs.take len).map fun n => UInt8.ofNat n.toNat, by rw [hlen], ?_⟩
    unfold Bs
    rw [hlen, bytes_of_ints _ hw]
    refine ⟨by simp; omega, hl, hm, (fun h => by cases h), ?_⟩
    rintro b ⟨⟩ j u hu
    have hj : j < len := by
      have := (List.getElem?_eq_some_iff.1 hu).1
      simp at this; omega
    rw [hcell j (by omega)]
    rw [List.map_take, List.getElem?_take, if_pos hj, List.getElem?_map, List.getElem?_eq_getElem (by omega)] at hu
    simp only [Option.map_some, Option.some.injEq] at hu
    rw [← hu]
    simp [List.getD, show j < zs.length by omega]

theorem trod_env {fuel : Nat} {cs : List Value} {y : DataW H × List MemPlace} (hsz : cs.length = 3) (hf : DataW.trod enc Try.prog w base spare held fuel 38 cs = some y) :
    ∃ (e : EV) (q : Raw), cs = [.int .i64 e.f, .int .i64 e.t, .slice q.1 e.r.length q.2] ∧ Bs w q.1 q.2 e.r := by
  obtain ⟨xs, m, rfl, _, hcl, hxl, hx⟩ := DataW.trod_struct Try.underlying38 hf
  have hc3 : Try.prog.cellsOf 3 = 1 := by kernel_rfl
  have hc32 : Try.prog.cellsOf 32 = 1 := by kernel_rfl
  match cs, hsz with
  | [a, b, c], _ =>
    have h0 : DataW.trod enc Try.prog w base spare held m 3 (List.take (Try.prog.cellsOf 3) (List.drop 0 [a, b, c])) = xs[0]? := hx 0 _ rfl
    have h1 : DataW.trod enc Try.prog w base spare held m 3 (List.take (Try.prog.cellsOf 3) (List.drop 1 [a, b, c])) = xs[1]? := hx 1 _ rfl
    have h2 : DataW.trod enc Try.prog w base spare held m 32 (List.take (Try.prog.cellsOf 32) (List.drop 2 [a, b, c])) = xs[2]? := hx 2 _ rfl
    rw [hc3] at h0 h1
    rw [hc32] at h2
    match xs, hxl with
    | [y0, y1, y2], _ =>
      have h0 : DataW.trod enc Try.prog w base spare held m 3 [a] = some y0 := h0
      have h1 : DataW.trod enc Try.prog w base spare held m 3 [b] = some y1 := h1
      have h2 : DataW.trod enc Try.prog w base spare held m 32 [c] = some y2 := h2
      obtain ⟨z, hz, _, _⟩ := DataW.trod_int Try.underlying3 h0
      obtain ⟨z1, hz1, _, _⟩ := DataW.trod_int Try.underlying3 h1
      obtain ⟨A, n, l, hl, hb⟩ := trod_bytes Try.underlying32 Try.underlying5 (by kernel_rfl) h2
      obtain rfl : a = .int .i64 z := by simpa using hz
      obtain rfl : b = .int .i64 z1 := by simpa using hz1
      obtain rfl : c = .slice A l.length n := by simpa using hl
      exact ⟨⟨z, z1, l⟩, (A, n), rfl, hb⟩

theorem trod_envs {fuel : Nat} {cs : List Value} {y : DataW H × List MemPlace} (hf : DataW.trod enc Try.prog w base spare held fuel 25 cs = some y) : ∃ A c E rs, cs = [.slice A (List.length E) c] ∧ Es w A c E rs := by
  have hce : Try.prog.cellsOf 38 = 3 := by kernel_rfl
  rcases DataW.trod_slice Try.underlying25 hf with ⟨rfl, _⟩ | ⟨a, len, cap, elems, rest, n, _, rfl, _, hb, hl, hm, hlen, hel, _, _⟩
  · exact ⟨none, 0, [], [], rfl, Es.nil w⟩
  · have each : ∀ i, i < len → ∃ x : EV × Raw, w.cell? (a.add (i * 3)) = some (.int .i64 x.1.f) ∧ w.cell? (a.add (i * 3 + 1)) = some (.int .i64 x.1.t) ∧ w.cell? (a.add (i * 3 + 2)) = some (.slice x.2.1 x.1.r.length x.2.2) ∧ Bs w x.2.1 x.2.2 x.1.r := by
      intro i hi
      have h1 := hel i hi
      rw [hce, List.getElem?_eq_getElem (by omega)] at h1
      cases hcs : w.cells? base (a.add (i * 3)) 3 with
      | none => rw [hcs] at h1; cases h1
      | some ds =>
        rw [hcs] at h1
        have h2 := World.cells?_some hcs
        have hds : ds.length = 3 := by first | exact h2.1 | exact h2.2.1 | (have := h2.1; omega)
        obtain ⟨e, q, rfl, hbs⟩ := trod_env hds h1
        have g0 := h2.2.2 0 (by decide)
        have g1 := h2.2.2 1 (by decide)
        have g2 := h2.2.2 2 (by decide)
        rw [add_add] at g0 g1 g2
        exact ⟨(e, q), by simpa using g0, by simpa using g1, by simpa using g2, hbs⟩
    obtain ⟨f, hf⟩ : ∃ f : Nat → EV × Raw, ∀ i, i < len → w.cell? (a.add (i * 3)) = some (.int .i64 (f i).1.f) ∧ w.cell? (a.add (i * 3 + 1)) = some (.int .i64 (f i).1.t) ∧ w.cell? (a.add (i * 3 + 2)) = some (.slice (f i).2.1 (f i).1.r.length (f i).2.2) ∧ Bs w (f i).2.1 (f i).2.2 (f i).1.r := by
      refine ⟨fun i => if h : i < len then (each i h).choose else (⟨0, 0, []⟩, (none, 0)), fun i hi => ?_⟩
      simp only [dif_pos hi]
      exact (each i hi).choose_spec
    have hql : ((List.range len).map fun i => (f i).2).length = ((List.range len).map fun i => (f i).1).length := by simp
    refine ⟨some a, cap, (List.range len).map fun i => (f i).1, (List.range len).map fun i => (f i).2, by simp, hql, ⟨cellsE_length hql, by simpa using hl, hm, (fun h => by cases h), ?_⟩, fun i h1 h2 => ?_⟩
    · rintro b ⟨⟩ j v hv
      have hjl : j < len * 3 := by
        have := (List.getElem?_eq_some_iff.1 hv).1
        rw [cellsE_length hql] at this
        simpa using this
      obtain ⟨t, ht⟩ : ∃ t, t = j / 3 := ⟨_, rfl⟩
      have hi : t < len := by omega
      obtain ⟨g0, g1, g2, _⟩ := hf t hi
      obtain ⟨k0, k1, k2⟩ := cellsE_get (E := (List.range len).map fun i => (f i).1) (rs := (List.range len).map fun i => (f i).2) t (by simpa using hi) (by simpa using hi)
      simp only [List.getElem_map, List.getElem_range] at k0 k1 k2
      have h3 : j % 3 = 0 ∨ j % 3 = 1 ∨ j % 3 = 2 := by omega
      rcases h3 with h | h | h
      · have e : j = t * 3 := by omega
        rw [e, k0] at hv; cases hv
        rw [e]; exact g0
      · have e : j = t * 3 + 1 := by omega
        rw [e, k1] at hv; cases hv
        rw [e]; exact g1
      · have e : j = t * 3 + 2 := by omega
        rw [e, k2] at hv; cases hv
        rw [e]; exact g2
    · simp only [List.getElem_map, List.getElem_range]
      exact (hf i (by simpa using h1)).2.2.2

theorem open_net {d : DataW H} {p : List MemPlace} {v : Value} {r : Reach} {b0 : Nat} (hv : Value.okWide Try.prog w r b0 27 v) (h : DataW.Trod enc Try.prog w base spare held 27 v d p) :
    ∃ n A c E rs, v = .agg #[.int .i64 n, .slice A (List.length E) c] ∧ Es w A c E rs := by
  obtain ⟨fuel, hf⟩ := h
  obtain ⟨cs, rfl, hsz⟩ := okWide_struct Try.underlying27 hv
  have hsz : cs.size = 2 := hsz.trans (by kernel_rfl)
  obtain ⟨xs, m, rfl, _, hcl, hxl, hx⟩ := DataW.trod_struct Try.underlying27 hf
  have hc3 : Try.prog.cellsOf 3 = 1 := by kernel_rfl
  have hc25 : Try.prog.cellsOf 25 = 1 := by kernel_rfl
  obtain ⟨a, b, rfl⟩ : ∃ a b, cs = #[a, b] := by
    obtain ⟨l⟩ := cs
    match l, hsz with
    | [a, b], _ => exact ⟨a, b, rfl⟩
  have h0 : DataW.trod enc Try.prog w base spare held m 3 (List.take (Try.prog.cellsOf 3) (List.drop 0 [a, b])) = xs[0]? := hx 0 _ rfl
  have h1 : DataW.trod enc Try.prog w base spare held m 25 (List.take (Try.prog.cellsOf 25) (List.drop 1 [a, b])) = xs[1]? := hx 1 _ rfl
  rw [hc3] at h0
  rw [hc25] at h1
  match xs, hxl with
  | [y0, y1], _ =>
    have h0 : DataW.trod enc Try.prog w base spare held m 3 [a] = some y0 := h0
    have h1 : DataW.trod enc Try.prog w base spare held m 25 [b] = some y1 := h1
    obtain ⟨z, hz, _, _⟩ := DataW.trod_int Try.underlying3 h0
    obtain ⟨A, n, E, rs, hU, dU⟩ := trod_envs h1
    obtain rfl : a = .int .i64 z := by simpa using hz
    obtain rfl : b = .slice A E.length n := by simpa using hU
    exact ⟨z, A, n, E, rs, rfl, dU⟩
theorem open_out {d : DataW H} {p : List MemPlace} {v : Value} {r : Reach} {b0 : Nat} (hv : Value.okWide Try.prog w r b0 34 v) (h : DataW.Trod enc Try.prog w base spare held 34 v d p) :
    ∃ o C d l, v = .agg #[.int .i64 o, .slice C (List.length l) d] ∧ Bs w C d l := by
  obtain ⟨fuel, hf⟩ := h
  obtain ⟨cs, rfl, hsz⟩ := okWide_struct Try.underlying34 hv
  have hsz : cs.size = 2 := hsz.trans (by kernel_rfl)
  obtain ⟨xs, m, rfl, _, hcl, hxl, hx⟩ := DataW.trod_struct Try.underlying34 hf
  have hc3 : Try.prog.cellsOf 3 = 1 := by kernel_rfl
  have hc32 : Try.prog.cellsOf 32 = 1 := by kernel_rfl
  obtain ⟨a, b, rfl⟩ : ∃ a b, cs = #[a, b] := by
    obtain ⟨l⟩ := cs
    match l, hsz with
    | [a, b], _ => exact ⟨a, b, rfl⟩
  have h0 : DataW.trod enc Try.prog w base spare held m 3 (List.take (Try.prog.cellsOf 3) (List.drop 0 [a, b])) = xs[0]? := hx 0 _ rfl
  have h1 : DataW.trod enc Try.prog w base spare held m 32 (List.take (Try.prog.cellsOf 32) (List.drop 1 [a, b])) = xs[1]? := hx 1 _ rfl
  rw [hc3] at h0
  rw [hc32] at h1
  match xs, hxl with
  | [y0, y1], _ =>
    have h0 : DataW.trod enc Try.prog w base spare held m 3 [a] = some y0 := h0
    have h1 : DataW.trod enc Try.prog w base spare held m 32 [b] = some y1 := h1
    obtain ⟨z, hz, _, _⟩ := DataW.trod_int Try.underlying3 h0
    obtain ⟨A, n, l, hU, dU⟩ := trod_bytes Try.underlying32 Try.underlying5 (by kernel_rfl) h1
    obtain rfl : a = .int .i64 z := by simpa using hz
    obtain rfl : b = .slice A l.length n := by simpa using hU
    exact ⟨z, A, n, l, rfl, dU⟩
end
end Go.Proofs.Ytomdplbdndadcaa
