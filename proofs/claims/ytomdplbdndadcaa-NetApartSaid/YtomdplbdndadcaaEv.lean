import Derived.Test.YtomdplbdndadcaaLay
/- Envelopes, lists of them, nets: how they lie in memory. -/
namespace Go.Proofs.Ytomdplbdndadcaa
open Go.RowKit

structure EV where
  f : Int
  t : Int
  r : List UInt8

abbrev Raw := Option Addr × Nat
def cellsE : List EV → List Raw → List Value
  | e :: E, q :: rs => [.int .i64 e.f, .int .i64 e.t, .slice q.1 e.r.length q.2] ++ cellsE E rs
  | _, _ => []
theorem cellsE_length : ∀ {E : List EV} {rs : List Raw}, rs.length = E.length → (cellsE E rs).length = E.length * 3
  | [], rs, _ => by cases rs <;> rfl
  | e :: E, [], h => by simp at h
  | e :: E, q :: rs, h => by
    have ih := cellsE_length (E := E) (rs := rs) (by simpa using h)
    rw [cellsE, List.length_append, ih]
    simp only [List.length_cons, List.length_nil]
    omega
theorem cellsE_append : ∀ {E : List EV} {rs : List Raw} {F : List EV} {ss : List Raw}, rs.length = E.length → cellsE (E ++ F) (rs ++ ss) = cellsE E rs ++ cellsE F ss
  | [], rs, F, ss, h => by
    have : rs = [] := List.eq_nil_of_length_eq_zero (by simpa using h)
    subst this; rfl
  | e :: E, [], F, ss, h => by simp at h
  | e :: E, q :: rs, F, ss, h => by
    show [_, _, _] ++ cellsE (E ++ F) (rs ++ ss) = ([_, _, _] ++ cellsE E rs) ++ cellsE F ss
    rw [cellsE_append (by simpa using h), List.append_assoc]
theorem cellsE_get : ∀ {E : List EV} {rs : List Raw} (i : Nat) (h1 : i < E.length) (h2 : i < rs.length),
    (cellsE E rs)[i * 3]? = some (.int .i64 E[i].f) ∧ (cellsE E rs)[i * 3 + 1]? = some (.int .i64 E[i].t) ∧ (cellsE E rs)[i * 3 + 2]? = some (.slice rs[i].1 E[i].r.length rs[i].2)
  | [], _, i, h1, _ => by simp at h1
  | _ :: _, [], i, _, h2 => by simp at h2
  | e :: E, q :: rs, 0, _, _ => by simp [cellsE]
  | e :: E, q :: rs, i + 1, h1, h2 => by
    have ih := cellsE_get (E := E) (rs := rs) i (by simpa using h1) (by simpa using h2)
    have e3 : (i + 1) * 3 = i * 3 + 3 := by omega
    rw [e3]
    simpa [cellsE] using ih
theorem cellsE_one : ∀ (E : List EV) (rs : List Raw), ∀ u ∈ cellsE E rs, u.oneCell' = true
  | [], rs => by cases rs <;> simp [cellsE]
  | e :: E, [] => by simp [cellsE]
  | e :: E, q :: rs => by
    intro u hu
    rw [cellsE, List.mem_append] at hu
    rcases hu with hu | hu
    · simp at hu
      rcases hu with rfl | rfl | rfl <;> rfl
    · exact cellsE_one E rs u hu

/-- the slice value '.slice A E.length c' reads as the envelopes E; their bytes are the slices rs -/
structure Es (w : World) (A : Option Addr) (c : Nat) (E : List EV) (rs : List Raw) : Prop where
  len : rs.length = E.length
  sl : Sl w A E.length c 3 (cellsE E rs)
  raw : ∀ i (h1 : i < E.length) (h2 : i < rs.length), Bs w rs[i].1 rs[i].2 E[i].r
section
variable {w w' : World} {A : Option Addr} {c : Nat} {E : List EV} {rs : List Raw}
theorem Es.below (h : Es w A c E rs) (hb : Below w.heap.size w w') : Es w' A c E rs := ⟨h.len, h.sl.below hb, fun i h1 h2 => Sl.below (h.raw i h1 h2) hb⟩
theorem Es.drew (h : Es w A c E rs) : Es w.drew A c E rs := ⟨h.len, h.sl.drew, fun i h1 h2 => Sl.drew (h.raw i h1 h2)⟩
theorem Es.alloc (h : Es w A c E rs) (o : Obj) : Es (w.alloc o) A c E rs := ⟨h.len, h.sl.alloc o, fun i h1 h2 => Sl.alloc (h.raw i h1 h2) o⟩
theorem Es.nil (w : World) : Es w none 0 [] [] := ⟨rfl, Sl.nil _ _, fun i h => by simp at h⟩
/-- where the elements lie -/
theorem Es.at (h : Es w A c E rs) (h0 : 0 < E.length) : ∃ b o, A = some ⟨b, o, none⟩ ∧ ∀ i (h1 : i < E.length) (h2 : i < rs.length),
    w.cell? ⟨b, o + i * 3, none⟩ = some (.int .i64 E[i].f) ∧ w.cell? ⟨b, o + i * 3 + 1, none⟩ = some (.int .i64 E[i].t) ∧ w.cell? ⟨b, o + i * 3 + 2, none⟩ = some (.slice rs[i].1 E[i].r.length rs[i].2) := by
  cases A with
  | none => have := (h.sl.nul rfl).1; omega
  | some a =>
    have h00 := (cellsE_get (E := E) (rs := rs) 0 h0 (by rw [h.len]; exact h0)).1
    have hs := World.cell?_spot (h.sl.cell a rfl 0 _ (by simpa using h00))
    obtain ⟨b, o, s⟩ := a
    have : s = none := by simpa [Addr.add] using hs
    subst this
    refine ⟨b, o, rfl, fun i h1 h2 => ?_⟩
    obtain ⟨g1, g2, g3⟩ := cellsE_get (E := E) (rs := rs) i h1 h2
    have k1 := h.sl.cell _ rfl _ _ g1
    have k2 := h.sl.cell _ rfl _ _ g2
    have k3 := h.sl.cell _ rfl _ _ g3
    rw [Addr.add_mid] at k1 k2 k3
    exact ⟨k1, by rwa [Nat.add_assoc], by rwa [Nat.add_assoc]⟩
end

structure NV where
  n : Int
  l : List EV
/-- what a net may not hold -/
def badE (n : Int) (e : EV) : Bool := decide (e.f < 0) || decide (n ≤ e.f) || decide (e.t < 0) || decide (n ≤ e.t) || decide (e.f = e.t) || decide (16384 < e.r.length)
def checkN (N : NV) : Int := if N.n < 1 ∨ 7 < N.n ∨ 512 < N.l.length ∨ N.l.any (badE N.n) = true then 2 else 0
def IsNet (w : World) (v : Value) (N : NV) (rs : List Raw) : Prop := ∃ A c, v = .agg #[.int .i64 N.n, .slice A N.l.length c] ∧ Es w A c N.l rs
theorem IsNet.ext {w w' : World} {v : Value} {N : NV} {rs : List Raw} (h : IsNet w v N rs) (hx : Ext w w') : IsNet w' v N rs := by
  obtain ⟨A, c, rfl, h1⟩ := h
  exact ⟨A, c, rfl, h1.below hx⟩
end Go.Proofs.Ytomdplbdndadcaa
