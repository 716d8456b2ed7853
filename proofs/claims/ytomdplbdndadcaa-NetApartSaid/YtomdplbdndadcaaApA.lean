import Derived.Test.YtomdplbdndadcaaOw
namespace Go.Proofs.Ytomdplbdndadcaa
open Go.RowKit

theorem check_parts {m : Int} {E : List EV} (h : checkN ⟨m, E⟩ = 0) : 1 ≤ m ∧ m ≤ 7 ∧ E.length ≤ 512 ∧ ∀ e ∈ E, 0 ≤ e.t ∧ e.t < m ∧ e.r.length ≤ 16384 := by
  unfold checkN at h
  split at h
  · cases h
  · rename_i hn
    simp only [not_or, Int.not_lt, Nat.not_lt] at hn
    obtain ⟨h1, h2, h3, h4⟩ := hn
    refine ⟨h1, h2, h3, fun e he => ?_⟩
    have hb : badE m e = false := by
      cases hb : badE m e with
      | false => rfl
      | true => exact absurd (List.any_eq_true.2 ⟨e, he, hb⟩) h4
    unfold badE at hb
    simp only [Bool.or_eq_false_iff, decide_eq_false_iff_not] at hb
    omega

/-- a result's list -/
def Good (w : World) (base : Nat) (B : Option Addr) (n : Nat) : Prop := n ≤ 100000 ∧ ∀ k, k < n → ∃ b o X len c, B = some ⟨b, o, none⟩ ∧ w.cell? ⟨b, o + k * 3 + 2, none⟩ = some (.slice X len c) ∧ len ≤ 100000 ∧
  (0 < len → ∃ xb xo, X = some ⟨xb, xo, none⟩ ∧ base ≤ xb ∧ ∀ j, j < len → (∃ y : UInt8, w.cell? ⟨xb, xo + j, none⟩ = some (bc y)) ∧ w.frozen? ⟨xb, xo + j, none⟩ = false)
theorem Bs.at {w : World} {X : Option Addr} {c : Nat} {r : List UInt8} (h : Bs w X c r) (h0 : 0 < r.length) : ∃ xb xo, X = some ⟨xb, xo, none⟩ ∧ ∀ j (hj : j < r.length), w.cell? ⟨xb, xo + j, none⟩ = some (bc r[j]) := by
  cases X with
  | none => have := (Sl.nul h rfl).1; omega
  | some a =>
    have h00 := Sl.cell h a rfl 0 (bc r[0]) (by simp [h0])
    have hs := World.cell?_spot h00
    obtain ⟨b, o, s⟩ := a
    have : s = none := by simpa [Addr.add] using hs
    subst this
    refine ⟨b, o, rfl, fun j hj => ?_⟩
    have := Sl.cell h _ rfl j (bc r[j]) (by simp [hj])
    rwa [Addr.add_lit] at this
theorem Good.of {w : World} {base : Nat} {B : Option Addr} {d : Nat} {L : List EV} {ss : List Raw} (h : Es w B d L ss) (hf : Fr w base ss) (hL : L.length ≤ 100000) (hr : ∀ e ∈ L, e.r.length ≤ 100000) : Good w base B L.length := by
  refine ⟨hL, fun k hk => ?_⟩
  obtain ⟨b, o, rfl, hc⟩ := h.at (by omega)
  have hk2 : k < ss.length := by rw [h.len]; exact hk
  refine ⟨b, o, _, _, _, rfl, (hc k hk hk2).2.2, hr _ (List.getElem_mem hk), fun h0 => ?_⟩
  obtain ⟨xb, xo, hX, hx⟩ := Bs.at (h.raw k hk hk2) h0
  obtain ⟨h1, cur, h2⟩ := hf _ (List.getElem_mem hk2) _ hX
  exact ⟨xb, xo, hX, h1, fun j hj => ⟨⟨_, hx j hj⟩, frozen_of_row w xb (xo + j) _ _ h2⟩⟩
theorem Good.ext {w w' : World} {base : Nat} {B : Option Addr} {n : Nat} (h : Good w base B n) (hx : Ext w w') : Good w' base B n := by
  refine ⟨h.1, fun k hk => ?_⟩
  obtain ⟨b, o, X, len, c, h1, h2, h3, h4⟩ := h.2 k hk
  refine ⟨b, o, X, len, c, h1, (hx.cell (World.block_lt_of_cell? w _ h2)).trans h2, h3, fun h0 => ?_⟩
  obtain ⟨xb, xo, h5, h6, h7⟩ := h4 h0
  refine ⟨xb, xo, h5, h6, fun j hj => ?_⟩
  obtain ⟨⟨y, h8⟩, h9⟩ := h7 j hj
  have hb := World.block_lt_of_cell? w _ h8
  exact ⟨⟨y, (hx.cell hb).trans h8⟩, (World.frozen?_of_block (w := w) (hx.block _ hb)).trans h9⟩
/-- what the changing of bytes leaves -/
structure MutW (base : Nat) (w0 w : World) : Prop where
  keep : ∀ a v, w0.cell? a = some v → (∀ y, v ≠ bc y) → w.cell? a = some v
  byte : ∀ a y, w0.cell? a = some (bc y) → ∃ y', w.cell? a = some (bc y')
  frz : ∀ a, w.frozen? a = w0.frozen? a
  below : Below base w0 w
theorem MutW.refl (base : Nat) (w : World) : MutW base w w := ⟨fun _ _ h _ => h, fun _ y h => ⟨y, h⟩, fun _ => rfl, Below.refl _ _⟩
theorem MutW.step {base : Nat} {w0 w : World} (h : MutW base w0 w) {p : Addr} {y0 : UInt8} (h0 : w0.cell? p = some (bc y0)) (hp : base ≤ p.block) (z : UInt8) : MutW base w0 (w.setCell p (bc z)) := by
  obtain ⟨y1, h1⟩ := h.byte p y0 h0
  refine ⟨fun a v ha hv => ?_, fun a y ha => ?_, fun a => ?_, h.below.setCell hp _⟩
  · have hne : p ≠ a := fun e => by
      subst e
      rw [h0] at ha
      exact hv y0 (by simpa using ha.symm)
    rw [World.cell?_setCell_other _ _ _ _ hne]
    exact h.keep a v ha hv
  · by_cases hne : p = a
    · subst hne
      exact ⟨z, World.cell?_setCell_same _ _ _ h1⟩
    · rw [World.cell?_setCell_other _ _ _ _ hne]
      exact h.byte a y ha
  · rw [World.frozen?_setCell]
    exact h.frz a
theorem slice_ne (A : Option Addr) (n c : Nat) (y : UInt8) : Value.slice A n c ≠ bc y := by intro h; cases h
theorem bc_add (y : UInt8) : ∃ z : UInt8, Value.int .u8 (((y.toNat : Int) + 1) % 256) = bc z := ⟨y + 1, by unfold bc; congr 1⟩

/-- how many lie below m -/
def cntT (zs : List Int) (L : Nat) : Nat → Nat
  | 0 => 0
  | k + 1 => cntT zs L k + (upT (k : Int) zs L).length
theorem upT_at (node : Int) (zs : List Int) : ∀ (L : Nat) (j : Nat) (hj : j < (upT node zs L).length), ∃ z : Nat, z < L ∧ (upT node zs L)[j] = (z : Int) ∧ zs[z]?.getD 0 = node ∧ ∀ i (hi : i < j), ∃ y : Nat, (upT node zs L)[i]'(by omega) = (y : Int) ∧ y < z
  | 0, j, hj => by simp [upT] at hj
  | L + 1, j, hj => by
    by_cases h : zs[L]?.getD 0 = node
    · have he := upT_hit node zs L h
      rcases Nat.lt_or_ge j (upT node zs L).length with hlt | hge
      · obtain ⟨z, h1, h2, h3, h4⟩ := upT_at node zs L j hlt
        refine ⟨z, by omega, ?_, h3, fun i hi => ?_⟩
        · simp only [he]; rw [List.getElem_append_left hlt]; exact h2
        · obtain ⟨y, h5, h6⟩ := h4 i hi
          refine ⟨y, ?_, h6⟩
          simp only [he]; rw [List.getElem_append_left (by omega)]; exact h5
      · have hj2 : j = (upT node zs L).length := by rw [he, List.length_append] at hj; simp at hj; omega
        refine ⟨L, by omega, ?_, h, fun i hi => ?_⟩
        · simp only [he]; rw [List.getElem_append_right hge]; simp [hj2]
        · obtain ⟨y, h1, h2, _⟩ := upT_at node zs L i (by omega)
          refine ⟨y, ?_, h1⟩
          simp only [he]; rw [List.getElem_append_left (by omega)]; exact h2
    · have he := upT_miss node zs L h
      obtain ⟨z, h1, h2, h3, h4⟩ := upT_at node zs L j (by rw [← he]; exact hj)
      refine ⟨z, by omega, ?_, h3, fun i hi => ?_⟩
      · simp only [he]; exact h2
      · obtain ⟨y, h5, h6⟩ := h4 i hi
        refine ⟨y, ?_, h6⟩
        simp only [he]; exact h5
theorem cntT_zero (zs : List Int) : ∀ k, cntT zs 0 k = 0
  | 0 => rfl
  | k + 1 => by rw [cntT, cntT_zero zs k]; simp [upT]
theorem cntT_succ (zs : List Int) (L : Nat) : ∀ k, cntT zs (L + 1) k = cntT zs L k + (if 0 ≤ zs[L]?.getD 0 ∧ zs[L]?.getD 0 < (k : Int) then 1 else 0)
  | 0 => by simp [cntT]
  | k + 1 => by
    rw [cntT, cntT, cntT_succ zs L k]
    by_cases h : zs[L]?.getD 0 = (k : Int)
    · rw [upT_hit _ zs L h, List.length_append, if_neg (by omega), if_pos (by omega)]
      simp; omega
    · rw [upT_miss _ zs L h]
      by_cases h2 : 0 ≤ zs[L]?.getD 0 ∧ zs[L]?.getD 0 < (k : Int)
      · rw [if_pos h2, if_pos (by omega)]; omega
      · rw [if_neg h2, if_neg (by omega)]; omega
theorem cntT_all (zs : List Int) (m : Nat) : ∀ L, L ≤ zs.length → (∀ z ∈ zs, 0 ≤ z ∧ z < (m : Int)) → cntT zs L m = L
  | 0, _, _ => cntT_zero zs m
  | L + 1, hL, h => by
    have hz := h zs[L] (List.getElem_mem (by omega))
    rw [cntT_succ, cntT_all zs m L (by omega) h, List.getElem?_eq_getElem (by omega), Option.getD_some, if_pos hz]
theorem cntT_le (zs : List Int) (L : Nat) : ∀ k, cntT zs L k ≤ k * L
  | 0 => by simp [cntT]
  | k + 1 => by
    have h1 := cntT_le zs L k
    have h2 := upT_length (k : Int) zs L
    rw [cntT, Nat.succ_mul]
    omega
end Go.Proofs.Ytomdplbdndadcaa
