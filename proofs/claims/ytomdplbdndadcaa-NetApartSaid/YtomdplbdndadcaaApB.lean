import Derived.Test.YtomdplbdndadcaaApA
namespace Go.Proofs.Ytomdplbdndadcaa
open Go.RowKit

section
variable (m : Nat) (A : Option Addr) (c : Nat) (E : List EV) (rs : List Raw) (w : World)
theorem put_all (f o : Int) (C : Option Addr) (d : Nat) (r : List UInt8) (hA : Es w A c E rs) (hC : Bs w C d r) (hc : checkN ⟨(m : Int), E⟩ = 0) (hr : r.length ≤ 20000) :
    Calls Try.prog 14 #[.agg #[.int .i64 (m : Int), .slice A E.length c], .int .i64 f, .agg #[.int .i64 o, .slice C r.length d]] w fun e w' => ∃ na k er B n d', e = .returned (.tuple #[.agg #[.int .i64 na, .slice B n d'], .int .i64 k, .int .i64 er]) ∧ Good w' w.heap.size B n ∧ n ≤ d' ∧ Ext w w' := by
  obtain ⟨h1, h2, h3, h4⟩ := check_parts hc
  have hbig : ∀ e ∈ E, e.r.length ≤ 100000 := fun e he => by have := (h4 e he).2.2; omega
  have hg0 : ∀ w', Good w' w.heap.size none 0 := fun w' => ⟨by omega, fun k hk => by omega⟩
  by_cases hbad : f < 0 ∨ ¬ f < 0 ∧ ((m : Int) ≤ f ∨ ¬ (m : Int) ≤ f ∧ (o < -1 ∨ ¬ o < -1 ∧ ((m : Int) ≤ o ∨ ¬ (m : Int) ≤ o ∧ o = f)))
  · refine (put_bad (m : Int) A c E rs f o C d r w hA (.inr ⟨hc, hbad⟩)).mono ?_
    rintro e w' ⟨rfl, hx⟩
    exact ⟨_, _, _, none, 0, 0, rfl, hg0 _, Nat.le_refl _, hx⟩
  · by_cases hl : 16384 < r.length
    · refine (put_long m A c E rs f o C d r w hA hC hc (by omega) h3 hbig (by omega) (by omega) (by omega) (by omega) (by omega) hl (by omega)).mono ?_
      rintro e w' ⟨rfl, hx⟩
      exact ⟨_, _, _, none, 0, 0, rfl, hg0 _, Nat.le_refl _, hx⟩
    · refine (put_good m A c E rs f o C d r w hA hC hc (by omega) h3 hbig (by omega) (by omega) (by omega) (by omega) (by omega) (by omega)).mono ?_
      rintro e w' (⟨_, rfl, hx⟩ | ⟨h5, B, d', ss, rfl, h6, h7, h8, h9⟩)
      · exact ⟨_, _, _, none, 0, 0, rfl, hg0 _, Nat.le_refl _, hx⟩
      · refine ⟨_, _, _, B, _, d', rfl, Good.of h6 h8 (by rw [List.length_append]; omega) (fun e he => ?_), h6.sl.le, h9⟩
        rcases List.mem_append.1 he with he | he
        · exact hbig e he
        · rw [freshN_raw f o r m e he]; omega
theorem at_cases (i : Int) (hc : checkN ⟨(m : Int), E⟩ = 0) : (∃ j : Nat, i = (j : Int) ∧ j < E.length ∧ atN ⟨(m : Int), E⟩ i = 0) ∨ atN ⟨(m : Int), E⟩ i = 6 := by
  unfold atN
  rw [if_neg (by simp [hc])]
  by_cases h : i < 0 ∨ (E.length : Int) ≤ i
  · exact .inr (by rw [if_pos h])
  · exact .inl ⟨i.toNat, by omega, by omega, by rw [if_neg h]⟩
theorem good_nil (w' : World) (base : Nat) : Good w' base none 0 := ⟨by omega, fun k hk => by omega⟩
theorem take_all (i : Int) (hA : Es w A c E rs) (hc : checkN ⟨(m : Int), E⟩ = 0) :
    Calls Try.prog 11 #[.agg #[.int .i64 (m : Int), .slice A E.length c], .int .i64 i] w fun e w' => ∃ f t X n q nb B k d er, e = .returned (.tuple #[.agg #[.int .i64 f, .int .i64 t, .slice X n q], .agg #[.int .i64 nb, .slice B k d], .int .i64 er]) ∧ Good w' w.heap.size B k ∧ k ≤ d ∧
      (n ≤ 100000 ∧ (0 < n → ∃ xb xo, X = some ⟨xb, xo, none⟩ ∧ w.heap.size ≤ xb ∧ ∀ j, j < n → (∃ y : UInt8, w'.cell? ⟨xb, xo + j, none⟩ = some (bc y)) ∧ w'.frozen? ⟨xb, xo + j, none⟩ = false)) ∧ Ext w w' := by
  obtain ⟨h1, h2, h3, h4⟩ := check_parts hc
  have hbig : ∀ e ∈ E, e.r.length ≤ 100000 := fun e he => by have := (h4 e he).2.2; omega
  rcases at_cases m E i hc with ⟨j, rfl, hj, hat⟩ | hat
  · refine (take_ok (m : Int) A c E rs j w hA hat hj (by omega) hbig).mono ?_
    rintro e w' ⟨B, d, ss, X, q, rfl, h5, h6, h7, h8, h9, h10⟩
    refine ⟨_, _, X, _, q, _, B, _, d, _, rfl, Good.of h5 h7 (by rw [List.length_eraseIdx]; split <;> omega) (fun e he => hbig e (List.mem_of_mem_eraseIdx he)), h5.sl.le, ⟨hbig _ (List.getElem_mem hj), fun h0 => ?_⟩, h10⟩
    obtain ⟨xb, xo, hX, hx⟩ := Bs.at h8 h0
    obtain ⟨h11, cur, h12⟩ := h9 (X, q) (by simp) _ hX
    exact ⟨xb, xo, hX, h11, fun j hj => ⟨⟨_, hx j hj⟩, frozen_of_row w' xb (xo + j) _ _ h12⟩⟩
  · refine (take_no (m : Int) A c E rs i w hA 6 hat (by decide)).mono ?_
    rintro e w' ⟨rfl, hx⟩
    exact ⟨_, _, none, 0, 0, _, none, 0, 0, _, rfl, good_nil _ _, Nat.le_refl _, ⟨by omega, fun h => by omega⟩, hx⟩
theorem drop_all (i : Int) (hA : Es w A c E rs) (hc : checkN ⟨(m : Int), E⟩ = 0) :
    Calls Try.prog 12 #[.agg #[.int .i64 (m : Int), .slice A E.length c], .int .i64 i] w fun e w' => ∃ nb B k d er, e = .returned (.tuple #[.agg #[.int .i64 nb, .slice B k d], .int .i64 er]) ∧ Good w' w.heap.size B k ∧ k ≤ d ∧ Ext w w' := by
  obtain ⟨h1, h2, h3, h4⟩ := check_parts hc
  have hbig : ∀ e ∈ E, e.r.length ≤ 100000 := fun e he => by have := (h4 e he).2.2; omega
  rcases at_cases m E i hc with ⟨j, rfl, hj, hat⟩ | hat
  · refine (drop_ok (m : Int) A c E rs j w hA hat hj (by omega) hbig).mono ?_
    rintro e w' ⟨B, d, ss, rfl, h5, h6, h7, h8⟩
    exact ⟨_, B, _, d, _, rfl, Good.of h5 h7 (by rw [List.length_eraseIdx]; split <;> omega) (fun e he => hbig e (List.mem_of_mem_eraseIdx he)), h5.sl.le, h8⟩
  · refine (drop_no (m : Int) A c E rs i w hA 6 hat (by decide)).mono ?_
    rintro e w' ⟨rfl, hx⟩
    exact ⟨_, none, 0, 0, _, rfl, good_nil _ _, Nat.le_refl _, hx⟩
theorem twice_all (i : Int) (hA : Es w A c E rs) (hc : checkN ⟨(m : Int), E⟩ = 0) :
    Calls Try.prog 13 #[.agg #[.int .i64 (m : Int), .slice A E.length c], .int .i64 i] w fun e w' => ∃ nb B k d er, e = .returned (.tuple #[.agg #[.int .i64 nb, .slice B k d], .int .i64 er]) ∧ Good w' w.heap.size B k ∧ k ≤ d ∧ Ext w w' := by
  obtain ⟨h1, h2, h3, h4⟩ := check_parts hc
  have hbig : ∀ e ∈ E, e.r.length ≤ 100000 := fun e he => by have := (h4 e he).2.2; omega
  rcases at_cases m E i hc with ⟨j, rfl, hj, hat⟩ | hat
  · by_cases hf : E.length = 512
    · refine (twice_full (m : Int) A c E rs (j : Int) w hA hat (by omega)).mono ?_
      rintro e w' ⟨rfl, hx⟩
      exact ⟨_, none, 0, 0, _, rfl, good_nil _ _, Nat.le_refl _, hx⟩
    · refine (twice_ok (m : Int) A c E rs j w hA hat hj (by omega) hbig).mono ?_
      rintro e w' ⟨B, d, ss, rfl, h5, h6, h7, h8⟩
      refine ⟨_, B, _, d, _, rfl, Good.of h5 h7 (by rw [List.length_append]; simp; omega) (fun e he => ?_), h5.sl.le, h8⟩
      rcases List.mem_append.1 he with he | he
      · exact hbig e he
      · simp at he; subst he; exact hbig _ (List.getElem_mem hj)
  · refine (twice_no (m : Int) A c E rs i w hA 6 hat (by decide)).mono ?_
    rintro e w' ⟨rfl, hx⟩
    exact ⟨_, none, 0, 0, _, rfl, good_nil _ _, Nat.le_refl _, hx⟩
end
end Go.Proofs.Ytomdplbdndadcaa
