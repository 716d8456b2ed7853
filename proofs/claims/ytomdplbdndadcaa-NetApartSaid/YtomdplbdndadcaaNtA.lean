import Derived.Test.YtomdplbdndadcaaEv
import Derived.Test.YtomdplbdndadcaaProg
namespace Go.Proofs.Ytomdplbdndadcaa
open Go.RowKit

theorem any_take {α : Type} (p : α → Bool) : ∀ (l : List α), (∀ x ∈ l, p x = false) → l.any p = false := by
  intro l h
  rw [List.any_eq_false]
  intro x hx
  rw [h x hx]
  simp

set_option maxHeartbeats 4000000 in
theorem check_any (v : Value) (M : NV) (rs : List Raw) (w : World) (hv : IsNet w v M rs) :
    Calls Try.prog 17 #[v] w fun e w' => e = .returned (.int .i64 (checkN M)) ∧ Ext w w' := by
  obtain ⟨A, c, rfl, hA⟩ := hv
  obtain ⟨n, E⟩ := M
  simp only at *
  have h0 := heap_alloc_new w (.cells #[.int .i64 n, .slice A E.length c] 27)
  have x0 := Ext.alloc w (.cells #[.int .i64 n, .slice A E.length c] 27)
  have hA0 := hA.below x0
  by_cases h1 : n < 1
  · rw [show checkN ⟨n, E⟩ = 2 by unfold checkN; rw [if_pos (.inl h1)]]
    go_enter Try.func17, Try.ntmps17
    go_wp2_with fail
    go_ret
    exact ⟨rfl, x0⟩
  by_cases h2 : 7 < n
  · rw [show checkN ⟨n, E⟩ = 2 by unfold checkN; rw [if_pos (.inr (.inl h2))]]
    have h1' : 1 ≤ n := by omega
    clear h1
    go_enter Try.func17, Try.ntmps17
    go_wp2_with fail
    go_ret
    exact ⟨rfl, x0⟩
  by_cases h3 : 512 < E.length
  · rw [show checkN ⟨n, E⟩ = 2 by unfold checkN; rw [if_pos (.inr (.inr (.inl h3)))]]
    have h3' : (512 : Int) < (E.length : Int) := by omega
    clear h3
    go_enter Try.func17, Try.ntmps17
    go_wp2_with fail
    go_ret
    exact ⟨rfl, x0⟩
  have hb : checkN ⟨n, E⟩ = if E.any (badE n) = true then 2 else 0 := by
    unfold checkN
    by_cases h4 : E.any (badE n) = true
    · rw [if_pos (.inr (.inr (.inr h4))), if_pos h4]
    · rw [if_neg h4, if_neg]; rintro (h | h | h | h)
      · exact h1 h
      · exact h2 h
      · exact h3 h
      · exact h4 h
  have h3' : ¬ (512 : Int) < (E.length : Int) := by omega
  have H3 : E.length ≤ 512 := by omega
  rw [hb]
  clear hb h3
  generalize hR : (if E.any (badE n) = true then (2 : Int) else 0) = R
  have HR := Lib.hid hR
  clear hR
  go_enter Try.func17, Try.ntmps17
  go_wp2_with fail
  generalize w.alloc _ = w0 at *
  have hlt := (Array.getElem?_eq_some_iff.1 h0).1
  have mn : ∀ u, Ext w0 u → u.cell? ⟨w.heap.size, 0, none⟩ = some (.int .i64 n) := fun u hu => by rw [cell_of_row _ _ _ _ _ _ ((hu.block _ hlt).trans h0)]; rfl
  go_loopw [22] (fun i wr => ∃ j : Nat, j ≤ E.length ∧ i = .int .i64 (j : Int) ∧ (∀ e ∈ E.take j, badE n e = false) ∧ Ext w0 wr) (fun i _ => E.length - (intOf i).toNat)
  case atStart => exact ⟨0, by omega, rfl, by simp, Ext.refl _⟩
  case round =>
    obtain ⟨j, hj, rfl, hgood, hwr⟩ := hrel
    have HG := Lib.hid hgood
    clear hgood
    by_cases hjl : j < E.length
    · have hAr := hA0.below hwr
      obtain ⟨b1, o1, rfl, hr⟩ := hAr.at (by omega)
      obtain ⟨g1, g2, g3⟩ := hr j hjl (by rw [hA.len]; exact hjl)
      obtain ⟨q, hq⟩ : ∃ q, q = rs[j]'(by rw [hA.len]; exact hjl) := ⟨_, rfl⟩
      obtain ⟨e, he⟩ : ∃ e, e = E[j] := ⟨_, rfl⟩
      rw [← hq] at g3
      rw [← he] at g1 g2 g3
      have HE := Lib.hid he
      clear hq he hr hAr
      have xj := Ext.trans hwr (Ext.alloc wr (.cells #[.int .i64 e.f, .int .i64 e.t, .slice q.1 e.r.length q.2] 38))
      have cn := mn _ xj
      have hbad : badE n e = true → R = 2 := fun hb => by
        rw [← HR.out, if_pos]
        exact List.any_eq_true.2 ⟨e, by rw [HE.out]; exact List.getElem_mem hjl, hb⟩
      have hnext : badE n e = false → ∀ e ∈ E.take (j + 1), badE n e = false := fun hb x hx => by
        rw [List.take_add_one, List.getElem?_eq_getElem hjl, ← HE.out] at hx
        rcases List.mem_append.1 hx with hx | hx
        · exact HG.out x hx
        · simp at hx; rw [hx]; exact hb
      have HBAD := Lib.hid hbad
      have HNEXT := Lib.hid hnext
      clear hbad hnext
      go_wp2_with fail
      all_goals (try rename_i hlast; try simp only [beq_iff_eq] at hlast)
      all_goals
        by_cases hb : badE n e = true
        · first
          | (exfalso; unfold badE at hb; simp only [Bool.or_eq_true, decide_eq_true_eq] at hb; omega)
          | (have hr := HBAD.out hb
             subst hr
             go_ret
             exact ⟨rfl, Ext.trans x0 (Ext.trans hwr (Ext.alloc wr _))⟩)
        · first
          | (exfalso; refine hb ?_; unfold badE; simp only [Bool.or_eq_true, decide_eq_true_eq]; omega)
          | (have hn := Lib.hid (HNEXT.out (by simpa using hb))
             clear hb
             go_roundw
             case rel => exact ⟨j + 1, by omega, by go_num, hn.out, xj⟩
             case measure => simp [intOf]; omega)
    · have : j = E.length := by omega
      subst this
      have hR : R = 0 := by
        have h := HG.out
        rw [List.take_length] at h
        rw [← HR.out, any_take _ _ h]
        rfl
      subst hR
      go_wp2_with fail
      go_ret
      exact ⟨rfl, Ext.trans x0 hwr⟩
end Go.Proofs.Ytomdplbdndadcaa
