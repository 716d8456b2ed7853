import Derived.Test.YtigcfbpgbenabaaLeastA
import Derived.Test.YtigcfbpgbenabaaLeastB
import Derived.Test.YtigcfbpgbenabaaLeastC
import Derived.Test.YtigcfbpgbenabaaOpenPlan
namespace Go.Proofs.Ytigcfbpgbenabaa
open Go.RowKit Go.ChangeShapes Go.WideShapes Go.ChangeAt

theorem least_any (X : Option Addr) (cx : Nat) (x : List Int) (Y : Option Addr) (cy : Nat) (y : List Int) (v : Value) (P : PV) (w : World)
    (hX : Sl w X x.length cx 1 (x.map (Value.int .i64))) (hx : ∀ i ∈ x, (Lit.int .i64 i).wf = true) (hY : Sl w Y y.length cy 1 (y.map (Value.int .i64))) (hy : ∀ i ∈ y, (Lit.int .i64 i).wf = true)
    (hp : IsPlan w v P) (_ : -9223372036854775808 ≤ P.k ∧ P.k ≤ 9223372036854775807) :
    Calls Try.prog 3 #[.slice X x.length cx, .slice Y y.length cy, v] w fun e w' => e = .returned (.bool true) ∧ Ext w w' := by
  have ix : ∀ i ∈ x, -9223372036854775808 ≤ i ∧ i ≤ 9223372036854775807 := fun i h => bounds_i64 (hx i h)
  have iy : ∀ i ∈ y, -9223372036854775808 ≤ i ∧ i ≤ 9223372036854775807 := fun i h => bounds_i64 (hy i h)
  obtain ⟨AU, cU, BD, cD, rfl, hU, hD⟩ := hp
  obtain ⟨pk, U, D⟩ := P
  simp only at *
  by_cases h0 : x.length ≤ 40
  · by_cases h1 : y.length ≤ 40
    · cases hli : (decide (U.length ≤ 40) && decide (D.length ≤ 40)) with
      | false => exact least_heavy X cx x Y cy y pk AU cU U BD cD D w hX hY hU hD ix iy h0 h1 hli
      | true =>
        obtain ⟨S, hS⟩ : ∃ S, S = (applyP ⟨pk, U, D⟩ (nameL x)).1 := ⟨_, rfl⟩
        obtain ⟨er, her⟩ : ∃ er, er = (applyP ⟨pk, U, D⟩ (nameL x)).2 := ⟨_, rfl⟩
        have hap : applyP ⟨pk, U, D⟩ (nameL x) = (S, er) := by rw [hS, her]
        by_cases h : er = 0
        · subst h
          clear her
          by_cases hsm : S = nameL y
          · have hq := least (by rw [hap, hsm] : applyP ⟨pk, U, D⟩ (nameL x) = (nameL y, 0))
            exact least_c X cx x Y cy y pk AU cU U BD cD D w hX hY hU hD ix iy h0 h1 hli _ _ rfl rfl S hap (decide_eq_true hsm) (by rw [hq]; exact samePV_refl _)
          · exact least_b X cx x Y cy y pk AU cU U BD cD D w hX hY hU hD ix iy h0 h1 hli _ _ rfl rfl S hap (decide_eq_false hsm)
        · have hnil : applyP ⟨pk, U, D⟩ (nameL x) = ([], er) := by
            rcases checkP_val ⟨pk, U, D⟩ with hc | hc
            · rcases apply_snd (nameL x) hc with h2 | h2
              · exact absurd (her.trans h2) h
              · rw [h2] at her ⊢
                rw [her]
            · have h2 : applyP ⟨pk, U, D⟩ (nameL x) = ([], 2) := by unfold applyP; rw [if_pos (by rw [hc]; decide), hc]
              rw [h2] at her ⊢
              rw [her]
          exact least_a X cx x Y cy y pk AU cU U BD cD D w hX hY hU hD ix iy h0 h1 hli _ _ rfl rfl er hnil h
    · exact least_manyy X cx x Y cy y pk AU cU U BD cD D w hX hY hU hD ix iy h0 (by omega)
  · exact least_manyx X cx x Y cy y pk AU cU U BD cD D w hX hY hU hD ix iy (by omega)
end Go.Proofs.Ytigcfbpgbenabaa
