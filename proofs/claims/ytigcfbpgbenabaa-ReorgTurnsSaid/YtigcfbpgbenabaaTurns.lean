import Derived.Test.YtigcfbpgbenabaaTurnsA
import Derived.Test.YtigcfbpgbenabaaTurnsB
import Derived.Test.YtigcfbpgbenabaaOpenPlan
namespace Go.Proofs.Ytigcfbpgbenabaa
open Go.RowKit Go.ChangeShapes Go.WideShapes Go.ChangeAt

theorem turns_any (v : Value) (P : PV) (s : Int) (Z : Option Addr) (cz : Nat) (z : List Int) (w : World) (hp : IsPlan w v P) (hb : -9223372036854775808 ≤ P.k ∧ P.k ≤ 9223372036854775807) (_ : (Lit.int .i64 s).wf = true)
    (hZ : Sl w Z z.length cz 1 (z.map (Value.int .i64))) (hzw : ∀ x ∈ z, (Lit.int .i64 x).wf = true) :
    Calls Try.prog 4 #[v, .int .i64 s, .slice Z z.length cz] w fun e w' => e = .returned (.bool true) ∧ Ext w w' := by
  have hzr : ∀ x ∈ z, -9223372036854775808 ≤ x ∧ x ≤ 9223372036854775807 := fun x hx => bounds_i64 (hzw x hx)
  have hZ : Is w Z cz z := hZ
  obtain ⟨A0, c0, B0, d0, rfl, hA, hB⟩ := hp
  obtain ⟨k, U, D⟩ := P
  simp only at *
  cases hli : (decide (U.length ≤ 40) && decide (D.length ≤ 40)) with
  | false => exact turns_heavy k A0 c0 U B0 d0 D s Z cz z w hA hB hZ hzr hli
  | true =>
    by_cases hz : z.length ≤ 40
    · rcases checkP_val ⟨k, U, D⟩ with hc | hc
      · rcases apply_snd (nameL z) hc with h0 | h4
        · obtain ⟨S, hS⟩ : ∃ S, S = (applyP ⟨k, U, D⟩ (nameL z)).1 := ⟨_, rfl⟩
          have hap : applyP ⟨k, U, D⟩ (nameL z) = (S, 0) := by rw [hS, ← h0]
          have hfit : k ≤ ((nameL z).length : Int) ∧ ((nameL z).length : Int) - k = (U.length : Int) := by
            have h := apply_ok_iff hap
            simp only at h
            omega
          by_cases hs : s ≤ k
          · exact turns_ok1 k A0 c0 U B0 d0 D s Z cz z w hA hB hZ hzr hli hz hc hs hb.2 _ rfl S hap hfit
          · exact turns_ok0 k A0 c0 U B0 d0 D s Z cz z w hA hB hZ hzr hli hz hc (by omega) hb.2 _ rfl S hap hfit
        · by_cases hf : k ≤ ((nameL z).length : Int)
          · by_cases hf2 : ((nameL z).length : Int) - k = (U.length : Int)
            · by_cases hs : s ≤ k
              · exact turns_four1 k A0 c0 U B0 d0 D s Z cz z w hA hB hZ hzr hli hz hc hs hb.2 _ rfl h4 ⟨hf, hf2⟩
              · exact turns_four0 k A0 c0 U B0 d0 D s Z cz z w hA hB hZ hzr hli hz hc (by omega) hb.2 _ rfl h4 ⟨hf, hf2⟩
            · by_cases hs : s ≤ k
              · exact turns_near1 k A0 c0 U B0 d0 D s Z cz z w hA hB hZ hzr hli hz hc hs hb.2 _ rfl h4 hf hf2
              · exact turns_near0 k A0 c0 U B0 d0 D s Z cz z w hA hB hZ hzr hli hz hc (by omega) hb.2 _ rfl h4 hf hf2
          · by_cases hs : s ≤ k
            · exact turns_far1 k A0 c0 U B0 d0 D s Z cz z w hA hB hZ hzr hli hz hc hs hb.2 _ rfl h4 (by omega)
            · exact turns_far0 k A0 c0 U B0 d0 D s Z cz z w hA hB hZ hzr hli hz hc (by omega) hb.2 _ rfl h4 (by omega)
      · exact turns_bad k A0 c0 U B0 d0 D s Z cz z w hA hB hZ hzr hli hz hc
    · exact turns_many k A0 c0 U B0 d0 D s Z cz z w hA hB hZ hzr hli (by omega)
end Go.Proofs.Ytigcfbpgbenabaa
