import Derived.Test.YtomdplbdndadcaaNtH
namespace Go.Proofs.Ytomdplbdndadcaa
open Go.RowKit

/-- the same nets -/
def sameN (M K : NV) : Bool := decide (M.n = K.n) && decide (M.l = K.l)
theorem sameN_iff {M K : NV} : sameN M K = true ↔ M = K := by
  cases M; cases K; simp [sameN]

theorem same_any (v : Value) (M : NV) (rs : List Raw) (v2 : Value) (K : NV) (ss : List Raw) (w : World) (hv : IsNet w v M rs) (hv2 : IsNet w v2 K ss) :
    Calls Try.prog 21 #[v, v2] w fun e w' => e = .returned (.bool (sameN M K)) ∧ Ext w w' := by
  obtain ⟨A, c, rfl, hA⟩ := hv
  obtain ⟨B, d, rfl, hB⟩ := hv2
  obtain ⟨n, E⟩ := M
  obtain ⟨k, F⟩ := K
  simp only at *
  have x1 := Ext.alloc w (.cells #[.int .i64 n, .slice A E.length c] 27)
  have x2 := Ext.alloc (w.alloc (.cells #[.int .i64 n, .slice A E.length c] 27)) (.cells #[.int .i64 k, .slice B F.length d] 27)
  have x0 := Ext.trans x1 x2
  have hA0 := hA.below x0
  have hB0 := hB.below x0
  clear x1 x2
  by_cases hn : n = k
  · subst hn
    rw [show sameN ⟨n, E⟩ ⟨n, F⟩ = decide (E = F) by simp [sameN]]
    go_enter Try.func21, Try.ntmps21
    go_wp2_with fail
    refine (equalfunc_any A c E rs B d F ss _ hA0 hB0).mono ?_
    rintro e w3 ⟨rfl, x3⟩
    go_wp2_with fail
    go_ret
    exact ⟨rfl, Ext.trans x0 x3⟩
  · rw [show sameN ⟨n, E⟩ ⟨k, F⟩ = false by simp [sameN, hn]]
    go_enter Try.func21, Try.ntmps21
    go_wp2_with fail
    go_ret
    exact ⟨rfl, x0⟩
end Go.Proofs.Ytomdplbdndadcaa
