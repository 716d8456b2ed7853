import Derived.Test.YtigcfbpgbenabaaLeads
import Derived.Test.YtigcfbpgbenabaaOpenPlan
namespace Go.Proofs.Ytigcfbpgbenabaa
open Go.RowKit Go.ChangeShapes Go.WideShapes Go.ChangeAt

theorem leads_any (X : Option Addr) (cx : Nat) (x : List Int) (Y : Option Addr) (cy : Nat) (y : List Int) (Z : Option Addr) (cz : Nat) (z : List Int) (w : World)
    (hX : Sl w X x.length cx 1 (x.map (Value.int .i64))) (hx : ∀ i ∈ x, (Lit.int .i64 i).wf = true) (hY : Sl w Y y.length cy 1 (y.map (Value.int .i64))) (hy : ∀ i ∈ y, (Lit.int .i64 i).wf = true)
    (hZ : Sl w Z z.length cz 1 (z.map (Value.int .i64))) (hz : ∀ i ∈ z, (Lit.int .i64 i).wf = true) :
    Calls Try.prog 6 #[.slice X x.length cx, .slice Y y.length cy, .slice Z z.length cz] w fun e w' => e = .returned (.bool true) ∧ Ext w w' := by
  have ix : ∀ i ∈ x, -9223372036854775808 ≤ i ∧ i ≤ 9223372036854775807 := fun i h => bounds_i64 (hx i h)
  have iy : ∀ i ∈ y, -9223372036854775808 ≤ i ∧ i ≤ 9223372036854775807 := fun i h => bounds_i64 (hy i h)
  have iz : ∀ i ∈ z, -9223372036854775808 ≤ i ∧ i ≤ 9223372036854775807 := fun i h => bounds_i64 (hz i h)
  by_cases h0 : x.length ≤ 40
  · by_cases h1 : y.length ≤ 40
    · by_cases h2 : z.length ≤ 40
      · exact leads_all X cx x Y cy y Z cz z w hX hY hZ ix iy iz h0 h1 h2
      · exact leads_manyz X cx x Y cy y Z cz z w hX hY hZ ix iy iz h0 h1 (by omega)
    · exact leads_manyy X cx x Y cy y Z cz z w hX hY hZ ix iy iz h0 (by omega)
  · exact leads_manyx X cx x Y cy y Z cz z w hX hY hZ ix iy iz (by omega)
end Go.Proofs.Ytigcfbpgbenabaa
