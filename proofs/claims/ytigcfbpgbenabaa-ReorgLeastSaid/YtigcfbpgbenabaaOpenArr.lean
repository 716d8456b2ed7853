import Derived.Test.YtigcfbpgbenabaaOpen
import Derived.Test.YtigcfbpgbenabaaDig
/- An array of bytes that came in, as a value. -/
namespace Go.Proofs.Ytigcfbpgbenabaa
open Go.RowKit Go.ChangeShapes Go.WideShapes Go.ChangeAt

section
variable {H : Type} {enc : TypeId × Value → H} {P : Program} {w : World} {base : Nat} {spare : Nat → Bool} {held : Bool}
theorem trod_byte {e : TypeId} {n : Nat} {u : Value} {x : DataW H × List MemPlace} (he : P.underlying e = some (.int .u8)) (h : DataW.trod enc P w base spare held n e [u] = some x) : ∃ b : UInt8, u = bc b := by
  obtain ⟨z, hu, _, hw⟩ := DataW.trod_int he h
  obtain rfl : u = .int .u8 z := by simpa using hu
  have := bounds_u8 hw
  refine ⟨UInt8.ofNat z.toNat, ?_⟩
  simp only [bc, UInt8.toNat_ofNat']
  congr 1
  omega

theorem open_arr {t e : TypeId} {N : Nat} {r : Reach} {b0 : Nat} {v : Value} {d : DataW H} {p : List MemPlace} (ht : P.underlying t = some (.array N e)) (he : P.underlying e = some (.int .u8)) (hct : P.cellsOf t = N) (hc : P.cellsOf e = 1)
    (hv : Value.okWide P w r b0 t v) (h : DataW.Trod enc P w base spare held t v d p) : ∃ l : List UInt8, v = .agg (dg l) ∧ l.length = N := by
  simp only [Value.okWide, ht] at hv
  obtain ⟨cs, rfl, hsz, _⟩ := hv
  obtain ⟨fuel, hf⟩ := h
  obtain ⟨xs, m, rfl, _, hcl, hxl, hx⟩ := DataW.trod_array ht hf
  have hcl : cs.toList.length = N := by rw [← hct]; exact hcl
  have hcell : ∀ i, i < N → ∃ b : UInt8, cs.toList[i]? = some (bc b) := by
    intro i hi
    have h1 := hx i hi
    have hi2 : i < cs.toList.length := by omega
    have hd : (List.drop (i * P.cellsOf e) (Value.agg cs).cells.toList).take (P.cellsOf e) = [cs.toList[i]] := by
      rw [hc, Nat.mul_one]
      show (cs.toList.drop i).take 1 = _
      rw [List.drop_eq_getElem_cons hi2, List.take_succ_cons, List.take_zero]
    rw [hd, List.getElem?_eq_getElem (by omega)] at h1
    obtain ⟨b, hb⟩ := trod_byte he h1
    exact ⟨b, by rw [List.getElem?_eq_getElem hi2, hb]⟩
  refine ⟨(List.range N).map fun i => ((cs.toList[i]?).map fun u => match u with | .int _ z => UInt8.ofNat z.toNat | _ => 0).getD 0, ?_, by simp⟩
  congr 1
  apply Array.toList_inj.1
  rw [dg_list]
  refine List.ext_getElem? fun i => ?_
  rcases Nat.lt_or_ge i N with hi | hi
  · obtain ⟨b, hb⟩ := hcell i hi
    rw [hb, List.getElem?_map, List.getElem?_map, List.getElem?_range hi]
    simp only [Option.map_some, hb, bc, Option.getD_some, Int.toNat_natCast, UInt8.ofNat_toNat]
  · rw [List.getElem?_eq_none (by omega), List.getElem?_eq_none (by simp; omega)]
end
end Go.Proofs.Ytigcfbpgbenabaa
