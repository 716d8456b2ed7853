import Derived.Test.YtomdplbdndadcaaMem
import Derived.ProofKit
import Derived.OpenShut
import Derived.ShutString
import Derived.ChangeOld
/- How arguments are opened to the words of Mem. -/
namespace Go.Proofs.Ytomdplbdndadcaa
open Go.RowKit Go.ChangeShapes Go.WideShapes Go.ChangeAt

section
variable {H : Type} {enc : TypeId × Value → H} {P : Program} {w : World} {base : Nat} {spare : Nat → Bool} {held : Bool}

/-- integers whose cells are numbers of a byte, as bytes -/
theorem bytes_of_ints (zs : List Int) (hwz : ∀ n ∈ zs, (Lit.int .u8 n).wf = true) : (zs.map fun n => UInt8.ofNat n.toNat).map bc = zs.map (Value.int .u8) := by
  rw [List.map_map]
  refine List.map_congr_left fun n hn => ?_
  have := bounds_u8 (hwz n hn)
  simp only [Function.comp, bc, UInt8.toNat_ofNat']
  congr 1
  omega

/-- a slice of integers that came in, as one that reads -/
theorem open_nums {k : IntKind} {t e : TypeId} {n : Nat} {A : Option Addr} {c : Nat} {d : DataW H} {p : List MemPlace} (ht : P.underlying t = some (.slice e)) (he : P.underlying e = some (.int k)) (hc : P.cellsOf e = 1)
    (h : DataW.Trod enc P w base spare held t (.slice A n c) d p) : ∃ zs : List Int, zs.length = n ∧ Sl w A n c 1 (zs.map (Value.int k)) ∧ ∀ z ∈ zs, (Lit.int k z).wf = true := by
  obtain ⟨fuel, hf⟩ := h
  rcases open_ints ht he hc hf with ⟨hcs, _⟩ | ⟨a, len, cap, zs, hcs, _, hl, hm, hz, _, hcell, hwz⟩
  · simp [Value.cells] at hcs
    obtain ⟨rfl, rfl, rfl⟩ := hcs
    exact ⟨[], rfl, Sl.nil _ _, fun _ h => by cases h⟩
  · simp [Value.cells] at hcs
    obtain ⟨rfl, rfl, rfl⟩ := hcs
    have hlz : n ≤ zs.length := by rw [hz]; split <;> omega
    refine ⟨zs.take n, by simp; omega, ⟨by simp; omega, hl, hm, (fun h => by cases h), ?_⟩, fun z h => hwz z (List.mem_of_mem_take h)⟩
    rintro b ⟨⟩ j u hu
    have hj : j < n := by
      have := (List.getElem?_eq_some_iff.1 hu).1
      simp at this; omega
    rw [hcell j (by omega)]
    rw [List.map_take, List.getElem?_take, if_pos hj, List.getElem?_map, List.getElem?_eq_getElem (by omega)] at hu
    simp only [Option.map_some, Option.some.injEq] at hu
    rw [← hu]
    simp [List.getD, show j < zs.length by omega]

theorem open_bytes {t e : TypeId} {r : Reach} {b0 : Nat} {v : Value} {d : DataW H} {p : List MemPlace} (ht : P.underlying t = some (.slice e)) (he : P.underlying e = some (.int .u8)) (hc : P.cellsOf e = 1)
    (hv : Value.okWide P w r b0 t v) (h : DataW.Trod enc P w base spare held t v d p) : ∃ A c l, v = .slice A (List.length l) c ∧ Bs w A c l := by
  obtain ⟨A, n, c, rfl⟩ := okWide_slice ht hv
  obtain ⟨zs, hn, hs, hw⟩ := open_nums ht he hc h
  refine ⟨A, c, zs.map fun n => UInt8.ofNat n.toNat, by rw [List.length_map, hn], ?_⟩
  unfold Bs
  rw [List.length_map, hn, bytes_of_ints zs hw]
  exact hs
end
end Go.Proofs.Ytomdplbdndadcaa
