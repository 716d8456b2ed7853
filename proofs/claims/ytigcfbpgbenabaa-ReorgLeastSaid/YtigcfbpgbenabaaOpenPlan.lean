import Derived.Test.YtigcfbpgbenabaaOpenArr
import Derived.Test.YtigcfbpgbenabaaPl
/- A slice of digests and a plan that came in, as values. -/
namespace Go.Proofs.Ytigcfbpgbenabaa
open Go.RowKit Go.ChangeShapes Go.WideShapes Go.ChangeAt

section
variable {H : Type} {enc : TypeId × Value → H} {P : Program} {w : World} {base : Nat} {spare : Nat → Bool} {held : Bool}
theorem trod_arr {t e : TypeId} {N fuel : Nat} {cs : List Value} {y : DataW H × List MemPlace} (ht : P.underlying t = some (.array N e)) (he : P.underlying e = some (.int .u8)) (hct : P.cellsOf t = N) (hc : P.cellsOf e = 1)
    (hf : DataW.trod enc P w base spare held fuel t cs = some y) : ∃ l : List UInt8, cs = l.map bc ∧ l.length = N := by
  obtain ⟨xs, m, rfl, _, hcl, hxl, hx⟩ := DataW.trod_array ht hf
  have hcl : cs.length = N := by rw [← hct]; exact hcl
  have hcell : ∀ i, i < N → ∃ b : UInt8, cs[i]? = some (bc b) := by
    intro i hi
    have h1 := hx i hi
    have hi2 : i < cs.length := by omega
    have hd : (List.drop (i * P.cellsOf e) cs).take (P.cellsOf e) = [cs[i]] := by
      rw [hc, Nat.mul_one, List.drop_eq_getElem_cons hi2, List.take_succ_cons, List.take_zero]
    rw [hd, List.getElem?_eq_getElem (by omega)] at h1
    obtain ⟨b, hb⟩ := trod_byte he h1
    exact ⟨b, by rw [List.getElem?_eq_getElem hi2, hb]⟩
  refine ⟨(List.range N).map fun i => ((cs[i]?).map fun u => match u with | .int _ z => UInt8.ofNat z.toNat | _ => 0).getD 0, ?_, by simp⟩
  refine List.ext_getElem? fun i => ?_
  rcases Nat.lt_or_ge i N with hi | hi
  · obtain ⟨b, hb⟩ := hcell i hi
    rw [hb, List.getElem?_map, List.getElem?_map, List.getElem?_range hi]
    simp only [Option.map_some, hb, bc, Option.getD_some, Int.toNat_natCast, UInt8.ofNat_toNat]
  · rw [List.getElem?_eq_none (by omega), List.getElem?_eq_none (by simp; omega)]

theorem trod_digs {t e u : TypeId} {fuel : Nat} {cs : List Value} {y : DataW H × List MemPlace} (ht : P.underlying t = some (.slice e)) (he : P.underlying e = some (.array 32 u)) (hu : P.underlying u = some (.int .u8)) (hce : P.cellsOf e = 32) (hcu : P.cellsOf u = 1)
    (hf : DataW.trod enc P w base spare held fuel t cs = some y) : ∃ A c L, cs = [.slice A (List.length L) c] ∧ Ds w A c L := by
  rcases DataW.trod_slice ht hf with ⟨rfl, _⟩ | ⟨a, len, cap, elems, rest, n, _, rfl, _, hb, hl, hm, hlen, hel, _, _⟩
  · exact ⟨none, 0, [], rfl, Ds.nil w⟩
  · have each : ∀ i, i < len → ∃ d : List UInt8, d.length = 32 ∧ ∀ j v, (d.map bc)[j]? = some v → w.cell? (a.add (i * 32 + j)) = some v := by
      intro i hi
      have h1 := hel i hi
      rw [hce, List.getElem?_eq_getElem (by omega)] at h1
      cases hcs : w.cells? base (a.add (i * 32)) 32 with
      | none => rw [hcs] at h1; cases h1
      | some ds =>
        rw [hcs] at h1
        obtain ⟨d, rfl, hd⟩ := trod_arr he hu hce hcu h1
        have h2 := World.cells?_some hcs
        refine ⟨d, hd, fun j v hv => ?_⟩
        have hj : j < 32 := by
          have := (List.getElem?_eq_some_iff.1 hv).1
          rw [List.length_map] at this
          omega
        rw [← add_add]
        have := h2.2.2 j hj
        rw [this, hv]
    obtain ⟨f, hf⟩ : ∃ f : Nat → List UInt8, ∀ i, i < len → (f i).length = 32 ∧ ∀ j v, ((f i).map bc)[j]? = some v → w.cell? (a.add (i * 32 + j)) = some v := by
      refine ⟨fun i => if h : i < len then (each i h).choose else [], fun i hi => ?_⟩
      simp only [dif_pos hi]
      exact (each i hi).choose_spec
    have hok : ∀ d ∈ (List.range len).map f, d.length = 32 := by
      intro d hd
      obtain ⟨i, hi, rfl⟩ := List.mem_map.1 hd
      exact (hf i (List.mem_range.1 hi)).1
    refine ⟨some a, cap, (List.range len).map f, by simp, ⟨by rw [cellsD_length hok], by simpa using hl, hm, (fun h => by cases h), ?_⟩, hok⟩
    rintro b ⟨⟩ j v hv
    have hjl : j < ((List.range len).map f).length * 32 := by
      have := (List.getElem?_eq_some_iff.1 hv).1
      rwa [cellsD_length hok] at this
    simp at hjl
    have hi : j / 32 < len := by omega
    have hj : j % 32 < 32 := Nat.mod_lt _ (by decide)
    have hlenf := (hf (j / 32) hi).1
    have hget : ((List.range len).map f)[j / 32]'(by simpa using hi) = f (j / 32) := by simp
    have h3 : (((List.range len).map f)[j / 32]'(by simpa using hi) |>.map bc)[j % 32]? = some (bc ((f (j / 32))[j % 32]'(by omega))) := by
      rw [hget, List.getElem?_map, List.getElem?_eq_getElem (by omega)]; rfl
    have h4 := cellsD_get hok (by simpa using hi) h3
    have e : j / 32 * 32 + j % 32 = j := by omega
    rw [e, hv] at h4
    cases h4
    have h5 := (hf (j / 32) hi).2 (j % 32) (bc ((f (j / 32))[j % 32]'(by omega))) (by rw [List.getElem?_map, List.getElem?_eq_getElem (by omega)]; rfl)
    rwa [e] at h5

theorem open_plan {d : DataW H} {p : List MemPlace} {v : Value} {r : Reach} {b0 : Nat} (hv : Value.okWide Try.prog w r b0 25 v) (h : DataW.Trod enc Try.prog w base spare held 25 v d p) :
    ∃ P : PV, IsPlan w v P ∧ -9223372036854775808 ≤ P.k ∧ P.k ≤ 9223372036854775807 := by
  obtain ⟨fuel, hf⟩ := h
  obtain ⟨cs, rfl, hsz⟩ := okWide_struct Try.underlying25 hv
  have hsz : cs.size = 3 := hsz.trans (by kernel_rfl)
  obtain ⟨xs, m, rfl, _, hcl, hxl, hx⟩ := DataW.trod_struct Try.underlying25 hf
  have hc3 : Try.prog.cellsOf 3 = 1 := by kernel_rfl
  have hc23 : Try.prog.cellsOf 23 = 1 := by kernel_rfl
  obtain ⟨a, b, c, rfl⟩ : ∃ a b c, cs = #[a, b, c] := by
    obtain ⟨l⟩ := cs
    match l, hsz with
    | [a, b, c], _ => exact ⟨a, b, c, rfl⟩
  have h0 : DataW.trod enc Try.prog w base spare held m 3 (List.take (Try.prog.cellsOf 3) (List.drop 0 [a, b, c])) = xs[0]? := hx 0 _ rfl
  have h1 : DataW.trod enc Try.prog w base spare held m 23 (List.take (Try.prog.cellsOf 23) (List.drop 1 [a, b, c])) = xs[1]? := hx 1 _ rfl
  have h2 : DataW.trod enc Try.prog w base spare held m 23 (List.take (Try.prog.cellsOf 23) (List.drop 2 [a, b, c])) = xs[2]? := hx 2 _ rfl
  rw [hc3] at h0
  rw [hc23] at h1 h2
  match xs, hxl with
  | [y0, y1, y2], _ =>
    have h0 : DataW.trod enc Try.prog w base spare held m 3 [a] = some y0 := h0
    have h1 : DataW.trod enc Try.prog w base spare held m 23 [b] = some y1 := h1
    have h2 : DataW.trod enc Try.prog w base spare held m 23 [c] = some y2 := h2
    obtain ⟨z, hz, _, hwz⟩ := DataW.trod_int Try.underlying3 h0
    obtain ⟨A, n, U, hU, dU⟩ := trod_digs Try.underlying23 Try.underlying49 Try.underlying5 (by kernel_rfl) (by kernel_rfl) h1
    obtain ⟨B, k, D, hD, dD⟩ := trod_digs Try.underlying23 Try.underlying49 Try.underlying5 (by kernel_rfl) (by kernel_rfl) h2
    obtain rfl : a = .int .i64 z := by simpa using hz
    obtain rfl : b = .slice A U.length n := by simpa using hU
    obtain rfl : c = .slice B D.length k := by simpa using hD
    exact ⟨⟨z, U, D⟩, ⟨A, n, B, k, rfl, dU, dD⟩, bounds_i64 hwz⟩
end
end Go.Proofs.Ytigcfbpgbenabaa
