import Derived.Test.YtigcfbpgbenabaaRgF
import Derived.Maps.OwnSet
import Derived.DeepKeys4
namespace Go.Proofs.Ytigcfbpgbenabaa
open Go.RowKit Go.Maps

theorem laidOut : laidOutB Try.prog = true := by kernel_rfl
theorem keyed49 : Keyed Try.prog 49 := Keyed.of_law (deep_law_laid (m := 3) laidOut (by omega) (of_decide_eq_true (by kernel_rfl)) (by kernel_rfl) (by kernel_rfl))
theorem key49 {v : List UInt8} (hv : v.length = 32) : keyOf Try.prog 49 (.agg (dg v)) = some (.string v) :=
  dg_key Try.underlying49 Try.underlying5 (by kernel_rfl) (by kernel_rfl) (by kernel_rfl) (of_decide_eq_true (by kernel_rfl)) hv

/-- block b is a set of just the digests in 'seen' -/
def SetHas (w : World) (b n : Nat) (seen : List (List UInt8)) : Prop :=
  ∃ D : DataW Unit, w.ownsMap Try.prog 49 unitElem b n D ∧ ∀ v : List UInt8, v.length = 32 → has D (.string v) = decide (v ∈ seen)

set_option maxHeartbeats 1000000 in
theorem add_any (b n : Nat) (seen : List (List UInt8)) (v : List UInt8) (w : World) (hS : SetHas w b n seen) (hv : v.length = 32) (hn : n < 4000000000000) :
    Calls Try.prog 33 #[.map (some b), .agg (dg v)] w fun e w' => e = .returned (.bool (!decide (v ∈ seen))) ∧ SetHas w' b (n + 1) (v :: seen) ∧ w.grownBy w' (some b) := by
  obtain ⟨D, hown, hD⟩ := hS
  have hkey := key49 hv
  obtain ⟨V, hV⟩ : ∃ V, V = dg v := ⟨_, rfl⟩
  rw [← hV] at hkey ⊢
  have i0 : (Try.prog.info? 49).map (·.size) = some V.size := by rw [hV, dg_size, hv]; kernel_rfl
  have I0 := Lib.hid i0
  have HK := Lib.hid hkey
  have hz : ∀ u : World, (zeroValue 67).run Try.prog u = .ok (.agg #[]) u := fun u => by kernel_rfl
  have HZ := Lib.hid hz
  clear hV i0 hkey hz
  go_enter Try.func33, Try.ntmps33
  have hown0 : (w.alloc (Obj.cells V 49)).ownsMap Try.prog 49 unitElem b n D := hown.alloc _
  have hblk : (w.alloc (Obj.cells V 49)).heap[w.heap.size]? = some (.cells V 49 (0, 0)) := heap_alloc_new _ _
  have hblk2 : ((w.alloc (Obj.cells V 49)).alloc (Obj.cells #[] 67)).heap[w.heap.size]? = some (.cells V 49 (0, 0)) := (Below.heap_alloc _ _ _ (Array.getElem?_eq_some_iff.1 hblk).1).trans hblk
  have HB1 := Lib.hid hblk
  have HB2 := Lib.hid hblk2
  clear hblk hblk2
  have hown1 : ((w.alloc (Obj.cells V 49)).alloc (Obj.cells #[] 67)).ownsMap Try.prog 49 unitElem b n D := hown0.alloc _
  have hDv := hD v hv
  have x0 : w.grownBy ((w.alloc (Obj.cells V 49)).alloc (Obj.cells #[] 67)) (some b) := below_grown (((Below.refl _ w).alloc (Nat.le_refl _) _).alloc (by simp) _)
  have hbl : b < w.heap.size := by
    obtain ⟨es, clock, hb, _⟩ := hown
    exact (Array.getElem?_eq_some_iff.1 hb).1
  go_wp2_with (first | (refine wpList_load_row rfl 49 _ rfl _ rfl _ _ _ _ HB1.out Try.underlying49 rfl I0.out ?_) | (refine wpList_load_row rfl 49 _ rfl _ rfl _ _ _ _ HB2.out Try.underlying49 rfl I0.out ?_) | (refine wpList_lookup_own_unit _ rfl _ _ 62 rfl 49 67 keyed49 Try.underlying62 (HZ.out _) b n D rfl hown0 _ _ rfl HK.out ?_) | (refine wpList_mapUpdate_in _ rfl _ _ _ 62 rfl 49 67 keyed49 Try.underlying62 unitElem b n D rfl hown1 (by unfold maxLen; omega) _ _ _ rfl rfl HK.out _ _ unitElem_mk ?_; intro w1 hown2 hturn))
  go_ret
  refine ⟨rfl, ⟨_, hown2, fun u hu => ?_⟩, ?_⟩
  · by_cases hx : u = v
    · subst hx
      rw [has_put_same hown.isMap (keyed49.key HK.out)]
      simp
    · rw [has_put_other (fun e => hx (by simpa using e)), hD u hu]
      simp [hx]
  · have hg := hturn.grown
    exact ⟨hg.os.trans x0.os, hg.tape.trans x0.tape, hg.output.trans x0.output, Nat.le_trans x0.size hg.size, fun k hk hne => (hg.block k (Nat.lt_of_lt_of_le hk x0.size) hne).trans (x0.block k hk hne)⟩
end Go.Proofs.Ytigcfbpgbenabaa
