import Derived.Test.YtigcfbpgbenabaaRgD
namespace Go.Proofs.Ytigcfbpgbenabaa
open Go.RowKit

set_option maxHeartbeats 1000000 in
theorem closure_any (A : Option Addr) (c : Nat) (L : List (List UInt8)) (v : List UInt8) (g : Nat) (w : World) (hA : Ds w A c L) (hv : v.length = 32) (hg : w.heap[g]? = some (.cells #[.slice A L.length c] 23 (0, 0))) :
    Calls Try.prog 29 #[.agg (dg v), .pointer (some ⟨g, 0, none⟩)] w fun e w' => e = .returned (.bool (decide (v ∈ L))) ∧ Ext w w' := by
  obtain ⟨V, hV⟩ : ∃ V, V = dg v := ⟨_, rfl⟩
  rw [← hV]
  have i0 : (Try.prog.info? 49).map (·.size) = some V.size := by rw [hV, dg_size, hv]; kernel_rfl
  have HV := Lib.hid hV
  have I0 := Lib.hid i0
  clear hV i0
  have hg2 : (w.alloc (Obj.cells V 49)).heap[g]? = some (.cells #[.slice A L.length c] 23 (0, 0)) := (Below.heap_alloc w _ _ (Array.getElem?_eq_some_iff.1 hg).1).trans hg
  have hc : (w.alloc (Obj.cells V 49)).cell? ⟨g, 0, none⟩ = some (.slice A L.length c) := by rw [cell_of_row _ _ _ _ _ _ hg2]; rfl
  go_enter Try.func29, Try.ntmps29
  go_wp2_with (refine wpList_load_row rfl 49 _ rfl _ rfl _ _ _ _ (heap_alloc_new _ _) Try.underlying49 rfl I0.out ?_)
  have x0 : Ext w (w.alloc (Obj.cells V 49)) := (Below.refl _ w).alloc (Nat.le_refl _) _
  have hA0 := hA.alloc (Obj.cells V 49)
  generalize w.alloc (Obj.cells V 49) = w0 at *
  rw [HV.out]
  refine (contains_any A c L v w0 hA0 hv).mono ?_
  rintro e w1 ⟨rfl, x1⟩
  go_wp2_with fail
  go_ret
  exact ⟨rfl, Ext.trans x0 x1⟩

set_option maxHeartbeats 1000000 in
theorem indexf_any (A : Option Addr) (c : Nat) (L : List (List UInt8)) (B : Option Addr) (d : Nat) (M : List (List UInt8)) (g : Nat) (w : World) (hA : Ds w A c L) (hB : Ds w B d M) (hg : w.heap[g]? = some (.cells #[.slice A L.length c] 23 (0, 0))) :
    Calls Try.prog 34 #[.slice B M.length d, .func (.func 29) #[] #[.pointer (some ⟨g, 0, none⟩)]] w fun e w' => (∃ k : Int, e = .returned (.int .i64 k) ∧ (0 ≤ k ↔ ∃ x ∈ M, x ∈ L)) ∧ Ext w w' := by
  have hle := hB.sl.le
  have hmx := hB.sl.max
  have h63 : M.length ≤ 9223372036854775807 := by unfold maxLen at hmx; omega
  clear hle hmx
  go_enter Try.func34, Try.ntmps34
  go_wp2_with fail
  go_loopw [8] (fun i wr => ∃ j : Nat, j ≤ M.length ∧ i = .int .i64 (j : Int) ∧ (∀ x ∈ M.take j, x ∉ L) ∧ Ext w wr) (fun i _ => M.length - (intOf i).toNat)
  case atStart => exact ⟨0, by omega, rfl, by simp, Ext.refl w⟩
  case round =>
    obtain ⟨j, hj, rfl, htk, hwr⟩ := hrel
    have HT := Lib.hid htk
    clear htk
    by_cases hjl : j < M.length
    · have hBr : Ds wr B d M := hB.below hwr
      have hAr : Ds wr A c L := hA.below hwr
      have hgr : wr.heap[g]? = some (.cells #[.slice A L.length c] 23 (0, 0)) := (hwr.block _ (Array.getElem?_eq_some_iff.1 hg).1).trans hg
      obtain ⟨b1, o1, rfl, hr⟩ := hBr.range (by omega)
      have hx := hBr.ok M[j] (List.getElem_mem hjl)
      have i1 : (Try.prog.info? 49).map (·.size) = some (M[j].map bc).length := by rw [List.length_map, hx]; kernel_rfl
      have hr1 := hr j hjl
      have hdg : (M[j].map bc).toArray = dg M[j] := rfl
      obtain ⟨q, hq⟩ : ∃ q, q = M[j] := ⟨_, rfl⟩
      rw [← hq] at i1 hr1 hdg hx
      obtain ⟨X, hX⟩ : ∃ X, X = q.map bc := ⟨_, rfl⟩
      rw [← hX] at i1 hr1 hdg
      have HDG := Lib.hid hdg
      have HQ := Lib.hid hq
      have I1 := Lib.hid i1
      clear hr hBr hdg hq hX i1
      go_wp2_with (refine wpList_load_mid rfl 49 _ rfl b1 (o1 + j * 32) rfl X _ hr1 Try.underlying49 rfl I1.out ?_)
      rw [HDG.out]
      refine (closure_any A c L q g _ hAr hx hgr).mono ?_
      rintro e w1 ⟨rfl, x1⟩
      by_cases hm : q ∈ L
      · rw [decide_eq_true hm]
        go_wp2_with fail
        go_ret
        refine ⟨⟨_, rfl, ?_⟩, Ext.trans hwr x1⟩
        constructor
        · intro _; exact ⟨q, by rw [HQ.out]; exact List.getElem_mem hjl, hm⟩
        · intro _; omega
      · rw [decide_eq_false hm]
        go_wp2_with fail
        go_roundw
        case rel =>
          refine ⟨j + 1, by omega, by go_num, ?_, Ext.trans hwr x1⟩
          intro x hx
          rw [List.take_add_one, List.getElem?_eq_getElem hjl] at hx
          simp only [Option.toList_some, List.mem_append, List.mem_singleton] at hx
          rcases hx with h1 | h1
          · exact HT.out x h1
          · rw [h1, ← HQ.out]; exact hm
        case measure => simp [intOf]; omega
    · have : j = M.length := by omega
      subst this
      go_wp2_with fail
      go_ret
      refine ⟨⟨_, rfl, ?_⟩, hwr⟩
      have := HT.out
      rw [List.take_length] at this
      constructor
      · intro h; omega
      · rintro ⟨x, h1, h2⟩; exact absurd h2 (this x h1)

theorem containsf_any (A : Option Addr) (c : Nat) (L : List (List UInt8)) (B : Option Addr) (d : Nat) (M : List (List UInt8)) (g : Nat) (w : World) (hA : Ds w A c L) (hB : Ds w B d M) (hg : w.heap[g]? = some (.cells #[.slice A L.length c] 23 (0, 0))) :
    Calls Try.prog 28 #[.slice B M.length d, .func (.func 29) #[] #[.pointer (some ⟨g, 0, none⟩)]] w fun e w' => e = .returned (.bool (M.any fun x => decide (x ∈ L))) ∧ Ext w w' := by
  go_enter Try.func28, Try.ntmps28
  go_wp2_with fail
  refine (indexf_any A c L B d M g w hA hB hg).mono ?_
  rintro e w1 ⟨⟨k, rfl, hk⟩, x1⟩
  have hD : (M.any fun x => decide (x ∈ L)) = decide (0 ≤ k) := by
    rw [Bool.eq_iff_iff, List.any_eq_true, decide_eq_true_iff, hk]
    simp
  have HD := Lib.hid hD
  clear hD hk
  go_wp2_with fail
  rw [HD.out]
  go_ret
  exact ⟨rfl, x1⟩
end Go.Proofs.Ytigcfbpgbenabaa
