import Derived.Test.YtigcfbpgbenabaaRgG
import Derived.Laws.CopyOwn
import Derived.Carry
namespace Go.Proofs.Ytigcfbpgbenabaa
open Go.RowKit Go.Maps

theorem SetHas.ext {w w' : World} {b n : Nat} {seen : List (List UInt8)} (h : SetHas w b n seen) (hx : Ext w w') : SetHas w' b n seen := by
  obtain ⟨D, ⟨es, clock, hb, r⟩, hD⟩ := h
  exact ⟨D, ⟨es, clock, (hx.block _ (Array.getElem?_eq_some_iff.1 hb).1).trans hb, r⟩, hD⟩

set_option maxHeartbeats 1000000 in
theorem once_any (A : Option Addr) (c : Nat) (L : List (List UInt8)) (w : World) (hA : Ds w A c L) (hl : L.length ≤ 3000000000000) :
    Calls Try.prog 24 #[.slice A L.length c] w fun e w' => e = .returned (.bool (decide L.Nodup)) ∧ Ext w w' := by
  have hmk : (Instr.makeMap 62 none).run Try.prog w = .ok (.map (some w.heap.size)) (w.alloc (.map #[] 0)) := by kernel_rfl
  go_enter Try.func24, Try.ntmps24
  go_wp2_with fail
  clear hmk
  obtain ⟨b, hb⟩ : ∃ b, b = w.heap.size := ⟨_, rfl⟩
  have hS0 : SetHas (w.alloc (.map #[] 0)) b 0 [] := by
    rw [hb]
    exact ⟨.map [], World.ownsMap_made w Try.prog 49 unitElem, fun v _ => by simp [has]⟩
  have x0 : Ext w (w.alloc (.map #[] 0)) := (Below.refl _ w).alloc (Nat.le_refl _) _
  have hA0 := hA.alloc (.map #[] 0)
  generalize w.alloc (.map #[] 0) = w0 at *
  subst hb
  go_loopw [9] (fun i wr => ∃ j : Nat, ∃ seen, j ≤ L.length ∧ i = .int .i64 (j : Int) ∧ (L.take j).Nodup ∧ SetHas wr w.heap.size j seen ∧ (∀ x, x ∈ seen ↔ x ∈ L.take j) ∧ Ext w wr) (fun i _ => L.length - (intOf i).toNat)
  case atStart => exact ⟨0, [], by omega, rfl, by simp, hS0, by simp, x0⟩
  case round =>
    obtain ⟨j, seen, hj, rfl, hnd, hSj, hseen, hwr⟩ := hrel
    by_cases hjl : j < L.length
    · have hAr : Ds wr A c L := hA.below hwr
      obtain ⟨b1, o1, rfl, hr⟩ := hAr.range (by omega)
      have hx := hAr.ok L[j] (List.getElem_mem hjl)
      have hr1 := hr j hjl
      obtain ⟨q, hq⟩ : ∃ q, q = L[j] := ⟨_, rfl⟩
      rw [← hq] at hr1 hx
      have i1 : (Try.prog.info? 49).map (·.size) = some (q.map bc).length := by rw [List.length_map, hx]; kernel_rfl
      have i2 : (Try.prog.info? 49).map (·.size) = some (dg q).size := by rw [dg_size, hx]; kernel_rfl
      have hds : (dg q).size = 32 := by rw [dg_size, hx]
      have hda := dg_one q
      have hdg : (q.map bc).toArray = dg q := rfl
      obtain ⟨D, hD⟩ : ∃ D, D = dg q := ⟨_, rfl⟩
      rw [← hD] at i2 hds hda hdg
      obtain ⟨X, hX⟩ : ∃ X, X = q.map bc := ⟨_, rfl⟩
      rw [← hX] at i1 hr1 hdg
      have HX := Lib.hid hdg
      have HD := Lib.hid hD
      have HQ := Lib.hid hq
      have I1 := Lib.hid i1
      have I2 := Lib.hid i2
      have HDS := Lib.hid hds
      have HDA := Lib.hid hda
      have HN := Lib.hid hnd
      have HSEEN := Lib.hid hseen
      clear hr hAr hdg hq hX i1 i2 hds hda hnd hseen hD
      go_wp2_with (first
        | (refine wpList_load_mid rfl 49 _ rfl b1 (o1 + j * 32) rfl X _ hr1 Try.underlying49 rfl I1.out ?_
           rw [HX.out])
        | (refine wpList_store_row rfl 49 _ _ rfl wr.heap.size D rfl rfl _ _ (heap_alloc_new _ _) I2.out (by rw [HDS.out]; rfl) HDA.out ?_
           have hblk7 := setRow_heap (wr.alloc (.cells #[.int .u8 0, .int .u8 0, .int .u8 0, .int .u8 0, .int .u8 0, .int .u8 0, .int .u8 0, .int .u8 0, .int .u8 0, .int .u8 0, .int .u8 0, .int .u8 0, .int .u8 0, .int .u8 0, .int .u8 0, .int .u8 0, .int .u8 0, .int .u8 0, .int .u8 0, .int .u8 0, .int .u8 0, .int .u8 0, .int .u8 0, .int .u8 0, .int .u8 0, .int .u8 0, .int .u8 0, .int .u8 0, .int .u8 0, .int .u8 0, .int .u8 0, .int .u8 0] 49)) wr.heap.size _ D 49 _ (heap_alloc_new _ _)
           have x67 : Ext wr ((wr.alloc (.cells #[.int .u8 0, .int .u8 0, .int .u8 0, .int .u8 0, .int .u8 0, .int .u8 0, .int .u8 0, .int .u8 0, .int .u8 0, .int .u8 0, .int .u8 0, .int .u8 0, .int .u8 0, .int .u8 0, .int .u8 0, .int .u8 0, .int .u8 0, .int .u8 0, .int .u8 0, .int .u8 0, .int .u8 0, .int .u8 0, .int .u8 0, .int .u8 0, .int .u8 0, .int .u8 0, .int .u8 0, .int .u8 0, .int .u8 0, .int .u8 0, .int .u8 0, .int .u8 0] 49)).setRow wr.heap.size D) := below_setRow ((Below.refl _ wr).alloc (Nat.le_refl _) _) (Nat.le_refl _) D
           generalize (wr.alloc (.cells #[.int .u8 0, .int .u8 0, .int .u8 0, .int .u8 0, .int .u8 0, .int .u8 0, .int .u8 0, .int .u8 0, .int .u8 0, .int .u8 0, .int .u8 0, .int .u8 0, .int .u8 0, .int .u8 0, .int .u8 0, .int .u8 0, .int .u8 0, .int .u8 0, .int .u8 0, .int .u8 0, .int .u8 0, .int .u8 0, .int .u8 0, .int .u8 0, .int .u8 0, .int .u8 0, .int .u8 0, .int .u8 0, .int .u8 0, .int .u8 0, .int .u8 0, .int .u8 0] 49)).setRow wr.heap.size D = w7 at *)
        | (refine wpList_load_row rfl 49 _ rfl _ rfl _ _ _ _ hblk7 Try.underlying49 rfl I2.out ?_))
      rw [HD.out]
      refine (add_any w.heap.size j seen q w7 (hSj.ext x67) hx (by omega)).mono ?_
      rintro e w8 ⟨rfl, hS8, hg8⟩
      have x8 : Ext w w8 := (Ext.trans hwr x67).grown hg8 (Ext.trans hwr x67).size (by rintro k ⟨⟩; exact Nat.le_refl _)
      have htk : L.take (j + 1) = L.take j ++ [q] := by rw [List.take_add_one, List.getElem?_eq_getElem hjl, ← HQ.out]; rfl
      have HTK := Lib.hid htk
      clear htk
      by_cases hm : q ∈ seen
      · rw [decide_eq_true hm]
        have hF : decide L.Nodup = false := decide_eq_false fun h => by
          have h2 := (List.take_sublist (j + 1) L).nodup h
          rw [HTK.out] at h2
          rw [List.nodup_append] at h2
          exact h2.2.2 q ((HSEEN.out q).1 hm) q (by simp) rfl
        have HF := Lib.hid hF
        clear hF
        go_wp2_with fail
        rw [HF.out]
        go_ret
        exact ⟨rfl, x8⟩
      · rw [decide_eq_false hm]
        go_wp2_with fail
        go_roundw
        case rel =>
          refine ⟨j + 1, q :: seen, by omega, by go_num, ?_, hS8, ?_, x8⟩
          · rw [HTK.out, List.nodup_append]
            refine ⟨HN.out, by simp, ?_⟩
            intro a ha b2 hb2 hab
            simp at hb2
            rw [hb2] at hab
            rw [hab] at ha
            exact hm ((HSEEN.out q).2 ha)
          · intro x
            rw [HTK.out]
            simp only [List.mem_cons, List.mem_append, List.mem_nil_iff, or_false, HSEEN.out x]
            exact Or.comm
        case measure => simp [intOf]; omega
    · have : j = L.length := by omega
      subst this
      rw [List.take_length] at hnd
      have HF := Lib.hid (decide_eq_true hnd)
      clear hnd hseen
      go_wp2_with fail
      rw [HF.out]
      go_ret
      exact ⟨rfl, hwr⟩
end Go.Proofs.Ytigcfbpgbenabaa
