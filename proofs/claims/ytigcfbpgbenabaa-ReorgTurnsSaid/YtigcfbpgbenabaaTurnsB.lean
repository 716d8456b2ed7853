import Derived.Test.YtigcfbpgbenabaaPure
import Derived.Test.YtigcfbpgbenabaaRNam
namespace Go.Proofs.Ytigcfbpgbenabaa
open Go.RowKit

set_option maxRecDepth 100000 in
set_option maxHeartbeats 8000000 in
theorem turns_ok0 (k : Int) (A0 : Option Addr) (c0 : Nat) (U : List (List UInt8)) (B0 : Option Addr) (d0 : Nat) (D : List (List UInt8)) (s : Int) (Z : Option Addr) (cz : Nat) (z : List Int) (w : World) (hA : Ds w A0 c0 U) (hB : Ds w B0 d0 D) (hZ : Is w Z cz z)
    (hzr : ∀ x ∈ z, -9223372036854775808 ≤ x ∧ x ≤ 9223372036854775807)
    (hli : (decide (U.length ≤ 40) && decide (D.length ≤ 40)) = true) (hz : z.length ≤ 40) (hc : checkP ⟨k, U, D⟩ = 0) (hs : k < s) (hkk : k ≤ 9223372036854775807) (L : List (List UInt8)) (hL : L = nameL z) (S : List (List UInt8)) (hap : applyP ⟨k, U, D⟩ L = (S, 0)) (hfit : k ≤ (L.length : Int) ∧ (L.length : Int) - k = (U.length : Int)) :
    Calls Try.prog 4 #[.agg #[.int .i64 k, .slice A0 U.length c0, .slice B0 D.length d0], .int .i64 s, .slice Z z.length cz] w fun e w' => e = .returned (.bool true) ∧ Ext w w' := by
  have hu40 : U.length ≤ 40 := by simp at hli; omega
  have hd40 : D.length ≤ 40 := by simp at hli; omega
  have HLI : Hid ((decide ((⟨k, U, D⟩ : PV).u.length ≤ 40) && decide ((⟨k, U, D⟩ : PV).d.length ≤ 40)) = true) := Lib.hid hli
  have hzi : (z.length : Int) ≤ 40 := by omega
  clear hli
  have hk0 := (checkP_nonneg hc).1
  simp only at hk0
  have hLl : L.length ≤ 40 := by rw [hL]; exact Nat.le_trans (nameL_len z) hz
  have HB : Hid (backP ⟨k, U, D⟩ = (⟨k, D, U⟩, 0)) := Lib.hid (back_ok hc)
  have HB2 : Hid (backP ⟨k, D, U⟩ = (⟨k, U, D⟩, 0)) := Lib.hid (back_ok (check_back hc))
  have HD2 : Hid (depthP ⟨k, D, U⟩ = (D.length : Int)) := Lib.hid (by unfold depthP; rw [if_pos (check_back hc)])
  have HS : Hid (sparesP ⟨k, U, D⟩ s = false) := Lib.hid (by unfold sparesP; rw [hc]; simp; omega)
  have HS2 : Hid (sparesP ⟨k, D, U⟩ s = false) := Lib.hid (by have h := check_back hc; simp only at h; unfold sparesP; rw [h]; simp; omega)
  have HR := Lib.hid (samePV_refl ⟨k, U, D⟩)
  have HO := Lib.hid (onceI_ok z).2.2
  have HN : Hid (L = (onceI z).map nd) := Lib.hid hL
  have hnd : L.Nodup := by rw [hL]; exact nameL_nodup z
  have HAB : Hid (applyP ⟨k, D, U⟩ S = (L, 0)) := Lib.hid (apply_back hnd hap)
  have hSl : S.length ≤ 80 := by have h := applyP_len ⟨k, U, D⟩ L; rw [hap] at h; simp only at h; omega
  have HSD := Lib.hid (sameD_refl L)
  clear hnd
  have HAP := Lib.hid hap
  have HC := Lib.hid hc
  have HFIT := Lib.hid hfit
  have HSS := Lib.hid hs
  have hwr : IntKind.i64.wrap ((L.length : Int) - k) = (L.length : Int) - k := by rw [IntKind.wrap_i64]; omega
  clear hc hz hL hap hfit hs
  have x0 := Ext.refl w
  have hp : IsPlan w (.agg #[.int .i64 k, .slice A0 U.length c0, .slice B0 D.length d0]) ⟨k, U, D⟩ := ⟨A0, c0, B0, d0, rfl, hA, hB⟩
  clear hA hB
  go_enter Try.func4, Try.ntmps4
  have y1 := Ext.alloc w (.cells #[.int .i64 k, .slice A0 U.length c0, .slice B0 D.length d0] 25)
  have rp := Lib.hid (heap_alloc_new w (.cells #[.int .i64 k, .slice A0 U.length c0, .slice B0 D.length d0] 25))
  have hp := hp.ext y1
  have x0 := Ext.trans x0 y1
  clear y1
  go_wp2_with fail
  generalize w.alloc (.cells #[.int .i64 k, .slice A0 U.length c0, .slice B0 D.length d0] 25) = w1 at *
  have hct := lives_any w1
  refine hct.mono ?_
  rintro e w2 ⟨rfl, y2⟩
  clear hct
  have hp := hp.ext y2
  have rp := Lib.hid ((y2.block _ (Array.getElem?_eq_some_iff.1 rp.out).1).trans rp.out)
  have x0 := Ext.trans x0 y2
  clear y2
  have cp0 : (w2).cell? ⟨w.heap.size, 0, none⟩ = some (.int .i64 k) := by rw [cell_of_row _ _ _ _ _ _ rp.out]; rfl
  have cp1 : (w2).cell? ⟨w.heap.size, 1, none⟩ = some (.slice A0 U.length c0) := by rw [cell_of_row _ _ _ _ _ _ rp.out]; rfl
  have cp2 : (w2).cell? ⟨w.heap.size, 2, none⟩ = some (.slice B0 D.length d0) := by rw [cell_of_row _ _ _ _ _ _ rp.out]; rfl
  go_wp2_with fail
  clear cp0 cp1 cp2
  have hct := light_any _ ⟨k, U, D⟩ w2 hp
  rw [HLI.out] at hct
  refine hct.mono ?_
  rintro e w3 ⟨rfl, y3⟩
  clear hct
  have hp := hp.ext y3
  have rp := Lib.hid ((y3.block _ (Array.getElem?_eq_some_iff.1 rp.out).1).trans rp.out)
  have x0 := Ext.trans x0 y3
  clear y3
  have cp0 : (w3).cell? ⟨w.heap.size, 0, none⟩ = some (.int .i64 k) := by rw [cell_of_row _ _ _ _ _ _ rp.out]; rfl
  have cp1 : (w3).cell? ⟨w.heap.size, 1, none⟩ = some (.slice A0 U.length c0) := by rw [cell_of_row _ _ _ _ _ _ rp.out]; rfl
  have cp2 : (w3).cell? ⟨w.heap.size, 2, none⟩ = some (.slice B0 D.length d0) := by rw [cell_of_row _ _ _ _ _ _ rp.out]; rfl
  go_wp2_with fail
  clear cp0 cp1 cp2
  have hct := plan_any _ ⟨k, U, D⟩ w3 hp (by dsimp only; omega) (by dsimp only; omega)
  refine hct.mono ?_
  rintro e w4 ⟨_, rfl, ⟨A5, c5, B5, d5, rfl, da, db⟩, y4⟩
  clear hct
  simp only at da db ⊢
  have hp := hp.ext y4
  have rp := Lib.hid ((y4.block _ (Array.getElem?_eq_some_iff.1 rp.out).1).trans rp.out)
  have x0 := Ext.trans x0 y4
  clear y4
  go_wp2_with fail
  have hct := back_any _ ⟨k, U, D⟩ w4 ⟨A5, c5, B5, d5, rfl, da, db⟩ (by dsimp only; omega) (by dsimp only; omega)
  rw [HB.out] at hct
  refine hct.mono ?_
  rintro e w5 ⟨_, rfl, ⟨A6, c6, B6, d6, rfl, ea, eb⟩, y5⟩
  clear hct
  simp only at ea eb ⊢
  have da := da.below y5
  have db := db.below y5
  have hp := hp.ext y5
  have rp := Lib.hid ((y5.block _ (Array.getElem?_eq_some_iff.1 rp.out).1).trans rp.out)
  have x0 := Ext.trans x0 y5
  clear y5
  clear da db
  have hq : IsPlan w5 (.agg #[.int .i64 k, .slice A6 D.length c6, .slice B6 U.length d6]) ⟨k, D, U⟩ := ⟨A6, c6, B6, d6, rfl, ea, eb⟩
  clear ea eb
  have y6 := Ext.alloc w5 (.cells #[.int .i64 k, .slice A6 D.length c6, .slice B6 U.length d6] 25)
  have rq := Lib.hid (heap_alloc_new w5 (.cells #[.int .i64 k, .slice A6 D.length c6, .slice B6 U.length d6] 25))
  have hp := hp.ext y6
  have hq := hq.ext y6
  have rp := Lib.hid ((y6.block _ (Array.getElem?_eq_some_iff.1 rp.out).1).trans rp.out)
  have x0 := Ext.trans x0 y6
  have cp0 : ((w5.alloc (.cells #[.int .i64 k, .slice A6 D.length c6, .slice B6 U.length d6] 25))).cell? ⟨w.heap.size, 0, none⟩ = some (.int .i64 k) := by rw [cell_of_row _ _ _ _ _ _ rp.out]; rfl
  have cp1 : ((w5.alloc (.cells #[.int .i64 k, .slice A6 D.length c6, .slice B6 U.length d6] 25))).cell? ⟨w.heap.size, 1, none⟩ = some (.slice A0 U.length c0) := by rw [cell_of_row _ _ _ _ _ _ rp.out]; rfl
  have cp2 : ((w5.alloc (.cells #[.int .i64 k, .slice A6 D.length c6, .slice B6 U.length d6] 25))).cell? ⟨w.heap.size, 2, none⟩ = some (.slice B0 D.length d0) := by rw [cell_of_row _ _ _ _ _ _ rp.out]; rfl
  clear y6
  go_wp2_with fail
  clear cp0 cp1 cp2
  generalize w5.alloc (.cells #[.int .i64 k, .slice A6 D.length c6, .slice B6 U.length d6] 25) = w6 at *
  have hct := check_any _ ⟨k, U, D⟩ w6 hp (by dsimp only; omega) (by dsimp only; omega)
  rw [HC.out] at hct
  refine hct.mono ?_
  rintro e w7 ⟨rfl, y7⟩
  clear hct
  have hp := hp.ext y7
  have hq := hq.ext y7
  have rp := Lib.hid ((y7.block _ (Array.getElem?_eq_some_iff.1 rp.out).1).trans rp.out)
  have rq := Lib.hid ((y7.block _ (Array.getElem?_eq_some_iff.1 rq.out).1).trans rq.out)
  have x0 := Ext.trans x0 y7
  clear y7
  have cq0 : (w7).cell? ⟨w5.heap.size, 0, none⟩ = some (.int .i64 k) := by rw [cell_of_row _ _ _ _ _ _ rq.out]; rfl
  have cq1 : (w7).cell? ⟨w5.heap.size, 1, none⟩ = some (.slice A6 D.length c6) := by rw [cell_of_row _ _ _ _ _ _ rq.out]; rfl
  have cq2 : (w7).cell? ⟨w5.heap.size, 2, none⟩ = some (.slice B6 U.length d6) := by rw [cell_of_row _ _ _ _ _ _ rq.out]; rfl
  go_wp2_with fail
  clear cq0 cq1 cq2
  have hct := back_any _ ⟨k, D, U⟩ w7 hq (by dsimp only; omega) (by dsimp only; omega)
  rw [HB2.out] at hct
  refine hct.mono ?_
  rintro e w8 ⟨_, rfl, ⟨A8, c8, B8, d8, rfl, ea, eb⟩, y8⟩
  clear hct
  simp only at ea eb ⊢
  have hp := hp.ext y8
  have hq := hq.ext y8
  have rp := Lib.hid ((y8.block _ (Array.getElem?_eq_some_iff.1 rp.out).1).trans rp.out)
  have rq := Lib.hid ((y8.block _ (Array.getElem?_eq_some_iff.1 rq.out).1).trans rq.out)
  have x0 := Ext.trans x0 y8
  clear y8
  have hr : IsPlan w8 (.agg #[.int .i64 k, .slice A8 U.length c8, .slice B8 D.length d8]) ⟨k, U, D⟩ := ⟨A8, c8, B8, d8, rfl, ea, eb⟩
  clear ea eb
  have y9 := Ext.alloc w8 (.cells #[.int .i64 k, .slice A8 U.length c8, .slice B8 D.length d8] 25)
  have rr := Lib.hid (heap_alloc_new w8 (.cells #[.int .i64 k, .slice A8 U.length c8, .slice B8 D.length d8] 25))
  have hp := hp.ext y9
  have hq := hq.ext y9
  have hr := hr.ext y9
  have rp := Lib.hid ((y9.block _ (Array.getElem?_eq_some_iff.1 rp.out).1).trans rp.out)
  have rq := Lib.hid ((y9.block _ (Array.getElem?_eq_some_iff.1 rq.out).1).trans rq.out)
  have x0 := Ext.trans x0 y9
  clear y9
  go_wp2_with fail
  generalize w8.alloc (.cells #[.int .i64 k, .slice A8 U.length c8, .slice B8 D.length d8] 25) = w9 at *
  have hct := oncelaw_any Z cz z w9 (Sl.below hZ x0) (by omega) hzr
  refine hct.mono ?_
  rintro e w10 ⟨_, rfl, ho, y10⟩
  clear hct
  obtain ⟨A10, c10, rfl, hi, _⟩ := Sl.of_own ho
  clear ho
  have hp := hp.ext y10
  have hq := hq.ext y10
  have hr := hr.ext y10
  have rp := Lib.hid ((y10.block _ (Array.getElem?_eq_some_iff.1 rp.out).1).trans rp.out)
  have rq := Lib.hid ((y10.block _ (Array.getElem?_eq_some_iff.1 rq.out).1).trans rq.out)
  have rr := Lib.hid ((y10.block _ (Array.getElem?_eq_some_iff.1 rr.out).1).trans rr.out)
  have x0 := Ext.trans x0 y10
  clear y10
  go_wp2_with fail
  have hct := names_lit (onceI z) L HN.out A10 c10 _ w10 rfl hi (by have := HO.out; omega)
  refine hct.mono ?_
  rintro e w11 ⟨_, rfl, ⟨A11, c11, rfl, dl⟩, y11⟩
  clear hct
  clear hi
  have hp := hp.ext y11
  have hq := hq.ext y11
  have hr := hr.ext y11
  have rp := Lib.hid ((y11.block _ (Array.getElem?_eq_some_iff.1 rp.out).1).trans rp.out)
  have rq := Lib.hid ((y11.block _ (Array.getElem?_eq_some_iff.1 rq.out).1).trans rq.out)
  have rr := Lib.hid ((y11.block _ (Array.getElem?_eq_some_iff.1 rr.out).1).trans rr.out)
  have x0 := Ext.trans x0 y11
  clear y11
  have cp0 : (w11).cell? ⟨w.heap.size, 0, none⟩ = some (.int .i64 k) := by rw [cell_of_row _ _ _ _ _ _ rp.out]; rfl
  have cp1 : (w11).cell? ⟨w.heap.size, 1, none⟩ = some (.slice A0 U.length c0) := by rw [cell_of_row _ _ _ _ _ _ rp.out]; rfl
  have cp2 : (w11).cell? ⟨w.heap.size, 2, none⟩ = some (.slice B0 D.length d0) := by rw [cell_of_row _ _ _ _ _ _ rp.out]; rfl
  go_wp2_with fail
  clear cp0 cp1 cp2
  have hct := plan_any _ ⟨k, U, D⟩ w11 hp (by dsimp only; omega) (by dsimp only; omega)
  refine hct.mono ?_
  rintro e w12 ⟨_, rfl, ⟨A12, c12, B12, d12, rfl, da, db⟩, y12⟩
  clear hct
  simp only at da db ⊢
  have dl := dl.below y12
  have hp := hp.ext y12
  have hq := hq.ext y12
  have hr := hr.ext y12
  have rp := Lib.hid ((y12.block _ (Array.getElem?_eq_some_iff.1 rp.out).1).trans rp.out)
  have rq := Lib.hid ((y12.block _ (Array.getElem?_eq_some_iff.1 rq.out).1).trans rq.out)
  have rr := Lib.hid ((y12.block _ (Array.getElem?_eq_some_iff.1 rr.out).1).trans rr.out)
  have x0 := Ext.trans x0 y12
  clear y12
  go_wp2_with fail
  have hct := kitnames_any A11 c11 L w12 dl (by omega)
  refine hct.mono ?_
  rintro e w13 ⟨_, rfl, ho, y13⟩
  clear hct
  obtain ⟨A13, c13, rfl, hi, _⟩ := Sl.of_own ho
  have dn : Ds w13 A13 c13 L := ⟨hi, dl.ok⟩
  clear ho hi
  have dl := dl.below y13
  have da := da.below y13
  have db := db.below y13
  have hp := hp.ext y13
  have hq := hq.ext y13
  have hr := hr.ext y13
  have rp := Lib.hid ((y13.block _ (Array.getElem?_eq_some_iff.1 rp.out).1).trans rp.out)
  have rq := Lib.hid ((y13.block _ (Array.getElem?_eq_some_iff.1 rq.out).1).trans rq.out)
  have rr := Lib.hid ((y13.block _ (Array.getElem?_eq_some_iff.1 rr.out).1).trans rr.out)
  have x0 := Ext.trans x0 y13
  clear y13
  go_wp2_with fail
  have hct := apply_any _ ⟨k, U, D⟩ A13 c13 L w13 ⟨A12, c12, B12, d12, rfl, da, db⟩ dn (by dsimp only; omega) (by dsimp only; omega) (by omega)
  rw [HAP.out] at hct
  refine hct.mono ?_
  rintro e w14 ⟨_, rfl, ⟨A14, c14, rfl, ds⟩, y14⟩
  clear hct
  simp only at ds ⊢
  have dl := dl.below y14
  have da := da.below y14
  have db := db.below y14
  have dn := dn.below y14
  have hp := hp.ext y14
  have hq := hq.ext y14
  have hr := hr.ext y14
  have rp := Lib.hid ((y14.block _ (Array.getElem?_eq_some_iff.1 rp.out).1).trans rp.out)
  have rq := Lib.hid ((y14.block _ (Array.getElem?_eq_some_iff.1 rq.out).1).trans rq.out)
  have rr := Lib.hid ((y14.block _ (Array.getElem?_eq_some_iff.1 rr.out).1).trans rr.out)
  have x0 := Ext.trans x0 y14
  clear y14
  clear da db dn
  have hfb := HFIT.out
  have hf1 := hfb.1
  have hf2 := Lib.hid hfb.2
  have hf3 : ((L.length : Int) - k == (U.length : Int)) = true := by simp [hf2.out]
  clear hfb
  have cp0 : (w14).cell? ⟨w.heap.size, 0, none⟩ = some (.int .i64 k) := by rw [cell_of_row _ _ _ _ _ _ rp.out]; rfl
  have cp1 : (w14).cell? ⟨w.heap.size, 1, none⟩ = some (.slice A0 U.length c0) := by rw [cell_of_row _ _ _ _ _ _ rp.out]; rfl
  have cp2 : (w14).cell? ⟨w.heap.size, 2, none⟩ = some (.slice B0 D.length d0) := by rw [cell_of_row _ _ _ _ _ _ rp.out]; rfl
  go_wp2_with fail
  clear cp0 cp1 cp2
  have rowp : ∀ u, Ext w14 u → u.heap[w.heap.size]? = some (.cells #[.int .i64 k, .slice A0 U.length c0, .slice B0 D.length d0] 25 (0, 0)) := fun u hu => (hu.block _ (Array.getElem?_eq_some_iff.1 rp.out).1).trans rp.out
  have mp0 : ∀ u, Ext w14 u → u.cell? ⟨w.heap.size, 0, none⟩ = some (.int .i64 k) := fun u hu => by rw [cell_of_row _ _ _ _ _ _ (rowp u hu)]; rfl
  have mp1 : ∀ u, Ext w14 u → u.cell? ⟨w.heap.size, 1, none⟩ = some (.slice A0 U.length c0) := fun u hu => by rw [cell_of_row _ _ _ _ _ _ (rowp u hu)]; rfl
  have mp2 : ∀ u, Ext w14 u → u.cell? ⟨w.heap.size, 2, none⟩ = some (.slice B0 D.length d0) := fun u hu => by rw [cell_of_row _ _ _ _ _ _ (rowp u hu)]; rfl
  have rowq : ∀ u, Ext w14 u → u.heap[w5.heap.size]? = some (.cells #[.int .i64 k, .slice A6 D.length c6, .slice B6 U.length d6] 25 (0, 0)) := fun u hu => (hu.block _ (Array.getElem?_eq_some_iff.1 rq.out).1).trans rq.out
  have mq0 : ∀ u, Ext w14 u → u.cell? ⟨w5.heap.size, 0, none⟩ = some (.int .i64 k) := fun u hu => by rw [cell_of_row _ _ _ _ _ _ (rowq u hu)]; rfl
  have mq1 : ∀ u, Ext w14 u → u.cell? ⟨w5.heap.size, 1, none⟩ = some (.slice A6 D.length c6) := fun u hu => by rw [cell_of_row _ _ _ _ _ _ (rowq u hu)]; rfl
  have mq2 : ∀ u, Ext w14 u → u.cell? ⟨w5.heap.size, 2, none⟩ = some (.slice B6 U.length d6) := fun u hu => by rw [cell_of_row _ _ _ _ _ _ (rowq u hu)]; rfl
  have rowr : ∀ u, Ext w14 u → u.heap[w8.heap.size]? = some (.cells #[.int .i64 k, .slice A8 U.length c8, .slice B8 D.length d8] 25 (0, 0)) := fun u hu => (hu.block _ (Array.getElem?_eq_some_iff.1 rr.out).1).trans rr.out
  have mr0 : ∀ u, Ext w14 u → u.cell? ⟨w8.heap.size, 0, none⟩ = some (.int .i64 k) := fun u hu => by rw [cell_of_row _ _ _ _ _ _ (rowr u hu)]; rfl
  have mr1 : ∀ u, Ext w14 u → u.cell? ⟨w8.heap.size, 1, none⟩ = some (.slice A8 U.length c8) := fun u hu => by rw [cell_of_row _ _ _ _ _ _ (rowr u hu)]; rfl
  have mr2 : ∀ u, Ext w14 u → u.cell? ⟨w8.heap.size, 2, none⟩ = some (.slice B8 D.length d8) := fun u hu => by rw [cell_of_row _ _ _ _ _ _ (rowr u hu)]; rfl
  refine wp_region_layt [Fact.val (.int .i64 (0)), Fact.val (.bool false), Fact.val (.bool false), Fact.val (.agg #[.int .i64 k, .slice A8 U.length c8, .slice B8 D.length d8]), Fact.val (.agg #[.int .i64 k, .slice A0 U.length c0, .slice B0 D.length d0]), Fact.val (.bool true), Fact.val (.bool false), Fact.val (.bool false), Fact.val (.bool false), Fact.val (.agg #[.int .i64 k, .slice A6 D.length c6, .slice B6 U.length d6]), Fact.val (.int .i64 (D.length : Nat)), Fact.val (.pointer (some ⟨w.heap.size, 2, none⟩)), Fact.val (.slice B0 D.length d0), Fact.val (.int .i64 (D.length : Nat)), Fact.val (.bool false), Fact.val (.bool false), Fact.val (.bool false), Fact.val (.agg #[.int .i64 k, .slice A0 U.length c0, .slice B0 D.length d0]), Fact.val (.int .i64 s), Fact.val (.bool false), Fact.val (.pointer (some ⟨w.heap.size, 0, none⟩)), Fact.val (.int .i64 k), Fact.val (.int .i64 s), Fact.val (.bool false), Fact.val (.bool false), Fact.val (.bool false), Fact.val (.bool false), Fact.val (.agg #[.int .i64 k, .slice A6 D.length c6, .slice B6 U.length d6]), Fact.val (.int .i64 s), Fact.val (.bool false), Fact.val (.agg #[.int .i64 k, .slice A0 U.length c0, .slice B0 D.length d0]), Fact.val (.int .i64 s), Fact.val (.bool false), Fact.val (.bool false), Fact.val (.bool false), Fact.val (.bool false), Fact.val (.bool true), Fact.val (.bool false), Fact.val (.bool false), Fact.val (undef), Fact.val (undef), Fact.val (.bool false), Fact.val (.bool false)] (w14) _ 43 (by kernel_rfl) (by kernel_rfl) (by kernel_rfl) (by kernel_rfl) (by kernel_rfl) (by kernel_rfl) (Ext.refl _) ?_ ?_
  · refine ⟨?_, ?_, ?_, ?_, ?_, ?_, ?_, ?_, ?_, ?_, ?_, ?_, ?_, ?_, ?_, ?_, ?_, ?_, ?_, ?_, ?_, ?_, ?_, ?_, ?_, ?_, ?_, ?_, ?_, ?_, ?_, ?_, ?_, ?_, ?_, ?_, ?_, ?_, ?_, ?_, ?_, ?_, ?_, trivial⟩
    · intro a u hx hd hr
      rw [if_pos (wanted_none rfl)]
      exact Y_copy (.inl rfl) (hr 10 rfl)
    · intro a u hx hd hr
      rw [if_pos (wanted_none rfl)]
      have e85 : a.eval (.tmp 85) = .int .i64 (0) := hd 0 85 rfl rfl
      clear hd hr
      simp only [Act.eval, Array.getD_eq_getD_getElem?] at e85
      exact Y_val (v := .bool false) (by go_simp) rfl
    · intro a u hx hd hr
      rw [if_pos (wanted_none rfl)]
      exact Y_copy (.inl rfl) (hd 1 86 rfl rfl)
    · intro a u hx hd hr
      have eg : a.eval (.tmp 87) = .bool false := hd 2 87 rfl rfl
      rw [if_pos (by rw [wanted_some rfl rfl eg]; rfl)]
      have e9 : a.eval (.tmp 9) = .pointer (some ⟨w8.heap.size, 0, none⟩) := hr 9 rfl
      exact Y_load_row 25 (.tmp 9) rfl _ e9 _ _ _ _ (rowr _ hx) Try.underlying25 rfl (by kernel_rfl) rfl
    · intro a u hx hd hr
      have eg : a.eval (.tmp 87) = .bool false := hd 2 87 rfl rfl
      rw [if_pos (by rw [wanted_some rfl rfl eg]; rfl)]
      have e3 : a.eval (.tmp 3) = .pointer (some ⟨w.heap.size, 0, none⟩) := hr 3 rfl
      exact Y_load_row 25 (.tmp 3) rfl _ e3 _ _ _ _ (rowp _ hx) Try.underlying25 rfl (by kernel_rfl) rfl
    · intro a u hx hd hr
      have eg : a.eval (.tmp 87) = .bool false := hd 2 87 rfl rfl
      rw [if_pos (by rw [wanted_some rfl rfl eg]; rfl)]
      have e88 : a.eval (.tmp 88) = .agg #[.int .i64 k, .slice A8 U.length c8, .slice B8 D.length d8] := hd 3 88 rfl rfl
      have e89 : a.eval (.tmp 89) = .agg #[.int .i64 k, .slice A0 U.length c0, .slice B0 D.length d0] := hd 4 89 rfl rfl
      clear hd hr
      refine Y_calls (f := 16) (args := #[(a.eval (.tmp 88)), (a.eval (.tmp 89))]) (by go_simp) ?_
      rw [e88, e89]
      exact (kitplan_s _ (⟨k, U, D⟩) _ (⟨k, U, D⟩) _ (hr.ext hx) (hp.ext hx)).mono fun e u2 k => ⟨_, k.1.trans (by rw [HR.out]), rfl, k.2⟩
    · intro a u hx hd hr
      have eg : a.eval (.tmp 87) = .bool false := hd 2 87 rfl rfl
      rw [if_pos (by rw [wanted_some rfl rfl eg]; rfl)]
      have e90 : a.eval (.tmp 90) = .bool true := hd 5 90 rfl rfl
      clear hd hr
      simp only [Act.eval, Array.getD_eq_getD_getElem?] at e90
      exact Y_val (v := .bool false) (by go_simp) rfl
    · intro a u hx hd hr
      rw [if_pos (wanted_none rfl)]
      have e87 : a.eval (.tmp 87) = .bool false := hd 2 87 rfl rfl
      exact Y_pick rfl e87 (hd 6 91 rfl rfl)
    · intro a u hx hd hr
      rw [if_pos (wanted_none rfl)]
      exact Y_copy (.inl rfl) (hd 7 92 rfl rfl)
    · intro a u hx hd hr
      have eg : a.eval (.tmp 93) = .bool false := hd 8 93 rfl rfl
      rw [if_pos (by rw [wanted_some rfl rfl eg]; rfl)]
      have e7 : a.eval (.tmp 7) = .pointer (some ⟨w5.heap.size, 0, none⟩) := hr 7 rfl
      exact Y_load_row 25 (.tmp 7) rfl _ e7 _ _ _ _ (rowq _ hx) Try.underlying25 rfl (by kernel_rfl) rfl
    · intro a u hx hd hr
      have eg : a.eval (.tmp 93) = .bool false := hd 8 93 rfl rfl
      rw [if_pos (by rw [wanted_some rfl rfl eg]; rfl)]
      have e94 : a.eval (.tmp 94) = .agg #[.int .i64 k, .slice A6 D.length c6, .slice B6 U.length d6] := hd 9 94 rfl rfl
      clear hd hr
      refine Y_calls (f := 18) (args := #[(a.eval (.tmp 94))]) (by go_simp) ?_
      rw [e94]
      exact (depth_s _ (⟨k, D, U⟩) _ (hq.ext hx) (by first | omega | (dsimp only; omega) | (simp; done) | (simp; omega)) (by first | omega | (dsimp only; omega) | (simp; done) | (simp; omega))).mono fun e u2 k => ⟨_, k.1.trans (by rw [HD2.out]), rfl, k.2⟩
    · intro a u hx hd hr
      have eg : a.eval (.tmp 93) = .bool false := hd 8 93 rfl rfl
      rw [if_pos (by rw [wanted_some rfl rfl eg]; rfl)]
      have e3 : a.eval (.tmp 3) = .pointer (some ⟨w.heap.size, 0, none⟩) := hr 3 rfl
      clear hd hr
      simp only [Act.eval, Array.getD_eq_getD_getElem?] at e3
      exact Y_val (v := .pointer (some ⟨w.heap.size, 2, none⟩)) (by go_simp) rfl
    · intro a u hx hd hr
      have eg : a.eval (.tmp 93) = .bool false := hd 8 93 rfl rfl
      rw [if_pos (by rw [wanted_some rfl rfl eg]; rfl)]
      have e96 : a.eval (.tmp 96) = .pointer (some ⟨w.heap.size, 2, none⟩) := hd 11 96 rfl rfl
      have ec := mp2 _ hx
      clear hd hr
      simp only [Act.eval, Array.getD_eq_getD_getElem?] at e96
      exact Y_val (v := .slice B0 D.length d0) (by go_simp) rfl
    · intro a u hx hd hr
      have eg : a.eval (.tmp 93) = .bool false := hd 8 93 rfl rfl
      rw [if_pos (by rw [wanted_some rfl rfl eg]; rfl)]
      have e97 : a.eval (.tmp 97) = .slice B0 D.length d0 := hd 12 97 rfl rfl
      clear hd hr
      simp only [Act.eval, Array.getD_eq_getD_getElem?] at e97
      exact Y_val (v := .int .i64 (D.length : Nat)) (by go_simp) rfl
    · intro a u hx hd hr
      have eg : a.eval (.tmp 93) = .bool false := hd 8 93 rfl rfl
      rw [if_pos (by rw [wanted_some rfl rfl eg]; rfl)]
      have e95 : a.eval (.tmp 95) = .int .i64 (D.length : Nat) := hd 10 95 rfl rfl
      have e98 : a.eval (.tmp 98) = .int .i64 (D.length : Nat) := hd 13 98 rfl rfl
      clear hd hr
      simp only [Act.eval, Array.getD_eq_getD_getElem?] at e95 e98
      exact Y_val (v := .bool false) (by go_simp) rfl
    · intro a u hx hd hr
      rw [if_pos (wanted_none rfl)]
      have e93 : a.eval (.tmp 93) = .bool false := hd 8 93 rfl rfl
      exact Y_pick rfl e93 (hd 14 99 rfl rfl)
    · intro a u hx hd hr
      rw [if_pos (wanted_none rfl)]
      exact Y_copy (.inl rfl) (hd 15 100 rfl rfl)
    · intro a u hx hd hr
      have eg : a.eval (.tmp 101) = .bool false := hd 16 101 rfl rfl
      rw [if_pos (by rw [wanted_some rfl rfl eg]; rfl)]
      have e3 : a.eval (.tmp 3) = .pointer (some ⟨w.heap.size, 0, none⟩) := hr 3 rfl
      exact Y_load_row 25 (.tmp 3) rfl _ e3 _ _ _ _ (rowp _ hx) Try.underlying25 rfl (by kernel_rfl) rfl
    · intro a u hx hd hr
      have eg : a.eval (.tmp 101) = .bool false := hd 16 101 rfl rfl
      rw [if_pos (by rw [wanted_some rfl rfl eg]; rfl)]
      exact Y_copy (.inl rfl) (hr 1 rfl)
    · intro a u hx hd hr
      have eg : a.eval (.tmp 101) = .bool false := hd 16 101 rfl rfl
      rw [if_pos (by rw [wanted_some rfl rfl eg]; rfl)]
      have e102 : a.eval (.tmp 102) = .agg #[.int .i64 k, .slice A0 U.length c0, .slice B0 D.length d0] := hd 17 102 rfl rfl
      have e103 : a.eval (.tmp 103) = .int .i64 s := hd 18 103 rfl rfl
      clear hd hr
      refine Y_calls (f := 21) (args := #[(a.eval (.tmp 102)), (a.eval (.tmp 103))]) (by go_simp) ?_
      rw [e102, e103]
      exact (spares_s _ (⟨k, U, D⟩) s _ (hp.ext hx) (by first | omega | (dsimp only; omega) | (simp; done) | (simp; omega)) (by first | omega | (dsimp only; omega) | (simp; done) | (simp; omega))).mono fun e u2 k => ⟨_, k.1.trans (by rw [HS.out]), rfl, k.2⟩
    · intro a u hx hd hr
      have eg : a.eval (.tmp 101) = .bool false := hd 16 101 rfl rfl
      rw [if_pos (by rw [wanted_some rfl rfl eg]; rfl)]
      have e3 : a.eval (.tmp 3) = .pointer (some ⟨w.heap.size, 0, none⟩) := hr 3 rfl
      clear hd hr
      simp only [Act.eval, Array.getD_eq_getD_getElem?] at e3
      exact Y_val (v := .pointer (some ⟨w.heap.size, 0, none⟩)) (by go_simp) rfl
    · intro a u hx hd hr
      have eg : a.eval (.tmp 101) = .bool false := hd 16 101 rfl rfl
      rw [if_pos (by rw [wanted_some rfl rfl eg]; rfl)]
      have e105 : a.eval (.tmp 105) = .pointer (some ⟨w.heap.size, 0, none⟩) := hd 20 105 rfl rfl
      have ec := mp0 _ hx
      clear hd hr
      simp only [Act.eval, Array.getD_eq_getD_getElem?] at e105
      exact Y_val (v := .int .i64 k) (by go_simp) rfl
    · intro a u hx hd hr
      have eg : a.eval (.tmp 101) = .bool false := hd 16 101 rfl rfl
      rw [if_pos (by rw [wanted_some rfl rfl eg]; rfl)]
      exact Y_copy (.inl rfl) (hr 1 rfl)
    · intro a u hx hd hr
      have eg : a.eval (.tmp 101) = .bool false := hd 16 101 rfl rfl
      rw [if_pos (by rw [wanted_some rfl rfl eg]; rfl)]
      have e106 : a.eval (.tmp 106) = .int .i64 k := hd 21 106 rfl rfl
      have e107 : a.eval (.tmp 107) = .int .i64 s := hd 22 107 rfl rfl
      clear hd hr
      simp only [Act.eval, Array.getD_eq_getD_getElem?] at e106 e107
      exact Y_val (v := .bool false) (by have := HSS.out; go_simp <;> omega) rfl
    · intro a u hx hd hr
      have eg : a.eval (.tmp 101) = .bool false := hd 16 101 rfl rfl
      rw [if_pos (by rw [wanted_some rfl rfl eg]; rfl)]
      have e104 : a.eval (.tmp 104) = .bool false := hd 19 104 rfl rfl
      have e108 : a.eval (.tmp 108) = .bool false := hd 23 108 rfl rfl
      clear hd hr
      simp only [Act.eval, Array.getD_eq_getD_getElem?] at e104 e108
      exact Y_val (v := .bool false) (by go_simp) rfl
    · intro a u hx hd hr
      rw [if_pos (wanted_none rfl)]
      have e101 : a.eval (.tmp 101) = .bool false := hd 16 101 rfl rfl
      exact Y_pick rfl e101 (hd 24 109 rfl rfl)
    · intro a u hx hd hr
      rw [if_pos (wanted_none rfl)]
      exact Y_copy (.inl rfl) (hd 25 110 rfl rfl)
    · intro a u hx hd hr
      have eg : a.eval (.tmp 111) = .bool false := hd 26 111 rfl rfl
      rw [if_pos (by rw [wanted_some rfl rfl eg]; rfl)]
      have e7 : a.eval (.tmp 7) = .pointer (some ⟨w5.heap.size, 0, none⟩) := hr 7 rfl
      exact Y_load_row 25 (.tmp 7) rfl _ e7 _ _ _ _ (rowq _ hx) Try.underlying25 rfl (by kernel_rfl) rfl
    · intro a u hx hd hr
      have eg : a.eval (.tmp 111) = .bool false := hd 26 111 rfl rfl
      rw [if_pos (by rw [wanted_some rfl rfl eg]; rfl)]
      exact Y_copy (.inl rfl) (hr 1 rfl)
    · intro a u hx hd hr
      have eg : a.eval (.tmp 111) = .bool false := hd 26 111 rfl rfl
      rw [if_pos (by rw [wanted_some rfl rfl eg]; rfl)]
      have e112 : a.eval (.tmp 112) = .agg #[.int .i64 k, .slice A6 D.length c6, .slice B6 U.length d6] := hd 27 112 rfl rfl
      have e113 : a.eval (.tmp 113) = .int .i64 s := hd 28 113 rfl rfl
      clear hd hr
      refine Y_calls (f := 21) (args := #[(a.eval (.tmp 112)), (a.eval (.tmp 113))]) (by go_simp) ?_
      rw [e112, e113]
      exact (spares_s _ (⟨k, D, U⟩) s _ (hq.ext hx) (by first | omega | (dsimp only; omega) | (simp; done) | (simp; omega)) (by first | omega | (dsimp only; omega) | (simp; done) | (simp; omega))).mono fun e u2 k => ⟨_, k.1.trans (by rw [HS2.out]), rfl, k.2⟩
    · intro a u hx hd hr
      have eg : a.eval (.tmp 111) = .bool false := hd 26 111 rfl rfl
      rw [if_pos (by rw [wanted_some rfl rfl eg]; rfl)]
      have e3 : a.eval (.tmp 3) = .pointer (some ⟨w.heap.size, 0, none⟩) := hr 3 rfl
      exact Y_load_row 25 (.tmp 3) rfl _ e3 _ _ _ _ (rowp _ hx) Try.underlying25 rfl (by kernel_rfl) rfl
    · intro a u hx hd hr
      have eg : a.eval (.tmp 111) = .bool false := hd 26 111 rfl rfl
      rw [if_pos (by rw [wanted_some rfl rfl eg]; rfl)]
      exact Y_copy (.inl rfl) (hr 1 rfl)
    · intro a u hx hd hr
      have eg : a.eval (.tmp 111) = .bool false := hd 26 111 rfl rfl
      rw [if_pos (by rw [wanted_some rfl rfl eg]; rfl)]
      have e115 : a.eval (.tmp 115) = .agg #[.int .i64 k, .slice A0 U.length c0, .slice B0 D.length d0] := hd 30 115 rfl rfl
      have e116 : a.eval (.tmp 116) = .int .i64 s := hd 31 116 rfl rfl
      clear hd hr
      refine Y_calls (f := 21) (args := #[(a.eval (.tmp 115)), (a.eval (.tmp 116))]) (by go_simp) ?_
      rw [e115, e116]
      exact (spares_s _ (⟨k, U, D⟩) s _ (hp.ext hx) (by first | omega | (dsimp only; omega) | (simp; done) | (simp; omega)) (by first | omega | (dsimp only; omega) | (simp; done) | (simp; omega))).mono fun e u2 k => ⟨_, k.1.trans (by rw [HS.out]), rfl, k.2⟩
    · intro a u hx hd hr
      have eg : a.eval (.tmp 111) = .bool false := hd 26 111 rfl rfl
      rw [if_pos (by rw [wanted_some rfl rfl eg]; rfl)]
      have e114 : a.eval (.tmp 114) = .bool false := hd 29 114 rfl rfl
      have e117 : a.eval (.tmp 117) = .bool false := hd 32 117 rfl rfl
      clear hd hr
      simp only [Act.eval, Array.getD_eq_getD_getElem?] at e114 e117
      exact Y_val (v := .bool false) (by go_simp) rfl
    · intro a u hx hd hr
      rw [if_pos (wanted_none rfl)]
      have e111 : a.eval (.tmp 111) = .bool false := hd 26 111 rfl rfl
      exact Y_pick rfl e111 (hd 33 118 rfl rfl)
    · intro a u hx hd hr
      rw [if_pos (wanted_none rfl)]
      exact Y_copy (.inl rfl) (hd 34 119 rfl rfl)
    · intro a u hx hd hr
      have eg : a.eval (.tmp 120) = .bool false := hd 35 120 rfl rfl
      rw [if_pos (by rw [wanted_some rfl rfl eg]; rfl)]
      exact Y_copy (.inl rfl) (hr 14 rfl)
    · intro a u hx hd hr
      have eg : a.eval (.tmp 120) = .bool false := hd 35 120 rfl rfl
      rw [if_pos (by rw [wanted_some rfl rfl eg]; rfl)]
      have e121 : a.eval (.tmp 121) = .bool true := hd 36 121 rfl rfl
      clear hd hr
      simp only [Act.eval, Array.getD_eq_getD_getElem?] at e121
      exact Y_val (v := .bool false) (by go_simp) rfl
    · intro a u hx hd hr
      have eg : a.eval (.tmp 120) = .bool false := hd 35 120 rfl rfl
      rw [if_pos (by rw [wanted_some rfl rfl eg]; rfl)]
      exact Y_copy (.inl rfl) (hd 37 122 rfl rfl)
    · intro a u hx hd hr
      have eg : a.eval (.tmp 123) = .bool false := hd 38 123 rfl rfl
      rw [if_neg (by rw [wanted_some rfl rfl eg]; exact Bool.noConfusion)]
      exact rfl
    · intro a u hx hd hr
      have eg : a.eval (.tmp 123) = .bool false := hd 38 123 rfl rfl
      rw [if_neg (by rw [wanted_some rfl rfl eg]; exact Bool.noConfusion)]
      exact rfl
    · intro a u hx hd hr
      have eg : a.eval (.tmp 120) = .bool false := hd 35 120 rfl rfl
      rw [if_pos (by rw [wanted_some rfl rfl eg]; rfl)]
      have e123 : a.eval (.tmp 123) = .bool false := hd 38 123 rfl rfl
      exact Y_pick rfl e123 rfl
    · intro a u hx hd hr
      rw [if_pos (wanted_none rfl)]
      have e120 : a.eval (.tmp 120) = .bool false := hd 35 120 rfl rfl
      exact Y_pick rfl e120 (hd 41 126 rfl rfl)
  intro f w15 hwq hF
  have f0 : f 0 = .int .i64 (0) := hF 0 85 (by decide) rfl
  have f1 : f 1 = .bool false := hF 1 86 (by decide) rfl
  have f2 : f 2 = .bool false := hF 2 87 (by decide) rfl
  have f3 : f 3 = .agg #[.int .i64 k, .slice A8 U.length c8, .slice B8 D.length d8] := hF 3 88 (by decide) rfl
  have f4 : f 4 = .agg #[.int .i64 k, .slice A0 U.length c0, .slice B0 D.length d0] := hF 4 89 (by decide) rfl
  have f5 : f 5 = .bool true := hF 5 90 (by decide) rfl
  have f6 : f 6 = .bool false := hF 6 91 (by decide) rfl
  have f7 : f 7 = .bool false := hF 7 92 (by decide) rfl
  have f8 : f 8 = .bool false := hF 8 93 (by decide) rfl
  have f9 : f 9 = .agg #[.int .i64 k, .slice A6 D.length c6, .slice B6 U.length d6] := hF 9 94 (by decide) rfl
  have f10 : f 10 = .int .i64 (D.length : Nat) := hF 10 95 (by decide) rfl
  have f11 : f 11 = .pointer (some ⟨w.heap.size, 2, none⟩) := hF 11 96 (by decide) rfl
  have f12 : f 12 = .slice B0 D.length d0 := hF 12 97 (by decide) rfl
  have f13 : f 13 = .int .i64 (D.length : Nat) := hF 13 98 (by decide) rfl
  have f14 : f 14 = .bool false := hF 14 99 (by decide) rfl
  have f15 : f 15 = .bool false := hF 15 100 (by decide) rfl
  have f16 : f 16 = .bool false := hF 16 101 (by decide) rfl
  have f17 : f 17 = .agg #[.int .i64 k, .slice A0 U.length c0, .slice B0 D.length d0] := hF 17 102 (by decide) rfl
  have f18 : f 18 = .int .i64 s := hF 18 103 (by decide) rfl
  have f19 : f 19 = .bool false := hF 19 104 (by decide) rfl
  have f20 : f 20 = .pointer (some ⟨w.heap.size, 0, none⟩) := hF 20 105 (by decide) rfl
  have f21 : f 21 = .int .i64 k := hF 21 106 (by decide) rfl
  have f22 : f 22 = .int .i64 s := hF 22 107 (by decide) rfl
  have f23 : f 23 = .bool false := hF 23 108 (by decide) rfl
  have f24 : f 24 = .bool false := hF 24 109 (by decide) rfl
  have f25 : f 25 = .bool false := hF 25 110 (by decide) rfl
  have f26 : f 26 = .bool false := hF 26 111 (by decide) rfl
  have f27 : f 27 = .agg #[.int .i64 k, .slice A6 D.length c6, .slice B6 U.length d6] := hF 27 112 (by decide) rfl
  have f28 : f 28 = .int .i64 s := hF 28 113 (by decide) rfl
  have f29 : f 29 = .bool false := hF 29 114 (by decide) rfl
  have f30 : f 30 = .agg #[.int .i64 k, .slice A0 U.length c0, .slice B0 D.length d0] := hF 30 115 (by decide) rfl
  have f31 : f 31 = .int .i64 s := hF 31 116 (by decide) rfl
  have f32 : f 32 = .bool false := hF 32 117 (by decide) rfl
  have f33 : f 33 = .bool false := hF 33 118 (by decide) rfl
  have f34 : f 34 = .bool false := hF 34 119 (by decide) rfl
  have f35 : f 35 = .bool false := hF 35 120 (by decide) rfl
  have f36 : f 36 = .bool true := hF 36 121 (by decide) rfl
  have f37 : f 37 = .bool false := hF 37 122 (by decide) rfl
  have f38 : f 38 = .bool false := hF 38 123 (by decide) rfl
  have f39 : f 39 = undef := hF 39 124 (by decide) rfl
  have f40 : f 40 = undef := hF 40 125 (by decide) rfl
  have f41 : f 41 = .bool false := hF 41 126 (by decide) rfl
  have f42 : f 42 = .bool false := hF 42 127 (by decide) rfl
  clear hF
  simp only [List.take_succ_cons, List.take_zero, List.drop_succ_cons, List.drop_zero, puts, Act.put, List.setIfInBounds_toArray, List.set_cons_succ, List.set_cons_zero, Nat.zero_add, Nat.reduceAdd, f0, f1, f2, f3, f4, f5, f6, f7, f8, f9, f10, f11, f12, f13, f14, f15, f16, f17, f18, f19, f20, f21, f22, f23, f24, f25, f26, f27, f28, f29, f30, f31, f32, f33, f34, f35, f36, f37, f38, f39, f40, f41, f42]
  clear f0 f1 f2 f3 f4 f5 f6 f7 f8 f9 f10 f11 f12 f13 f14 f15 f16 f17 f18 f19 f20 f21 f22 f23 f24 f25 f26 f27 f28 f29 f30 f31 f32 f33 f34 f35 f36 f37 f38 f39 f40 f41 f42
  refine wpList_nil ?_
  clear rowp rowq rowr mp0 mp1 mp2 mq0 mq1 mq2 mr0 mr1 mr2
  have dl := dl.below hwq
  have ds := ds.below hwq
  have hp := hp.ext hwq
  have hq := hq.ext hwq
  have hr := hr.ext hwq
  have rp := Lib.hid ((hwq.block _ (Array.getElem?_eq_some_iff.1 rp.out).1).trans rp.out)
  have rq := Lib.hid ((hwq.block _ (Array.getElem?_eq_some_iff.1 rq.out).1).trans rq.out)
  have rr := Lib.hid ((hwq.block _ (Array.getElem?_eq_some_iff.1 rr.out).1).trans rr.out)
  have x0 := Ext.trans x0 hwq
  clear hwq
  have cq0 : (w15).cell? ⟨w5.heap.size, 0, none⟩ = some (.int .i64 k) := by rw [cell_of_row _ _ _ _ _ _ rq.out]; rfl
  have cq1 : (w15).cell? ⟨w5.heap.size, 1, none⟩ = some (.slice A6 D.length c6) := by rw [cell_of_row _ _ _ _ _ _ rq.out]; rfl
  have cq2 : (w15).cell? ⟨w5.heap.size, 2, none⟩ = some (.slice B6 U.length d6) := by rw [cell_of_row _ _ _ _ _ _ rq.out]; rfl
  go_wp2_with fail
  clear cq0 cq1 cq2
  have hct := apply_any _ ⟨k, D, U⟩ A14 c14 S w15 hq ds (by dsimp only; omega) (by dsimp only; omega) (by omega)
  rw [HAB.out] at hct
  refine hct.mono ?_
  rintro e w16 ⟨_, rfl, ⟨A16, c16, rfl, dt⟩, y15⟩
  clear hct
  simp only at dt ⊢
  have dl := dl.below y15
  have ds := ds.below y15
  have hp := hp.ext y15
  have hq := hq.ext y15
  have hr := hr.ext y15
  have rp := Lib.hid ((y15.block _ (Array.getElem?_eq_some_iff.1 rp.out).1).trans rp.out)
  have rq := Lib.hid ((y15.block _ (Array.getElem?_eq_some_iff.1 rq.out).1).trans rq.out)
  have rr := Lib.hid ((y15.block _ (Array.getElem?_eq_some_iff.1 rr.out).1).trans rr.out)
  have x0 := Ext.trans x0 y15
  clear y15
  go_wp2_with fail
  have hct := digests_s A16 c16 L A11 c11 L w16 dt dl
  rw [HSD.out] at hct
  refine hct.mono ?_
  rintro e w17 ⟨rfl, y16⟩
  clear hct
  have dl := dl.below y16
  have dt := dt.below y16
  have hp := hp.ext y16
  have hq := hq.ext y16
  have hr := hr.ext y16
  have rp := Lib.hid ((y16.block _ (Array.getElem?_eq_some_iff.1 rp.out).1).trans rp.out)
  have rq := Lib.hid ((y16.block _ (Array.getElem?_eq_some_iff.1 rq.out).1).trans rq.out)
  have rr := Lib.hid ((y16.block _ (Array.getElem?_eq_some_iff.1 rr.out).1).trans rr.out)
  have x0 := Ext.trans x0 y16
  clear y16
  go_wp2_with fail
  go_ret
  exact ⟨rfl, x0⟩

set_option maxRecDepth 100000 in
set_option maxHeartbeats 8000000 in
theorem turns_four0 (k : Int) (A0 : Option Addr) (c0 : Nat) (U : List (List UInt8)) (B0 : Option Addr) (d0 : Nat) (D : List (List UInt8)) (s : Int) (Z : Option Addr) (cz : Nat) (z : List Int) (w : World) (hA : Ds w A0 c0 U) (hB : Ds w B0 d0 D) (hZ : Is w Z cz z)
    (hzr : ∀ x ∈ z, -9223372036854775808 ≤ x ∧ x ≤ 9223372036854775807)
    (hli : (decide (U.length ≤ 40) && decide (D.length ≤ 40)) = true) (hz : z.length ≤ 40) (hc : checkP ⟨k, U, D⟩ = 0) (hs : k < s) (hkk : k ≤ 9223372036854775807) (L : List (List UInt8)) (hL : L = nameL z) (hap : applyP ⟨k, U, D⟩ L = ([], 4)) (hfit : k ≤ (L.length : Int) ∧ (L.length : Int) - k = (U.length : Int)) :
    Calls Try.prog 4 #[.agg #[.int .i64 k, .slice A0 U.length c0, .slice B0 D.length d0], .int .i64 s, .slice Z z.length cz] w fun e w' => e = .returned (.bool true) ∧ Ext w w' := by
  have hu40 : U.length ≤ 40 := by simp at hli; omega
  have hd40 : D.length ≤ 40 := by simp at hli; omega
  have HLI : Hid ((decide ((⟨k, U, D⟩ : PV).u.length ≤ 40) && decide ((⟨k, U, D⟩ : PV).d.length ≤ 40)) = true) := Lib.hid hli
  have hzi : (z.length : Int) ≤ 40 := by omega
  clear hli
  have hk0 := (checkP_nonneg hc).1
  simp only at hk0
  have hLl : L.length ≤ 40 := by rw [hL]; exact Nat.le_trans (nameL_len z) hz
  have HB : Hid (backP ⟨k, U, D⟩ = (⟨k, D, U⟩, 0)) := Lib.hid (back_ok hc)
  have HB2 : Hid (backP ⟨k, D, U⟩ = (⟨k, U, D⟩, 0)) := Lib.hid (back_ok (check_back hc))
  have HD2 : Hid (depthP ⟨k, D, U⟩ = (D.length : Int)) := Lib.hid (by unfold depthP; rw [if_pos (check_back hc)])
  have HS : Hid (sparesP ⟨k, U, D⟩ s = false) := Lib.hid (by unfold sparesP; rw [hc]; simp; omega)
  have HS2 : Hid (sparesP ⟨k, D, U⟩ s = false) := Lib.hid (by have h := check_back hc; simp only at h; unfold sparesP; rw [h]; simp; omega)
  have HR := Lib.hid (samePV_refl ⟨k, U, D⟩)
  have HO := Lib.hid (onceI_ok z).2.2
  have HN : Hid (L = (onceI z).map nd) := Lib.hid hL
  have HAP := Lib.hid hap
  have HC := Lib.hid hc
  have HFIT := Lib.hid hfit
  have HSS := Lib.hid hs
  have hwr : IntKind.i64.wrap ((L.length : Int) - k) = (L.length : Int) - k := by rw [IntKind.wrap_i64]; omega
  clear hc hz hL hap hfit hs
  have x0 := Ext.refl w
  have hp : IsPlan w (.agg #[.int .i64 k, .slice A0 U.length c0, .slice B0 D.length d0]) ⟨k, U, D⟩ := ⟨A0, c0, B0, d0, rfl, hA, hB⟩
  clear hA hB
  go_enter Try.func4, Try.ntmps4
  have y1 := Ext.alloc w (.cells #[.int .i64 k, .slice A0 U.length c0, .slice B0 D.length d0] 25)
  have rp := Lib.hid (heap_alloc_new w (.cells #[.int .i64 k, .slice A0 U.length c0, .slice B0 D.length d0] 25))
  have hp := hp.ext y1
  have x0 := Ext.trans x0 y1
  clear y1
  go_wp2_with fail
  generalize w.alloc (.cells #[.int .i64 k, .slice A0 U.length c0, .slice B0 D.length d0] 25) = w1 at *
  have hct := lives_any w1
  refine hct.mono ?_
  rintro e w2 ⟨rfl, y2⟩
  clear hct
  have hp := hp.ext y2
  have rp := Lib.hid ((y2.block _ (Array.getElem?_eq_some_iff.1 rp.out).1).trans rp.out)
  have x0 := Ext.trans x0 y2
  clear y2
  have cp0 : (w2).cell? ⟨w.heap.size, 0, none⟩ = some (.int .i64 k) := by rw [cell_of_row _ _ _ _ _ _ rp.out]; rfl
  have cp1 : (w2).cell? ⟨w.heap.size, 1, none⟩ = some (.slice A0 U.length c0) := by rw [cell_of_row _ _ _ _ _ _ rp.out]; rfl
  have cp2 : (w2).cell? ⟨w.heap.size, 2, none⟩ = some (.slice B0 D.length d0) := by rw [cell_of_row _ _ _ _ _ _ rp.out]; rfl
  go_wp2_with fail
  clear cp0 cp1 cp2
  have hct := light_any _ ⟨k, U, D⟩ w2 hp
  rw [HLI.out] at hct
  refine hct.mono ?_
  rintro e w3 ⟨rfl, y3⟩
  clear hct
  have hp := hp.ext y3
  have rp := Lib.hid ((y3.block _ (Array.getElem?_eq_some_iff.1 rp.out).1).trans rp.out)
  have x0 := Ext.trans x0 y3
  clear y3
  have cp0 : (w3).cell? ⟨w.heap.size, 0, none⟩ = some (.int .i64 k) := by rw [cell_of_row _ _ _ _ _ _ rp.out]; rfl
  have cp1 : (w3).cell? ⟨w.heap.size, 1, none⟩ = some (.slice A0 U.length c0) := by rw [cell_of_row _ _ _ _ _ _ rp.out]; rfl
  have cp2 : (w3).cell? ⟨w.heap.size, 2, none⟩ = some (.slice B0 D.length d0) := by rw [cell_of_row _ _ _ _ _ _ rp.out]; rfl
  go_wp2_with fail
  clear cp0 cp1 cp2
  have hct := plan_any _ ⟨k, U, D⟩ w3 hp (by dsimp only; omega) (by dsimp only; omega)
  refine hct.mono ?_
  rintro e w4 ⟨_, rfl, ⟨A5, c5, B5, d5, rfl, da, db⟩, y4⟩
  clear hct
  simp only at da db ⊢
  have hp := hp.ext y4
  have rp := Lib.hid ((y4.block _ (Array.getElem?_eq_some_iff.1 rp.out).1).trans rp.out)
  have x0 := Ext.trans x0 y4
  clear y4
  go_wp2_with fail
  have hct := back_any _ ⟨k, U, D⟩ w4 ⟨A5, c5, B5, d5, rfl, da, db⟩ (by dsimp only; omega) (by dsimp only; omega)
  rw [HB.out] at hct
  refine hct.mono ?_
  rintro e w5 ⟨_, rfl, ⟨A6, c6, B6, d6, rfl, ea, eb⟩, y5⟩
  clear hct
  simp only at ea eb ⊢
  have da := da.below y5
  have db := db.below y5
  have hp := hp.ext y5
  have rp := Lib.hid ((y5.block _ (Array.getElem?_eq_some_iff.1 rp.out).1).trans rp.out)
  have x0 := Ext.trans x0 y5
  clear y5
  clear da db
  have hq : IsPlan w5 (.agg #[.int .i64 k, .slice A6 D.length c6, .slice B6 U.length d6]) ⟨k, D, U⟩ := ⟨A6, c6, B6, d6, rfl, ea, eb⟩
  clear ea eb
  have y6 := Ext.alloc w5 (.cells #[.int .i64 k, .slice A6 D.length c6, .slice B6 U.length d6] 25)
  have rq := Lib.hid (heap_alloc_new w5 (.cells #[.int .i64 k, .slice A6 D.length c6, .slice B6 U.length d6] 25))
  have hp := hp.ext y6
  have hq := hq.ext y6
  have rp := Lib.hid ((y6.block _ (Array.getElem?_eq_some_iff.1 rp.out).1).trans rp.out)
  have x0 := Ext.trans x0 y6
  have cp0 : ((w5.alloc (.cells #[.int .i64 k, .slice A6 D.length c6, .slice B6 U.length d6] 25))).cell? ⟨w.heap.size, 0, none⟩ = some (.int .i64 k) := by rw [cell_of_row _ _ _ _ _ _ rp.out]; rfl
  have cp1 : ((w5.alloc (.cells #[.int .i64 k, .slice A6 D.length c6, .slice B6 U.length d6] 25))).cell? ⟨w.heap.size, 1, none⟩ = some (.slice A0 U.length c0) := by rw [cell_of_row _ _ _ _ _ _ rp.out]; rfl
  have cp2 : ((w5.alloc (.cells #[.int .i64 k, .slice A6 D.length c6, .slice B6 U.length d6] 25))).cell? ⟨w.heap.size, 2, none⟩ = some (.slice B0 D.length d0) := by rw [cell_of_row _ _ _ _ _ _ rp.out]; rfl
  clear y6
  go_wp2_with fail
  clear cp0 cp1 cp2
  generalize w5.alloc (.cells #[.int .i64 k, .slice A6 D.length c6, .slice B6 U.length d6] 25) = w6 at *
  have hct := check_any _ ⟨k, U, D⟩ w6 hp (by dsimp only; omega) (by dsimp only; omega)
  rw [HC.out] at hct
  refine hct.mono ?_
  rintro e w7 ⟨rfl, y7⟩
  clear hct
  have hp := hp.ext y7
  have hq := hq.ext y7
  have rp := Lib.hid ((y7.block _ (Array.getElem?_eq_some_iff.1 rp.out).1).trans rp.out)
  have rq := Lib.hid ((y7.block _ (Array.getElem?_eq_some_iff.1 rq.out).1).trans rq.out)
  have x0 := Ext.trans x0 y7
  clear y7
  have cq0 : (w7).cell? ⟨w5.heap.size, 0, none⟩ = some (.int .i64 k) := by rw [cell_of_row _ _ _ _ _ _ rq.out]; rfl
  have cq1 : (w7).cell? ⟨w5.heap.size, 1, none⟩ = some (.slice A6 D.length c6) := by rw [cell_of_row _ _ _ _ _ _ rq.out]; rfl
  have cq2 : (w7).cell? ⟨w5.heap.size, 2, none⟩ = some (.slice B6 U.length d6) := by rw [cell_of_row _ _ _ _ _ _ rq.out]; rfl
  go_wp2_with fail
  clear cq0 cq1 cq2
  have hct := back_any _ ⟨k, D, U⟩ w7 hq (by dsimp only; omega) (by dsimp only; omega)
  rw [HB2.out] at hct
  refine hct.mono ?_
  rintro e w8 ⟨_, rfl, ⟨A8, c8, B8, d8, rfl, ea, eb⟩, y8⟩
  clear hct
  simp only at ea eb ⊢
  have hp := hp.ext y8
  have hq := hq.ext y8
  have rp := Lib.hid ((y8.block _ (Array.getElem?_eq_some_iff.1 rp.out).1).trans rp.out)
  have rq := Lib.hid ((y8.block _ (Array.getElem?_eq_some_iff.1 rq.out).1).trans rq.out)
  have x0 := Ext.trans x0 y8
  clear y8
  have hr : IsPlan w8 (.agg #[.int .i64 k, .slice A8 U.length c8, .slice B8 D.length d8]) ⟨k, U, D⟩ := ⟨A8, c8, B8, d8, rfl, ea, eb⟩
  clear ea eb
  have y9 := Ext.alloc w8 (.cells #[.int .i64 k, .slice A8 U.length c8, .slice B8 D.length d8] 25)
  have rr := Lib.hid (heap_alloc_new w8 (.cells #[.int .i64 k, .slice A8 U.length c8, .slice B8 D.length d8] 25))
  have hp := hp.ext y9
  have hq := hq.ext y9
  have hr := hr.ext y9
  have rp := Lib.hid ((y9.block _ (Array.getElem?_eq_some_iff.1 rp.out).1).trans rp.out)
  have rq := Lib.hid ((y9.block _ (Array.getElem?_eq_some_iff.1 rq.out).1).trans rq.out)
  have x0 := Ext.trans x0 y9
  clear y9
  go_wp2_with fail
  generalize w8.alloc (.cells #[.int .i64 k, .slice A8 U.length c8, .slice B8 D.length d8] 25) = w9 at *
  have hct := oncelaw_any Z cz z w9 (Sl.below hZ x0) (by omega) hzr
  refine hct.mono ?_
  rintro e w10 ⟨_, rfl, ho, y10⟩
  clear hct
  obtain ⟨A10, c10, rfl, hi, _⟩ := Sl.of_own ho
  clear ho
  have hp := hp.ext y10
  have hq := hq.ext y10
  have hr := hr.ext y10
  have rp := Lib.hid ((y10.block _ (Array.getElem?_eq_some_iff.1 rp.out).1).trans rp.out)
  have rq := Lib.hid ((y10.block _ (Array.getElem?_eq_some_iff.1 rq.out).1).trans rq.out)
  have rr := Lib.hid ((y10.block _ (Array.getElem?_eq_some_iff.1 rr.out).1).trans rr.out)
  have x0 := Ext.trans x0 y10
  clear y10
  go_wp2_with fail
  have hct := names_lit (onceI z) L HN.out A10 c10 _ w10 rfl hi (by have := HO.out; omega)
  refine hct.mono ?_
  rintro e w11 ⟨_, rfl, ⟨A11, c11, rfl, dl⟩, y11⟩
  clear hct
  clear hi
  have hp := hp.ext y11
  have hq := hq.ext y11
  have hr := hr.ext y11
  have rp := Lib.hid ((y11.block _ (Array.getElem?_eq_some_iff.1 rp.out).1).trans rp.out)
  have rq := Lib.hid ((y11.block _ (Array.getElem?_eq_some_iff.1 rq.out).1).trans rq.out)
  have rr := Lib.hid ((y11.block _ (Array.getElem?_eq_some_iff.1 rr.out).1).trans rr.out)
  have x0 := Ext.trans x0 y11
  clear y11
  have cp0 : (w11).cell? ⟨w.heap.size, 0, none⟩ = some (.int .i64 k) := by rw [cell_of_row _ _ _ _ _ _ rp.out]; rfl
  have cp1 : (w11).cell? ⟨w.heap.size, 1, none⟩ = some (.slice A0 U.length c0) := by rw [cell_of_row _ _ _ _ _ _ rp.out]; rfl
  have cp2 : (w11).cell? ⟨w.heap.size, 2, none⟩ = some (.slice B0 D.length d0) := by rw [cell_of_row _ _ _ _ _ _ rp.out]; rfl
  go_wp2_with fail
  clear cp0 cp1 cp2
  have hct := plan_any _ ⟨k, U, D⟩ w11 hp (by dsimp only; omega) (by dsimp only; omega)
  refine hct.mono ?_
  rintro e w12 ⟨_, rfl, ⟨A12, c12, B12, d12, rfl, da, db⟩, y12⟩
  clear hct
  simp only at da db ⊢
  have dl := dl.below y12
  have hp := hp.ext y12
  have hq := hq.ext y12
  have hr := hr.ext y12
  have rp := Lib.hid ((y12.block _ (Array.getElem?_eq_some_iff.1 rp.out).1).trans rp.out)
  have rq := Lib.hid ((y12.block _ (Array.getElem?_eq_some_iff.1 rq.out).1).trans rq.out)
  have rr := Lib.hid ((y12.block _ (Array.getElem?_eq_some_iff.1 rr.out).1).trans rr.out)
  have x0 := Ext.trans x0 y12
  clear y12
  go_wp2_with fail
  have hct := kitnames_any A11 c11 L w12 dl (by omega)
  refine hct.mono ?_
  rintro e w13 ⟨_, rfl, ho, y13⟩
  clear hct
  obtain ⟨A13, c13, rfl, hi, _⟩ := Sl.of_own ho
  have dn : Ds w13 A13 c13 L := ⟨hi, dl.ok⟩
  clear ho hi
  have dl := dl.below y13
  have da := da.below y13
  have db := db.below y13
  have hp := hp.ext y13
  have hq := hq.ext y13
  have hr := hr.ext y13
  have rp := Lib.hid ((y13.block _ (Array.getElem?_eq_some_iff.1 rp.out).1).trans rp.out)
  have rq := Lib.hid ((y13.block _ (Array.getElem?_eq_some_iff.1 rq.out).1).trans rq.out)
  have rr := Lib.hid ((y13.block _ (Array.getElem?_eq_some_iff.1 rr.out).1).trans rr.out)
  have x0 := Ext.trans x0 y13
  clear y13
  go_wp2_with fail
  have hct := apply_any _ ⟨k, U, D⟩ A13 c13 L w13 ⟨A12, c12, B12, d12, rfl, da, db⟩ dn (by dsimp only; omega) (by dsimp only; omega) (by omega)
  rw [HAP.out] at hct
  refine hct.mono ?_
  rintro e w14 ⟨_, rfl, ⟨A14, c14, rfl, ds⟩, y14⟩
  clear hct
  simp only [List.length_nil] at ds ⊢
  have dl := dl.below y14
  have da := da.below y14
  have db := db.below y14
  have dn := dn.below y14
  have hp := hp.ext y14
  have hq := hq.ext y14
  have hr := hr.ext y14
  have rp := Lib.hid ((y14.block _ (Array.getElem?_eq_some_iff.1 rp.out).1).trans rp.out)
  have rq := Lib.hid ((y14.block _ (Array.getElem?_eq_some_iff.1 rq.out).1).trans rq.out)
  have rr := Lib.hid ((y14.block _ (Array.getElem?_eq_some_iff.1 rr.out).1).trans rr.out)
  have x0 := Ext.trans x0 y14
  clear y14
  clear da db dn
  have hfb := HFIT.out
  have hf1 := hfb.1
  have hf2 := Lib.hid hfb.2
  have hf3 : ((L.length : Int) - k == (U.length : Int)) = true := by simp [hf2.out]
  clear hfb
  have cp0 : (w14).cell? ⟨w.heap.size, 0, none⟩ = some (.int .i64 k) := by rw [cell_of_row _ _ _ _ _ _ rp.out]; rfl
  have cp1 : (w14).cell? ⟨w.heap.size, 1, none⟩ = some (.slice A0 U.length c0) := by rw [cell_of_row _ _ _ _ _ _ rp.out]; rfl
  have cp2 : (w14).cell? ⟨w.heap.size, 2, none⟩ = some (.slice B0 D.length d0) := by rw [cell_of_row _ _ _ _ _ _ rp.out]; rfl
  go_wp2_with fail
  clear cp0 cp1 cp2
  have rowp : ∀ u, Ext w14 u → u.heap[w.heap.size]? = some (.cells #[.int .i64 k, .slice A0 U.length c0, .slice B0 D.length d0] 25 (0, 0)) := fun u hu => (hu.block _ (Array.getElem?_eq_some_iff.1 rp.out).1).trans rp.out
  have mp0 : ∀ u, Ext w14 u → u.cell? ⟨w.heap.size, 0, none⟩ = some (.int .i64 k) := fun u hu => by rw [cell_of_row _ _ _ _ _ _ (rowp u hu)]; rfl
  have mp1 : ∀ u, Ext w14 u → u.cell? ⟨w.heap.size, 1, none⟩ = some (.slice A0 U.length c0) := fun u hu => by rw [cell_of_row _ _ _ _ _ _ (rowp u hu)]; rfl
  have mp2 : ∀ u, Ext w14 u → u.cell? ⟨w.heap.size, 2, none⟩ = some (.slice B0 D.length d0) := fun u hu => by rw [cell_of_row _ _ _ _ _ _ (rowp u hu)]; rfl
  have rowq : ∀ u, Ext w14 u → u.heap[w5.heap.size]? = some (.cells #[.int .i64 k, .slice A6 D.length c6, .slice B6 U.length d6] 25 (0, 0)) := fun u hu => (hu.block _ (Array.getElem?_eq_some_iff.1 rq.out).1).trans rq.out
  have mq0 : ∀ u, Ext w14 u → u.cell? ⟨w5.heap.size, 0, none⟩ = some (.int .i64 k) := fun u hu => by rw [cell_of_row _ _ _ _ _ _ (rowq u hu)]; rfl
  have mq1 : ∀ u, Ext w14 u → u.cell? ⟨w5.heap.size, 1, none⟩ = some (.slice A6 D.length c6) := fun u hu => by rw [cell_of_row _ _ _ _ _ _ (rowq u hu)]; rfl
  have mq2 : ∀ u, Ext w14 u → u.cell? ⟨w5.heap.size, 2, none⟩ = some (.slice B6 U.length d6) := fun u hu => by rw [cell_of_row _ _ _ _ _ _ (rowq u hu)]; rfl
  have rowr : ∀ u, Ext w14 u → u.heap[w8.heap.size]? = some (.cells #[.int .i64 k, .slice A8 U.length c8, .slice B8 D.length d8] 25 (0, 0)) := fun u hu => (hu.block _ (Array.getElem?_eq_some_iff.1 rr.out).1).trans rr.out
  have mr0 : ∀ u, Ext w14 u → u.cell? ⟨w8.heap.size, 0, none⟩ = some (.int .i64 k) := fun u hu => by rw [cell_of_row _ _ _ _ _ _ (rowr u hu)]; rfl
  have mr1 : ∀ u, Ext w14 u → u.cell? ⟨w8.heap.size, 1, none⟩ = some (.slice A8 U.length c8) := fun u hu => by rw [cell_of_row _ _ _ _ _ _ (rowr u hu)]; rfl
  have mr2 : ∀ u, Ext w14 u → u.cell? ⟨w8.heap.size, 2, none⟩ = some (.slice B8 D.length d8) := fun u hu => by rw [cell_of_row _ _ _ _ _ _ (rowr u hu)]; rfl
  refine wp_region_layt [Fact.val (.int .i64 (0)), Fact.val (.bool false), Fact.val (.bool false), Fact.val (.agg #[.int .i64 k, .slice A8 U.length c8, .slice B8 D.length d8]), Fact.val (.agg #[.int .i64 k, .slice A0 U.length c0, .slice B0 D.length d0]), Fact.val (.bool true), Fact.val (.bool false), Fact.val (.bool false), Fact.val (.bool false), Fact.val (.agg #[.int .i64 k, .slice A6 D.length c6, .slice B6 U.length d6]), Fact.val (.int .i64 (D.length : Nat)), Fact.val (.pointer (some ⟨w.heap.size, 2, none⟩)), Fact.val (.slice B0 D.length d0), Fact.val (.int .i64 (D.length : Nat)), Fact.val (.bool false), Fact.val (.bool false), Fact.val (.bool false), Fact.val (.agg #[.int .i64 k, .slice A0 U.length c0, .slice B0 D.length d0]), Fact.val (.int .i64 s), Fact.val (.bool false), Fact.val (.pointer (some ⟨w.heap.size, 0, none⟩)), Fact.val (.int .i64 k), Fact.val (.int .i64 s), Fact.val (.bool false), Fact.val (.bool false), Fact.val (.bool false), Fact.val (.bool false), Fact.val (.agg #[.int .i64 k, .slice A6 D.length c6, .slice B6 U.length d6]), Fact.val (.int .i64 s), Fact.val (.bool false), Fact.val (.agg #[.int .i64 k, .slice A0 U.length c0, .slice B0 D.length d0]), Fact.val (.int .i64 s), Fact.val (.bool false), Fact.val (.bool false), Fact.val (.bool false), Fact.val (.bool false), Fact.val (.bool true), Fact.val (.bool false), Fact.val (.bool false), Fact.val (undef), Fact.val (undef), Fact.val (.bool false), Fact.val (.bool false)] (w14) _ 43 (by kernel_rfl) (by kernel_rfl) (by kernel_rfl) (by kernel_rfl) (by kernel_rfl) (by kernel_rfl) (Ext.refl _) ?_ ?_
  · refine ⟨?_, ?_, ?_, ?_, ?_, ?_, ?_, ?_, ?_, ?_, ?_, ?_, ?_, ?_, ?_, ?_, ?_, ?_, ?_, ?_, ?_, ?_, ?_, ?_, ?_, ?_, ?_, ?_, ?_, ?_, ?_, ?_, ?_, ?_, ?_, ?_, ?_, ?_, ?_, ?_, ?_, ?_, ?_, trivial⟩
    · intro a u hx hd hr
      rw [if_pos (wanted_none rfl)]
      exact Y_copy (.inl rfl) (hr 10 rfl)
    · intro a u hx hd hr
      rw [if_pos (wanted_none rfl)]
      have e85 : a.eval (.tmp 85) = .int .i64 (0) := hd 0 85 rfl rfl
      clear hd hr
      simp only [Act.eval, Array.getD_eq_getD_getElem?] at e85
      exact Y_val (v := .bool false) (by go_simp) rfl
    · intro a u hx hd hr
      rw [if_pos (wanted_none rfl)]
      exact Y_copy (.inl rfl) (hd 1 86 rfl rfl)
    · intro a u hx hd hr
      have eg : a.eval (.tmp 87) = .bool false := hd 2 87 rfl rfl
      rw [if_pos (by rw [wanted_some rfl rfl eg]; rfl)]
      have e9 : a.eval (.tmp 9) = .pointer (some ⟨w8.heap.size, 0, none⟩) := hr 9 rfl
      exact Y_load_row 25 (.tmp 9) rfl _ e9 _ _ _ _ (rowr _ hx) Try.underlying25 rfl (by kernel_rfl) rfl
    · intro a u hx hd hr
      have eg : a.eval (.tmp 87) = .bool false := hd 2 87 rfl rfl
      rw [if_pos (by rw [wanted_some rfl rfl eg]; rfl)]
      have e3 : a.eval (.tmp 3) = .pointer (some ⟨w.heap.size, 0, none⟩) := hr 3 rfl
      exact Y_load_row 25 (.tmp 3) rfl _ e3 _ _ _ _ (rowp _ hx) Try.underlying25 rfl (by kernel_rfl) rfl
    · intro a u hx hd hr
      have eg : a.eval (.tmp 87) = .bool false := hd 2 87 rfl rfl
      rw [if_pos (by rw [wanted_some rfl rfl eg]; rfl)]
      have e88 : a.eval (.tmp 88) = .agg #[.int .i64 k, .slice A8 U.length c8, .slice B8 D.length d8] := hd 3 88 rfl rfl
      have e89 : a.eval (.tmp 89) = .agg #[.int .i64 k, .slice A0 U.length c0, .slice B0 D.length d0] := hd 4 89 rfl rfl
      clear hd hr
      refine Y_calls (f := 16) (args := #[(a.eval (.tmp 88)), (a.eval (.tmp 89))]) (by go_simp) ?_
      rw [e88, e89]
      exact (kitplan_s _ (⟨k, U, D⟩) _ (⟨k, U, D⟩) _ (hr.ext hx) (hp.ext hx)).mono fun e u2 k => ⟨_, k.1.trans (by rw [HR.out]), rfl, k.2⟩
    · intro a u hx hd hr
      have eg : a.eval (.tmp 87) = .bool false := hd 2 87 rfl rfl
      rw [if_pos (by rw [wanted_some rfl rfl eg]; rfl)]
      have e90 : a.eval (.tmp 90) = .bool true := hd 5 90 rfl rfl
      clear hd hr
      simp only [Act.eval, Array.getD_eq_getD_getElem?] at e90
      exact Y_val (v := .bool false) (by go_simp) rfl
    · intro a u hx hd hr
      rw [if_pos (wanted_none rfl)]
      have e87 : a.eval (.tmp 87) = .bool false := hd 2 87 rfl rfl
      exact Y_pick rfl e87 (hd 6 91 rfl rfl)
    · intro a u hx hd hr
      rw [if_pos (wanted_none rfl)]
      exact Y_copy (.inl rfl) (hd 7 92 rfl rfl)
    · intro a u hx hd hr
      have eg : a.eval (.tmp 93) = .bool false := hd 8 93 rfl rfl
      rw [if_pos (by rw [wanted_some rfl rfl eg]; rfl)]
      have e7 : a.eval (.tmp 7) = .pointer (some ⟨w5.heap.size, 0, none⟩) := hr 7 rfl
      exact Y_load_row 25 (.tmp 7) rfl _ e7 _ _ _ _ (rowq _ hx) Try.underlying25 rfl (by kernel_rfl) rfl
    · intro a u hx hd hr
      have eg : a.eval (.tmp 93) = .bool false := hd 8 93 rfl rfl
      rw [if_pos (by rw [wanted_some rfl rfl eg]; rfl)]
      have e94 : a.eval (.tmp 94) = .agg #[.int .i64 k, .slice A6 D.length c6, .slice B6 U.length d6] := hd 9 94 rfl rfl
      clear hd hr
      refine Y_calls (f := 18) (args := #[(a.eval (.tmp 94))]) (by go_simp) ?_
      rw [e94]
      exact (depth_s _ (⟨k, D, U⟩) _ (hq.ext hx) (by first | omega | (dsimp only; omega) | (simp; done) | (simp; omega)) (by first | omega | (dsimp only; omega) | (simp; done) | (simp; omega))).mono fun e u2 k => ⟨_, k.1.trans (by rw [HD2.out]), rfl, k.2⟩
    · intro a u hx hd hr
      have eg : a.eval (.tmp 93) = .bool false := hd 8 93 rfl rfl
      rw [if_pos (by rw [wanted_some rfl rfl eg]; rfl)]
      have e3 : a.eval (.tmp 3) = .pointer (some ⟨w.heap.size, 0, none⟩) := hr 3 rfl
      clear hd hr
      simp only [Act.eval, Array.getD_eq_getD_getElem?] at e3
      exact Y_val (v := .pointer (some ⟨w.heap.size, 2, none⟩)) (by go_simp) rfl
    · intro a u hx hd hr
      have eg : a.eval (.tmp 93) = .bool false := hd 8 93 rfl rfl
      rw [if_pos (by rw [wanted_some rfl rfl eg]; rfl)]
      have e96 : a.eval (.tmp 96) = .pointer (some ⟨w.heap.size, 2, none⟩) := hd 11 96 rfl rfl
      have ec := mp2 _ hx
      clear hd hr
      simp only [Act.eval, Array.getD_eq_getD_getElem?] at e96
      exact Y_val (v := .slice B0 D.length d0) (by go_simp) rfl
    · intro a u hx hd hr
      have eg : a.eval (.tmp 93) = .bool false := hd 8 93 rfl rfl
      rw [if_pos (by rw [wanted_some rfl rfl eg]; rfl)]
      have e97 : a.eval (.tmp 97) = .slice B0 D.length d0 := hd 12 97 rfl rfl
      clear hd hr
      simp only [Act.eval, Array.getD_eq_getD_getElem?] at e97
      exact Y_val (v := .int .i64 (D.length : Nat)) (by go_simp) rfl
    · intro a u hx hd hr
      have eg : a.eval (.tmp 93) = .bool false := hd 8 93 rfl rfl
      rw [if_pos (by rw [wanted_some rfl rfl eg]; rfl)]
      have e95 : a.eval (.tmp 95) = .int .i64 (D.length : Nat) := hd 10 95 rfl rfl
      have e98 : a.eval (.tmp 98) = .int .i64 (D.length : Nat) := hd 13 98 rfl rfl
      clear hd hr
      simp only [Act.eval, Array.getD_eq_getD_getElem?] at e95 e98
      exact Y_val (v := .bool false) (by go_simp) rfl
    · intro a u hx hd hr
      rw [if_pos (wanted_none rfl)]
      have e93 : a.eval (.tmp 93) = .bool false := hd 8 93 rfl rfl
      exact Y_pick rfl e93 (hd 14 99 rfl rfl)
    · intro a u hx hd hr
      rw [if_pos (wanted_none rfl)]
      exact Y_copy (.inl rfl) (hd 15 100 rfl rfl)
    · intro a u hx hd hr
      have eg : a.eval (.tmp 101) = .bool false := hd 16 101 rfl rfl
      rw [if_pos (by rw [wanted_some rfl rfl eg]; rfl)]
      have e3 : a.eval (.tmp 3) = .pointer (some ⟨w.heap.size, 0, none⟩) := hr 3 rfl
      exact Y_load_row 25 (.tmp 3) rfl _ e3 _ _ _ _ (rowp _ hx) Try.underlying25 rfl (by kernel_rfl) rfl
    · intro a u hx hd hr
      have eg : a.eval (.tmp 101) = .bool false := hd 16 101 rfl rfl
      rw [if_pos (by rw [wanted_some rfl rfl eg]; rfl)]
      exact Y_copy (.inl rfl) (hr 1 rfl)
    · intro a u hx hd hr
      have eg : a.eval (.tmp 101) = .bool false := hd 16 101 rfl rfl
      rw [if_pos (by rw [wanted_some rfl rfl eg]; rfl)]
      have e102 : a.eval (.tmp 102) = .agg #[.int .i64 k, .slice A0 U.length c0, .slice B0 D.length d0] := hd 17 102 rfl rfl
      have e103 : a.eval (.tmp 103) = .int .i64 s := hd 18 103 rfl rfl
      clear hd hr
      refine Y_calls (f := 21) (args := #[(a.eval (.tmp 102)), (a.eval (.tmp 103))]) (by go_simp) ?_
      rw [e102, e103]
      exact (spares_s _ (⟨k, U, D⟩) s _ (hp.ext hx) (by first | omega | (dsimp only; omega) | (simp; done) | (simp; omega)) (by first | omega | (dsimp only; omega) | (simp; done) | (simp; omega))).mono fun e u2 k => ⟨_, k.1.trans (by rw [HS.out]), rfl, k.2⟩
    · intro a u hx hd hr
      have eg : a.eval (.tmp 101) = .bool false := hd 16 101 rfl rfl
      rw [if_pos (by rw [wanted_some rfl rfl eg]; rfl)]
      have e3 : a.eval (.tmp 3) = .pointer (some ⟨w.heap.size, 0, none⟩) := hr 3 rfl
      clear hd hr
      simp only [Act.eval, Array.getD_eq_getD_getElem?] at e3
      exact Y_val (v := .pointer (some ⟨w.heap.size, 0, none⟩)) (by go_simp) rfl
    · intro a u hx hd hr
      have eg : a.eval (.tmp 101) = .bool false := hd 16 101 rfl rfl
      rw [if_pos (by rw [wanted_some rfl rfl eg]; rfl)]
      have e105 : a.eval (.tmp 105) = .pointer (some ⟨w.heap.size, 0, none⟩) := hd 20 105 rfl rfl
      have ec := mp0 _ hx
      clear hd hr
      simp only [Act.eval, Array.getD_eq_getD_getElem?] at e105
      exact Y_val (v := .int .i64 k) (by go_simp) rfl
    · intro a u hx hd hr
      have eg : a.eval (.tmp 101) = .bool false := hd 16 101 rfl rfl
      rw [if_pos (by rw [wanted_some rfl rfl eg]; rfl)]
      exact Y_copy (.inl rfl) (hr 1 rfl)
    · intro a u hx hd hr
      have eg : a.eval (.tmp 101) = .bool false := hd 16 101 rfl rfl
      rw [if_pos (by rw [wanted_some rfl rfl eg]; rfl)]
      have e106 : a.eval (.tmp 106) = .int .i64 k := hd 21 106 rfl rfl
      have e107 : a.eval (.tmp 107) = .int .i64 s := hd 22 107 rfl rfl
      clear hd hr
      simp only [Act.eval, Array.getD_eq_getD_getElem?] at e106 e107
      exact Y_val (v := .bool false) (by have := HSS.out; go_simp <;> omega) rfl
    · intro a u hx hd hr
      have eg : a.eval (.tmp 101) = .bool false := hd 16 101 rfl rfl
      rw [if_pos (by rw [wanted_some rfl rfl eg]; rfl)]
      have e104 : a.eval (.tmp 104) = .bool false := hd 19 104 rfl rfl
      have e108 : a.eval (.tmp 108) = .bool false := hd 23 108 rfl rfl
      clear hd hr
      simp only [Act.eval, Array.getD_eq_getD_getElem?] at e104 e108
      exact Y_val (v := .bool false) (by go_simp) rfl
    · intro a u hx hd hr
      rw [if_pos (wanted_none rfl)]
      have e101 : a.eval (.tmp 101) = .bool false := hd 16 101 rfl rfl
      exact Y_pick rfl e101 (hd 24 109 rfl rfl)
    · intro a u hx hd hr
      rw [if_pos (wanted_none rfl)]
      exact Y_copy (.inl rfl) (hd 25 110 rfl rfl)
    · intro a u hx hd hr
      have eg : a.eval (.tmp 111) = .bool false := hd 26 111 rfl rfl
      rw [if_pos (by rw [wanted_some rfl rfl eg]; rfl)]
      have e7 : a.eval (.tmp 7) = .pointer (some ⟨w5.heap.size, 0, none⟩) := hr 7 rfl
      exact Y_load_row 25 (.tmp 7) rfl _ e7 _ _ _ _ (rowq _ hx) Try.underlying25 rfl (by kernel_rfl) rfl
    · intro a u hx hd hr
      have eg : a.eval (.tmp 111) = .bool false := hd 26 111 rfl rfl
      rw [if_pos (by rw [wanted_some rfl rfl eg]; rfl)]
      exact Y_copy (.inl rfl) (hr 1 rfl)
    · intro a u hx hd hr
      have eg : a.eval (.tmp 111) = .bool false := hd 26 111 rfl rfl
      rw [if_pos (by rw [wanted_some rfl rfl eg]; rfl)]
      have e112 : a.eval (.tmp 112) = .agg #[.int .i64 k, .slice A6 D.length c6, .slice B6 U.length d6] := hd 27 112 rfl rfl
      have e113 : a.eval (.tmp 113) = .int .i64 s := hd 28 113 rfl rfl
      clear hd hr
      refine Y_calls (f := 21) (args := #[(a.eval (.tmp 112)), (a.eval (.tmp 113))]) (by go_simp) ?_
      rw [e112, e113]
      exact (spares_s _ (⟨k, D, U⟩) s _ (hq.ext hx) (by first | omega | (dsimp only; omega) | (simp; done) | (simp; omega)) (by first | omega | (dsimp only; omega) | (simp; done) | (simp; omega))).mono fun e u2 k => ⟨_, k.1.trans (by rw [HS2.out]), rfl, k.2⟩
    · intro a u hx hd hr
      have eg : a.eval (.tmp 111) = .bool false := hd 26 111 rfl rfl
      rw [if_pos (by rw [wanted_some rfl rfl eg]; rfl)]
      have e3 : a.eval (.tmp 3) = .pointer (some ⟨w.heap.size, 0, none⟩) := hr 3 rfl
      exact Y_load_row 25 (.tmp 3) rfl _ e3 _ _ _ _ (rowp _ hx) Try.underlying25 rfl (by kernel_rfl) rfl
    · intro a u hx hd hr
      have eg : a.eval (.tmp 111) = .bool false := hd 26 111 rfl rfl
      rw [if_pos (by rw [wanted_some rfl rfl eg]; rfl)]
      exact Y_copy (.inl rfl) (hr 1 rfl)
    · intro a u hx hd hr
      have eg : a.eval (.tmp 111) = .bool false := hd 26 111 rfl rfl
      rw [if_pos (by rw [wanted_some rfl rfl eg]; rfl)]
      have e115 : a.eval (.tmp 115) = .agg #[.int .i64 k, .slice A0 U.length c0, .slice B0 D.length d0] := hd 30 115 rfl rfl
      have e116 : a.eval (.tmp 116) = .int .i64 s := hd 31 116 rfl rfl
      clear hd hr
      refine Y_calls (f := 21) (args := #[(a.eval (.tmp 115)), (a.eval (.tmp 116))]) (by go_simp) ?_
      rw [e115, e116]
      exact (spares_s _ (⟨k, U, D⟩) s _ (hp.ext hx) (by first | omega | (dsimp only; omega) | (simp; done) | (simp; omega)) (by first | omega | (dsimp only; omega) | (simp; done) | (simp; omega))).mono fun e u2 k => ⟨_, k.1.trans (by rw [HS.out]), rfl, k.2⟩
    · intro a u hx hd hr
      have eg : a.eval (.tmp 111) = .bool false := hd 26 111 rfl rfl
      rw [if_pos (by rw [wanted_some rfl rfl eg]; rfl)]
      have e114 : a.eval (.tmp 114) = .bool false := hd 29 114 rfl rfl
      have e117 : a.eval (.tmp 117) = .bool false := hd 32 117 rfl rfl
      clear hd hr
      simp only [Act.eval, Array.getD_eq_getD_getElem?] at e114 e117
      exact Y_val (v := .bool false) (by go_simp) rfl
    · intro a u hx hd hr
      rw [if_pos (wanted_none rfl)]
      have e111 : a.eval (.tmp 111) = .bool false := hd 26 111 rfl rfl
      exact Y_pick rfl e111 (hd 33 118 rfl rfl)
    · intro a u hx hd hr
      rw [if_pos (wanted_none rfl)]
      exact Y_copy (.inl rfl) (hd 34 119 rfl rfl)
    · intro a u hx hd hr
      have eg : a.eval (.tmp 120) = .bool false := hd 35 120 rfl rfl
      rw [if_pos (by rw [wanted_some rfl rfl eg]; rfl)]
      exact Y_copy (.inl rfl) (hr 14 rfl)
    · intro a u hx hd hr
      have eg : a.eval (.tmp 120) = .bool false := hd 35 120 rfl rfl
      rw [if_pos (by rw [wanted_some rfl rfl eg]; rfl)]
      have e121 : a.eval (.tmp 121) = .bool true := hd 36 121 rfl rfl
      clear hd hr
      simp only [Act.eval, Array.getD_eq_getD_getElem?] at e121
      exact Y_val (v := .bool false) (by go_simp) rfl
    · intro a u hx hd hr
      have eg : a.eval (.tmp 120) = .bool false := hd 35 120 rfl rfl
      rw [if_pos (by rw [wanted_some rfl rfl eg]; rfl)]
      exact Y_copy (.inl rfl) (hd 37 122 rfl rfl)
    · intro a u hx hd hr
      have eg : a.eval (.tmp 123) = .bool false := hd 38 123 rfl rfl
      rw [if_neg (by rw [wanted_some rfl rfl eg]; exact Bool.noConfusion)]
      exact rfl
    · intro a u hx hd hr
      have eg : a.eval (.tmp 123) = .bool false := hd 38 123 rfl rfl
      rw [if_neg (by rw [wanted_some rfl rfl eg]; exact Bool.noConfusion)]
      exact rfl
    · intro a u hx hd hr
      have eg : a.eval (.tmp 120) = .bool false := hd 35 120 rfl rfl
      rw [if_pos (by rw [wanted_some rfl rfl eg]; rfl)]
      have e123 : a.eval (.tmp 123) = .bool false := hd 38 123 rfl rfl
      exact Y_pick rfl e123 rfl
    · intro a u hx hd hr
      rw [if_pos (wanted_none rfl)]
      have e120 : a.eval (.tmp 120) = .bool false := hd 35 120 rfl rfl
      exact Y_pick rfl e120 (hd 41 126 rfl rfl)
  intro f w15 hwq hF
  have f0 : f 0 = .int .i64 (0) := hF 0 85 (by decide) rfl
  have f1 : f 1 = .bool false := hF 1 86 (by decide) rfl
  have f2 : f 2 = .bool false := hF 2 87 (by decide) rfl
  have f3 : f 3 = .agg #[.int .i64 k, .slice A8 U.length c8, .slice B8 D.length d8] := hF 3 88 (by decide) rfl
  have f4 : f 4 = .agg #[.int .i64 k, .slice A0 U.length c0, .slice B0 D.length d0] := hF 4 89 (by decide) rfl
  have f5 : f 5 = .bool true := hF 5 90 (by decide) rfl
  have f6 : f 6 = .bool false := hF 6 91 (by decide) rfl
  have f7 : f 7 = .bool false := hF 7 92 (by decide) rfl
  have f8 : f 8 = .bool false := hF 8 93 (by decide) rfl
  have f9 : f 9 = .agg #[.int .i64 k, .slice A6 D.length c6, .slice B6 U.length d6] := hF 9 94 (by decide) rfl
  have f10 : f 10 = .int .i64 (D.length : Nat) := hF 10 95 (by decide) rfl
  have f11 : f 11 = .pointer (some ⟨w.heap.size, 2, none⟩) := hF 11 96 (by decide) rfl
  have f12 : f 12 = .slice B0 D.length d0 := hF 12 97 (by decide) rfl
  have f13 : f 13 = .int .i64 (D.length : Nat) := hF 13 98 (by decide) rfl
  have f14 : f 14 = .bool false := hF 14 99 (by decide) rfl
  have f15 : f 15 = .bool false := hF 15 100 (by decide) rfl
  have f16 : f 16 = .bool false := hF 16 101 (by decide) rfl
  have f17 : f 17 = .agg #[.int .i64 k, .slice A0 U.length c0, .slice B0 D.length d0] := hF 17 102 (by decide) rfl
  have f18 : f 18 = .int .i64 s := hF 18 103 (by decide) rfl
  have f19 : f 19 = .bool false := hF 19 104 (by decide) rfl
  have f20 : f 20 = .pointer (some ⟨w.heap.size, 0, none⟩) := hF 20 105 (by decide) rfl
  have f21 : f 21 = .int .i64 k := hF 21 106 (by decide) rfl
  have f22 : f 22 = .int .i64 s := hF 22 107 (by decide) rfl
  have f23 : f 23 = .bool false := hF 23 108 (by decide) rfl
  have f24 : f 24 = .bool false := hF 24 109 (by decide) rfl
  have f25 : f 25 = .bool false := hF 25 110 (by decide) rfl
  have f26 : f 26 = .bool false := hF 26 111 (by decide) rfl
  have f27 : f 27 = .agg #[.int .i64 k, .slice A6 D.length c6, .slice B6 U.length d6] := hF 27 112 (by decide) rfl
  have f28 : f 28 = .int .i64 s := hF 28 113 (by decide) rfl
  have f29 : f 29 = .bool false := hF 29 114 (by decide) rfl
  have f30 : f 30 = .agg #[.int .i64 k, .slice A0 U.length c0, .slice B0 D.length d0] := hF 30 115 (by decide) rfl
  have f31 : f 31 = .int .i64 s := hF 31 116 (by decide) rfl
  have f32 : f 32 = .bool false := hF 32 117 (by decide) rfl
  have f33 : f 33 = .bool false := hF 33 118 (by decide) rfl
  have f34 : f 34 = .bool false := hF 34 119 (by decide) rfl
  have f35 : f 35 = .bool false := hF 35 120 (by decide) rfl
  have f36 : f 36 = .bool true := hF 36 121 (by decide) rfl
  have f37 : f 37 = .bool false := hF 37 122 (by decide) rfl
  have f38 : f 38 = .bool false := hF 38 123 (by decide) rfl
  have f39 : f 39 = undef := hF 39 124 (by decide) rfl
  have f40 : f 40 = undef := hF 40 125 (by decide) rfl
  have f41 : f 41 = .bool false := hF 41 126 (by decide) rfl
  have f42 : f 42 = .bool false := hF 42 127 (by decide) rfl
  clear hF
  simp only [List.take_succ_cons, List.take_zero, List.drop_succ_cons, List.drop_zero, puts, Act.put, List.setIfInBounds_toArray, List.set_cons_succ, List.set_cons_zero, Nat.zero_add, Nat.reduceAdd, f0, f1, f2, f3, f4, f5, f6, f7, f8, f9, f10, f11, f12, f13, f14, f15, f16, f17, f18, f19, f20, f21, f22, f23, f24, f25, f26, f27, f28, f29, f30, f31, f32, f33, f34, f35, f36, f37, f38, f39, f40, f41, f42]
  clear f0 f1 f2 f3 f4 f5 f6 f7 f8 f9 f10 f11 f12 f13 f14 f15 f16 f17 f18 f19 f20 f21 f22 f23 f24 f25 f26 f27 f28 f29 f30 f31 f32 f33 f34 f35 f36 f37 f38 f39 f40 f41 f42
  refine wpList_nil ?_
  clear rowp rowq rowr mp0 mp1 mp2 mq0 mq1 mq2 mr0 mr1 mr2
  have dl := dl.below hwq
  have ds := ds.below hwq
  have hp := hp.ext hwq
  have hq := hq.ext hwq
  have hr := hr.ext hwq
  have rp := Lib.hid ((hwq.block _ (Array.getElem?_eq_some_iff.1 rp.out).1).trans rp.out)
  have rq := Lib.hid ((hwq.block _ (Array.getElem?_eq_some_iff.1 rq.out).1).trans rq.out)
  have rr := Lib.hid ((hwq.block _ (Array.getElem?_eq_some_iff.1 rr.out).1).trans rr.out)
  have x0 := Ext.trans x0 hwq
  clear hwq
  go_wp2_with fail
  go_ret
  exact ⟨rfl, x0⟩

set_option maxRecDepth 100000 in
set_option maxHeartbeats 8000000 in
theorem turns_far0 (k : Int) (A0 : Option Addr) (c0 : Nat) (U : List (List UInt8)) (B0 : Option Addr) (d0 : Nat) (D : List (List UInt8)) (s : Int) (Z : Option Addr) (cz : Nat) (z : List Int) (w : World) (hA : Ds w A0 c0 U) (hB : Ds w B0 d0 D) (hZ : Is w Z cz z)
    (hzr : ∀ x ∈ z, -9223372036854775808 ≤ x ∧ x ≤ 9223372036854775807)
    (hli : (decide (U.length ≤ 40) && decide (D.length ≤ 40)) = true) (hz : z.length ≤ 40) (hc : checkP ⟨k, U, D⟩ = 0) (hs : k < s) (hkk : k ≤ 9223372036854775807) (L : List (List UInt8)) (hL : L = nameL z) (hap : applyP ⟨k, U, D⟩ L = ([], 4)) (hfit : (L.length : Int) < k) :
    Calls Try.prog 4 #[.agg #[.int .i64 k, .slice A0 U.length c0, .slice B0 D.length d0], .int .i64 s, .slice Z z.length cz] w fun e w' => e = .returned (.bool true) ∧ Ext w w' := by
  have hu40 : U.length ≤ 40 := by simp at hli; omega
  have hd40 : D.length ≤ 40 := by simp at hli; omega
  have HLI : Hid ((decide ((⟨k, U, D⟩ : PV).u.length ≤ 40) && decide ((⟨k, U, D⟩ : PV).d.length ≤ 40)) = true) := Lib.hid hli
  have hzi : (z.length : Int) ≤ 40 := by omega
  clear hli
  have hk0 := (checkP_nonneg hc).1
  simp only at hk0
  have hLl : L.length ≤ 40 := by rw [hL]; exact Nat.le_trans (nameL_len z) hz
  have HB : Hid (backP ⟨k, U, D⟩ = (⟨k, D, U⟩, 0)) := Lib.hid (back_ok hc)
  have HB2 : Hid (backP ⟨k, D, U⟩ = (⟨k, U, D⟩, 0)) := Lib.hid (back_ok (check_back hc))
  have HD2 : Hid (depthP ⟨k, D, U⟩ = (D.length : Int)) := Lib.hid (by unfold depthP; rw [if_pos (check_back hc)])
  have HS : Hid (sparesP ⟨k, U, D⟩ s = false) := Lib.hid (by unfold sparesP; rw [hc]; simp; omega)
  have HS2 : Hid (sparesP ⟨k, D, U⟩ s = false) := Lib.hid (by have h := check_back hc; simp only at h; unfold sparesP; rw [h]; simp; omega)
  have HR := Lib.hid (samePV_refl ⟨k, U, D⟩)
  have HO := Lib.hid (onceI_ok z).2.2
  have HN : Hid (L = (onceI z).map nd) := Lib.hid hL
  have HAP := Lib.hid hap
  have HC := Lib.hid hc
  have HFIT := Lib.hid hfit
  have HSS := Lib.hid hs
  clear hc hz hL hap hfit hs
  have x0 := Ext.refl w
  have hp : IsPlan w (.agg #[.int .i64 k, .slice A0 U.length c0, .slice B0 D.length d0]) ⟨k, U, D⟩ := ⟨A0, c0, B0, d0, rfl, hA, hB⟩
  clear hA hB
  go_enter Try.func4, Try.ntmps4
  have y1 := Ext.alloc w (.cells #[.int .i64 k, .slice A0 U.length c0, .slice B0 D.length d0] 25)
  have rp := Lib.hid (heap_alloc_new w (.cells #[.int .i64 k, .slice A0 U.length c0, .slice B0 D.length d0] 25))
  have hp := hp.ext y1
  have x0 := Ext.trans x0 y1
  clear y1
  go_wp2_with fail
  generalize w.alloc (.cells #[.int .i64 k, .slice A0 U.length c0, .slice B0 D.length d0] 25) = w1 at *
  have hct := lives_any w1
  refine hct.mono ?_
  rintro e w2 ⟨rfl, y2⟩
  clear hct
  have hp := hp.ext y2
  have rp := Lib.hid ((y2.block _ (Array.getElem?_eq_some_iff.1 rp.out).1).trans rp.out)
  have x0 := Ext.trans x0 y2
  clear y2
  have cp0 : (w2).cell? ⟨w.heap.size, 0, none⟩ = some (.int .i64 k) := by rw [cell_of_row _ _ _ _ _ _ rp.out]; rfl
  have cp1 : (w2).cell? ⟨w.heap.size, 1, none⟩ = some (.slice A0 U.length c0) := by rw [cell_of_row _ _ _ _ _ _ rp.out]; rfl
  have cp2 : (w2).cell? ⟨w.heap.size, 2, none⟩ = some (.slice B0 D.length d0) := by rw [cell_of_row _ _ _ _ _ _ rp.out]; rfl
  go_wp2_with fail
  clear cp0 cp1 cp2
  have hct := light_any _ ⟨k, U, D⟩ w2 hp
  rw [HLI.out] at hct
  refine hct.mono ?_
  rintro e w3 ⟨rfl, y3⟩
  clear hct
  have hp := hp.ext y3
  have rp := Lib.hid ((y3.block _ (Array.getElem?_eq_some_iff.1 rp.out).1).trans rp.out)
  have x0 := Ext.trans x0 y3
  clear y3
  have cp0 : (w3).cell? ⟨w.heap.size, 0, none⟩ = some (.int .i64 k) := by rw [cell_of_row _ _ _ _ _ _ rp.out]; rfl
  have cp1 : (w3).cell? ⟨w.heap.size, 1, none⟩ = some (.slice A0 U.length c0) := by rw [cell_of_row _ _ _ _ _ _ rp.out]; rfl
  have cp2 : (w3).cell? ⟨w.heap.size, 2, none⟩ = some (.slice B0 D.length d0) := by rw [cell_of_row _ _ _ _ _ _ rp.out]; rfl
  go_wp2_with fail
  clear cp0 cp1 cp2
  have hct := plan_any _ ⟨k, U, D⟩ w3 hp (by dsimp only; omega) (by dsimp only; omega)
  refine hct.mono ?_
  rintro e w4 ⟨_, rfl, ⟨A5, c5, B5, d5, rfl, da, db⟩, y4⟩
  clear hct
  simp only at da db ⊢
  have hp := hp.ext y4
  have rp := Lib.hid ((y4.block _ (Array.getElem?_eq_some_iff.1 rp.out).1).trans rp.out)
  have x0 := Ext.trans x0 y4
  clear y4
  go_wp2_with fail
  have hct := back_any _ ⟨k, U, D⟩ w4 ⟨A5, c5, B5, d5, rfl, da, db⟩ (by dsimp only; omega) (by dsimp only; omega)
  rw [HB.out] at hct
  refine hct.mono ?_
  rintro e w5 ⟨_, rfl, ⟨A6, c6, B6, d6, rfl, ea, eb⟩, y5⟩
  clear hct
  simp only at ea eb ⊢
  have da := da.below y5
  have db := db.below y5
  have hp := hp.ext y5
  have rp := Lib.hid ((y5.block _ (Array.getElem?_eq_some_iff.1 rp.out).1).trans rp.out)
  have x0 := Ext.trans x0 y5
  clear y5
  clear da db
  have hq : IsPlan w5 (.agg #[.int .i64 k, .slice A6 D.length c6, .slice B6 U.length d6]) ⟨k, D, U⟩ := ⟨A6, c6, B6, d6, rfl, ea, eb⟩
  clear ea eb
  have y6 := Ext.alloc w5 (.cells #[.int .i64 k, .slice A6 D.length c6, .slice B6 U.length d6] 25)
  have rq := Lib.hid (heap_alloc_new w5 (.cells #[.int .i64 k, .slice A6 D.length c6, .slice B6 U.length d6] 25))
  have hp := hp.ext y6
  have hq := hq.ext y6
  have rp := Lib.hid ((y6.block _ (Array.getElem?_eq_some_iff.1 rp.out).1).trans rp.out)
  have x0 := Ext.trans x0 y6
  have cp0 : ((w5.alloc (.cells #[.int .i64 k, .slice A6 D.length c6, .slice B6 U.length d6] 25))).cell? ⟨w.heap.size, 0, none⟩ = some (.int .i64 k) := by rw [cell_of_row _ _ _ _ _ _ rp.out]; rfl
  have cp1 : ((w5.alloc (.cells #[.int .i64 k, .slice A6 D.length c6, .slice B6 U.length d6] 25))).cell? ⟨w.heap.size, 1, none⟩ = some (.slice A0 U.length c0) := by rw [cell_of_row _ _ _ _ _ _ rp.out]; rfl
  have cp2 : ((w5.alloc (.cells #[.int .i64 k, .slice A6 D.length c6, .slice B6 U.length d6] 25))).cell? ⟨w.heap.size, 2, none⟩ = some (.slice B0 D.length d0) := by rw [cell_of_row _ _ _ _ _ _ rp.out]; rfl
  clear y6
  go_wp2_with fail
  clear cp0 cp1 cp2
  generalize w5.alloc (.cells #[.int .i64 k, .slice A6 D.length c6, .slice B6 U.length d6] 25) = w6 at *
  have hct := check_any _ ⟨k, U, D⟩ w6 hp (by dsimp only; omega) (by dsimp only; omega)
  rw [HC.out] at hct
  refine hct.mono ?_
  rintro e w7 ⟨rfl, y7⟩
  clear hct
  have hp := hp.ext y7
  have hq := hq.ext y7
  have rp := Lib.hid ((y7.block _ (Array.getElem?_eq_some_iff.1 rp.out).1).trans rp.out)
  have rq := Lib.hid ((y7.block _ (Array.getElem?_eq_some_iff.1 rq.out).1).trans rq.out)
  have x0 := Ext.trans x0 y7
  clear y7
  have cq0 : (w7).cell? ⟨w5.heap.size, 0, none⟩ = some (.int .i64 k) := by rw [cell_of_row _ _ _ _ _ _ rq.out]; rfl
  have cq1 : (w7).cell? ⟨w5.heap.size, 1, none⟩ = some (.slice A6 D.length c6) := by rw [cell_of_row _ _ _ _ _ _ rq.out]; rfl
  have cq2 : (w7).cell? ⟨w5.heap.size, 2, none⟩ = some (.slice B6 U.length d6) := by rw [cell_of_row _ _ _ _ _ _ rq.out]; rfl
  go_wp2_with fail
  clear cq0 cq1 cq2
  have hct := back_any _ ⟨k, D, U⟩ w7 hq (by dsimp only; omega) (by dsimp only; omega)
  rw [HB2.out] at hct
  refine hct.mono ?_
  rintro e w8 ⟨_, rfl, ⟨A8, c8, B8, d8, rfl, ea, eb⟩, y8⟩
  clear hct
  simp only at ea eb ⊢
  have hp := hp.ext y8
  have hq := hq.ext y8
  have rp := Lib.hid ((y8.block _ (Array.getElem?_eq_some_iff.1 rp.out).1).trans rp.out)
  have rq := Lib.hid ((y8.block _ (Array.getElem?_eq_some_iff.1 rq.out).1).trans rq.out)
  have x0 := Ext.trans x0 y8
  clear y8
  have hr : IsPlan w8 (.agg #[.int .i64 k, .slice A8 U.length c8, .slice B8 D.length d8]) ⟨k, U, D⟩ := ⟨A8, c8, B8, d8, rfl, ea, eb⟩
  clear ea eb
  have y9 := Ext.alloc w8 (.cells #[.int .i64 k, .slice A8 U.length c8, .slice B8 D.length d8] 25)
  have rr := Lib.hid (heap_alloc_new w8 (.cells #[.int .i64 k, .slice A8 U.length c8, .slice B8 D.length d8] 25))
  have hp := hp.ext y9
  have hq := hq.ext y9
  have hr := hr.ext y9
  have rp := Lib.hid ((y9.block _ (Array.getElem?_eq_some_iff.1 rp.out).1).trans rp.out)
  have rq := Lib.hid ((y9.block _ (Array.getElem?_eq_some_iff.1 rq.out).1).trans rq.out)
  have x0 := Ext.trans x0 y9
  clear y9
  go_wp2_with fail
  generalize w8.alloc (.cells #[.int .i64 k, .slice A8 U.length c8, .slice B8 D.length d8] 25) = w9 at *
  have hct := oncelaw_any Z cz z w9 (Sl.below hZ x0) (by omega) hzr
  refine hct.mono ?_
  rintro e w10 ⟨_, rfl, ho, y10⟩
  clear hct
  obtain ⟨A10, c10, rfl, hi, _⟩ := Sl.of_own ho
  clear ho
  have hp := hp.ext y10
  have hq := hq.ext y10
  have hr := hr.ext y10
  have rp := Lib.hid ((y10.block _ (Array.getElem?_eq_some_iff.1 rp.out).1).trans rp.out)
  have rq := Lib.hid ((y10.block _ (Array.getElem?_eq_some_iff.1 rq.out).1).trans rq.out)
  have rr := Lib.hid ((y10.block _ (Array.getElem?_eq_some_iff.1 rr.out).1).trans rr.out)
  have x0 := Ext.trans x0 y10
  clear y10
  go_wp2_with fail
  have hct := names_lit (onceI z) L HN.out A10 c10 _ w10 rfl hi (by have := HO.out; omega)
  refine hct.mono ?_
  rintro e w11 ⟨_, rfl, ⟨A11, c11, rfl, dl⟩, y11⟩
  clear hct
  clear hi
  have hp := hp.ext y11
  have hq := hq.ext y11
  have hr := hr.ext y11
  have rp := Lib.hid ((y11.block _ (Array.getElem?_eq_some_iff.1 rp.out).1).trans rp.out)
  have rq := Lib.hid ((y11.block _ (Array.getElem?_eq_some_iff.1 rq.out).1).trans rq.out)
  have rr := Lib.hid ((y11.block _ (Array.getElem?_eq_some_iff.1 rr.out).1).trans rr.out)
  have x0 := Ext.trans x0 y11
  clear y11
  have cp0 : (w11).cell? ⟨w.heap.size, 0, none⟩ = some (.int .i64 k) := by rw [cell_of_row _ _ _ _ _ _ rp.out]; rfl
  have cp1 : (w11).cell? ⟨w.heap.size, 1, none⟩ = some (.slice A0 U.length c0) := by rw [cell_of_row _ _ _ _ _ _ rp.out]; rfl
  have cp2 : (w11).cell? ⟨w.heap.size, 2, none⟩ = some (.slice B0 D.length d0) := by rw [cell_of_row _ _ _ _ _ _ rp.out]; rfl
  go_wp2_with fail
  clear cp0 cp1 cp2
  have hct := plan_any _ ⟨k, U, D⟩ w11 hp (by dsimp only; omega) (by dsimp only; omega)
  refine hct.mono ?_
  rintro e w12 ⟨_, rfl, ⟨A12, c12, B12, d12, rfl, da, db⟩, y12⟩
  clear hct
  simp only at da db ⊢
  have dl := dl.below y12
  have hp := hp.ext y12
  have hq := hq.ext y12
  have hr := hr.ext y12
  have rp := Lib.hid ((y12.block _ (Array.getElem?_eq_some_iff.1 rp.out).1).trans rp.out)
  have rq := Lib.hid ((y12.block _ (Array.getElem?_eq_some_iff.1 rq.out).1).trans rq.out)
  have rr := Lib.hid ((y12.block _ (Array.getElem?_eq_some_iff.1 rr.out).1).trans rr.out)
  have x0 := Ext.trans x0 y12
  clear y12
  go_wp2_with fail
  have hct := kitnames_any A11 c11 L w12 dl (by omega)
  refine hct.mono ?_
  rintro e w13 ⟨_, rfl, ho, y13⟩
  clear hct
  obtain ⟨A13, c13, rfl, hi, _⟩ := Sl.of_own ho
  have dn : Ds w13 A13 c13 L := ⟨hi, dl.ok⟩
  clear ho hi
  have dl := dl.below y13
  have da := da.below y13
  have db := db.below y13
  have hp := hp.ext y13
  have hq := hq.ext y13
  have hr := hr.ext y13
  have rp := Lib.hid ((y13.block _ (Array.getElem?_eq_some_iff.1 rp.out).1).trans rp.out)
  have rq := Lib.hid ((y13.block _ (Array.getElem?_eq_some_iff.1 rq.out).1).trans rq.out)
  have rr := Lib.hid ((y13.block _ (Array.getElem?_eq_some_iff.1 rr.out).1).trans rr.out)
  have x0 := Ext.trans x0 y13
  clear y13
  go_wp2_with fail
  have hct := apply_any _ ⟨k, U, D⟩ A13 c13 L w13 ⟨A12, c12, B12, d12, rfl, da, db⟩ dn (by dsimp only; omega) (by dsimp only; omega) (by omega)
  rw [HAP.out] at hct
  refine hct.mono ?_
  rintro e w14 ⟨_, rfl, ⟨A14, c14, rfl, ds⟩, y14⟩
  clear hct
  simp only [List.length_nil] at ds ⊢
  have dl := dl.below y14
  have da := da.below y14
  have db := db.below y14
  have dn := dn.below y14
  have hp := hp.ext y14
  have hq := hq.ext y14
  have hr := hr.ext y14
  have rp := Lib.hid ((y14.block _ (Array.getElem?_eq_some_iff.1 rp.out).1).trans rp.out)
  have rq := Lib.hid ((y14.block _ (Array.getElem?_eq_some_iff.1 rq.out).1).trans rq.out)
  have rr := Lib.hid ((y14.block _ (Array.getElem?_eq_some_iff.1 rr.out).1).trans rr.out)
  have x0 := Ext.trans x0 y14
  clear y14
  clear da db dn
  have hf1 := HFIT.out
  have cp0 : (w14).cell? ⟨w.heap.size, 0, none⟩ = some (.int .i64 k) := by rw [cell_of_row _ _ _ _ _ _ rp.out]; rfl
  have cp1 : (w14).cell? ⟨w.heap.size, 1, none⟩ = some (.slice A0 U.length c0) := by rw [cell_of_row _ _ _ _ _ _ rp.out]; rfl
  have cp2 : (w14).cell? ⟨w.heap.size, 2, none⟩ = some (.slice B0 D.length d0) := by rw [cell_of_row _ _ _ _ _ _ rp.out]; rfl
  go_wp2_with fail
  clear cp0 cp1 cp2
  have rowp : ∀ u, Ext w14 u → u.heap[w.heap.size]? = some (.cells #[.int .i64 k, .slice A0 U.length c0, .slice B0 D.length d0] 25 (0, 0)) := fun u hu => (hu.block _ (Array.getElem?_eq_some_iff.1 rp.out).1).trans rp.out
  have mp0 : ∀ u, Ext w14 u → u.cell? ⟨w.heap.size, 0, none⟩ = some (.int .i64 k) := fun u hu => by rw [cell_of_row _ _ _ _ _ _ (rowp u hu)]; rfl
  have mp1 : ∀ u, Ext w14 u → u.cell? ⟨w.heap.size, 1, none⟩ = some (.slice A0 U.length c0) := fun u hu => by rw [cell_of_row _ _ _ _ _ _ (rowp u hu)]; rfl
  have mp2 : ∀ u, Ext w14 u → u.cell? ⟨w.heap.size, 2, none⟩ = some (.slice B0 D.length d0) := fun u hu => by rw [cell_of_row _ _ _ _ _ _ (rowp u hu)]; rfl
  have rowq : ∀ u, Ext w14 u → u.heap[w5.heap.size]? = some (.cells #[.int .i64 k, .slice A6 D.length c6, .slice B6 U.length d6] 25 (0, 0)) := fun u hu => (hu.block _ (Array.getElem?_eq_some_iff.1 rq.out).1).trans rq.out
  have mq0 : ∀ u, Ext w14 u → u.cell? ⟨w5.heap.size, 0, none⟩ = some (.int .i64 k) := fun u hu => by rw [cell_of_row _ _ _ _ _ _ (rowq u hu)]; rfl
  have mq1 : ∀ u, Ext w14 u → u.cell? ⟨w5.heap.size, 1, none⟩ = some (.slice A6 D.length c6) := fun u hu => by rw [cell_of_row _ _ _ _ _ _ (rowq u hu)]; rfl
  have mq2 : ∀ u, Ext w14 u → u.cell? ⟨w5.heap.size, 2, none⟩ = some (.slice B6 U.length d6) := fun u hu => by rw [cell_of_row _ _ _ _ _ _ (rowq u hu)]; rfl
  have rowr : ∀ u, Ext w14 u → u.heap[w8.heap.size]? = some (.cells #[.int .i64 k, .slice A8 U.length c8, .slice B8 D.length d8] 25 (0, 0)) := fun u hu => (hu.block _ (Array.getElem?_eq_some_iff.1 rr.out).1).trans rr.out
  have mr0 : ∀ u, Ext w14 u → u.cell? ⟨w8.heap.size, 0, none⟩ = some (.int .i64 k) := fun u hu => by rw [cell_of_row _ _ _ _ _ _ (rowr u hu)]; rfl
  have mr1 : ∀ u, Ext w14 u → u.cell? ⟨w8.heap.size, 1, none⟩ = some (.slice A8 U.length c8) := fun u hu => by rw [cell_of_row _ _ _ _ _ _ (rowr u hu)]; rfl
  have mr2 : ∀ u, Ext w14 u → u.cell? ⟨w8.heap.size, 2, none⟩ = some (.slice B8 D.length d8) := fun u hu => by rw [cell_of_row _ _ _ _ _ _ (rowr u hu)]; rfl
  refine wp_region_layt [Fact.val (.int .i64 (0)), Fact.val (.bool false), Fact.val (.bool false), Fact.val (.agg #[.int .i64 k, .slice A8 U.length c8, .slice B8 D.length d8]), Fact.val (.agg #[.int .i64 k, .slice A0 U.length c0, .slice B0 D.length d0]), Fact.val (.bool true), Fact.val (.bool false), Fact.val (.bool false), Fact.val (.bool false), Fact.val (.agg #[.int .i64 k, .slice A6 D.length c6, .slice B6 U.length d6]), Fact.val (.int .i64 (D.length : Nat)), Fact.val (.pointer (some ⟨w.heap.size, 2, none⟩)), Fact.val (.slice B0 D.length d0), Fact.val (.int .i64 (D.length : Nat)), Fact.val (.bool false), Fact.val (.bool false), Fact.val (.bool false), Fact.val (.agg #[.int .i64 k, .slice A0 U.length c0, .slice B0 D.length d0]), Fact.val (.int .i64 s), Fact.val (.bool false), Fact.val (.pointer (some ⟨w.heap.size, 0, none⟩)), Fact.val (.int .i64 k), Fact.val (.int .i64 s), Fact.val (.bool false), Fact.val (.bool false), Fact.val (.bool false), Fact.val (.bool false), Fact.val (.agg #[.int .i64 k, .slice A6 D.length c6, .slice B6 U.length d6]), Fact.val (.int .i64 s), Fact.val (.bool false), Fact.val (.agg #[.int .i64 k, .slice A0 U.length c0, .slice B0 D.length d0]), Fact.val (.int .i64 s), Fact.val (.bool false), Fact.val (.bool false), Fact.val (.bool false), Fact.val (.bool false), Fact.val (.bool false), Fact.val (.bool true), Fact.val (.bool true), Fact.val (.int .i64 (4)), Fact.val (.bool false), Fact.val (.bool false), Fact.val (.bool false)] (w14) _ 43 (by kernel_rfl) (by kernel_rfl) (by kernel_rfl) (by kernel_rfl) (by kernel_rfl) (by kernel_rfl) (Ext.refl _) ?_ ?_
  · refine ⟨?_, ?_, ?_, ?_, ?_, ?_, ?_, ?_, ?_, ?_, ?_, ?_, ?_, ?_, ?_, ?_, ?_, ?_, ?_, ?_, ?_, ?_, ?_, ?_, ?_, ?_, ?_, ?_, ?_, ?_, ?_, ?_, ?_, ?_, ?_, ?_, ?_, ?_, ?_, ?_, ?_, ?_, ?_, trivial⟩
    · intro a u hx hd hr
      rw [if_pos (wanted_none rfl)]
      exact Y_copy (.inl rfl) (hr 10 rfl)
    · intro a u hx hd hr
      rw [if_pos (wanted_none rfl)]
      have e85 : a.eval (.tmp 85) = .int .i64 (0) := hd 0 85 rfl rfl
      clear hd hr
      simp only [Act.eval, Array.getD_eq_getD_getElem?] at e85
      exact Y_val (v := .bool false) (by go_simp) rfl
    · intro a u hx hd hr
      rw [if_pos (wanted_none rfl)]
      exact Y_copy (.inl rfl) (hd 1 86 rfl rfl)
    · intro a u hx hd hr
      have eg : a.eval (.tmp 87) = .bool false := hd 2 87 rfl rfl
      rw [if_pos (by rw [wanted_some rfl rfl eg]; rfl)]
      have e9 : a.eval (.tmp 9) = .pointer (some ⟨w8.heap.size, 0, none⟩) := hr 9 rfl
      exact Y_load_row 25 (.tmp 9) rfl _ e9 _ _ _ _ (rowr _ hx) Try.underlying25 rfl (by kernel_rfl) rfl
    · intro a u hx hd hr
      have eg : a.eval (.tmp 87) = .bool false := hd 2 87 rfl rfl
      rw [if_pos (by rw [wanted_some rfl rfl eg]; rfl)]
      have e3 : a.eval (.tmp 3) = .pointer (some ⟨w.heap.size, 0, none⟩) := hr 3 rfl
      exact Y_load_row 25 (.tmp 3) rfl _ e3 _ _ _ _ (rowp _ hx) Try.underlying25 rfl (by kernel_rfl) rfl
    · intro a u hx hd hr
      have eg : a.eval (.tmp 87) = .bool false := hd 2 87 rfl rfl
      rw [if_pos (by rw [wanted_some rfl rfl eg]; rfl)]
      have e88 : a.eval (.tmp 88) = .agg #[.int .i64 k, .slice A8 U.length c8, .slice B8 D.length d8] := hd 3 88 rfl rfl
      have e89 : a.eval (.tmp 89) = .agg #[.int .i64 k, .slice A0 U.length c0, .slice B0 D.length d0] := hd 4 89 rfl rfl
      clear hd hr
      refine Y_calls (f := 16) (args := #[(a.eval (.tmp 88)), (a.eval (.tmp 89))]) (by go_simp) ?_
      rw [e88, e89]
      exact (kitplan_s _ (⟨k, U, D⟩) _ (⟨k, U, D⟩) _ (hr.ext hx) (hp.ext hx)).mono fun e u2 k => ⟨_, k.1.trans (by rw [HR.out]), rfl, k.2⟩
    · intro a u hx hd hr
      have eg : a.eval (.tmp 87) = .bool false := hd 2 87 rfl rfl
      rw [if_pos (by rw [wanted_some rfl rfl eg]; rfl)]
      have e90 : a.eval (.tmp 90) = .bool true := hd 5 90 rfl rfl
      clear hd hr
      simp only [Act.eval, Array.getD_eq_getD_getElem?] at e90
      exact Y_val (v := .bool false) (by go_simp) rfl
    · intro a u hx hd hr
      rw [if_pos (wanted_none rfl)]
      have e87 : a.eval (.tmp 87) = .bool false := hd 2 87 rfl rfl
      exact Y_pick rfl e87 (hd 6 91 rfl rfl)
    · intro a u hx hd hr
      rw [if_pos (wanted_none rfl)]
      exact Y_copy (.inl rfl) (hd 7 92 rfl rfl)
    · intro a u hx hd hr
      have eg : a.eval (.tmp 93) = .bool false := hd 8 93 rfl rfl
      rw [if_pos (by rw [wanted_some rfl rfl eg]; rfl)]
      have e7 : a.eval (.tmp 7) = .pointer (some ⟨w5.heap.size, 0, none⟩) := hr 7 rfl
      exact Y_load_row 25 (.tmp 7) rfl _ e7 _ _ _ _ (rowq _ hx) Try.underlying25 rfl (by kernel_rfl) rfl
    · intro a u hx hd hr
      have eg : a.eval (.tmp 93) = .bool false := hd 8 93 rfl rfl
      rw [if_pos (by rw [wanted_some rfl rfl eg]; rfl)]
      have e94 : a.eval (.tmp 94) = .agg #[.int .i64 k, .slice A6 D.length c6, .slice B6 U.length d6] := hd 9 94 rfl rfl
      clear hd hr
      refine Y_calls (f := 18) (args := #[(a.eval (.tmp 94))]) (by go_simp) ?_
      rw [e94]
      exact (depth_s _ (⟨k, D, U⟩) _ (hq.ext hx) (by first | omega | (dsimp only; omega) | (simp; done) | (simp; omega)) (by first | omega | (dsimp only; omega) | (simp; done) | (simp; omega))).mono fun e u2 k => ⟨_, k.1.trans (by rw [HD2.out]), rfl, k.2⟩
    · intro a u hx hd hr
      have eg : a.eval (.tmp 93) = .bool false := hd 8 93 rfl rfl
      rw [if_pos (by rw [wanted_some rfl rfl eg]; rfl)]
      have e3 : a.eval (.tmp 3) = .pointer (some ⟨w.heap.size, 0, none⟩) := hr 3 rfl
      clear hd hr
      simp only [Act.eval, Array.getD_eq_getD_getElem?] at e3
      exact Y_val (v := .pointer (some ⟨w.heap.size, 2, none⟩)) (by go_simp) rfl
    · intro a u hx hd hr
      have eg : a.eval (.tmp 93) = .bool false := hd 8 93 rfl rfl
      rw [if_pos (by rw [wanted_some rfl rfl eg]; rfl)]
      have e96 : a.eval (.tmp 96) = .pointer (some ⟨w.heap.size, 2, none⟩) := hd 11 96 rfl rfl
      have ec := mp2 _ hx
      clear hd hr
      simp only [Act.eval, Array.getD_eq_getD_getElem?] at e96
      exact Y_val (v := .slice B0 D.length d0) (by go_simp) rfl
    · intro a u hx hd hr
      have eg : a.eval (.tmp 93) = .bool false := hd 8 93 rfl rfl
      rw [if_pos (by rw [wanted_some rfl rfl eg]; rfl)]
      have e97 : a.eval (.tmp 97) = .slice B0 D.length d0 := hd 12 97 rfl rfl
      clear hd hr
      simp only [Act.eval, Array.getD_eq_getD_getElem?] at e97
      exact Y_val (v := .int .i64 (D.length : Nat)) (by go_simp) rfl
    · intro a u hx hd hr
      have eg : a.eval (.tmp 93) = .bool false := hd 8 93 rfl rfl
      rw [if_pos (by rw [wanted_some rfl rfl eg]; rfl)]
      have e95 : a.eval (.tmp 95) = .int .i64 (D.length : Nat) := hd 10 95 rfl rfl
      have e98 : a.eval (.tmp 98) = .int .i64 (D.length : Nat) := hd 13 98 rfl rfl
      clear hd hr
      simp only [Act.eval, Array.getD_eq_getD_getElem?] at e95 e98
      exact Y_val (v := .bool false) (by go_simp) rfl
    · intro a u hx hd hr
      rw [if_pos (wanted_none rfl)]
      have e93 : a.eval (.tmp 93) = .bool false := hd 8 93 rfl rfl
      exact Y_pick rfl e93 (hd 14 99 rfl rfl)
    · intro a u hx hd hr
      rw [if_pos (wanted_none rfl)]
      exact Y_copy (.inl rfl) (hd 15 100 rfl rfl)
    · intro a u hx hd hr
      have eg : a.eval (.tmp 101) = .bool false := hd 16 101 rfl rfl
      rw [if_pos (by rw [wanted_some rfl rfl eg]; rfl)]
      have e3 : a.eval (.tmp 3) = .pointer (some ⟨w.heap.size, 0, none⟩) := hr 3 rfl
      exact Y_load_row 25 (.tmp 3) rfl _ e3 _ _ _ _ (rowp _ hx) Try.underlying25 rfl (by kernel_rfl) rfl
    · intro a u hx hd hr
      have eg : a.eval (.tmp 101) = .bool false := hd 16 101 rfl rfl
      rw [if_pos (by rw [wanted_some rfl rfl eg]; rfl)]
      exact Y_copy (.inl rfl) (hr 1 rfl)
    · intro a u hx hd hr
      have eg : a.eval (.tmp 101) = .bool false := hd 16 101 rfl rfl
      rw [if_pos (by rw [wanted_some rfl rfl eg]; rfl)]
      have e102 : a.eval (.tmp 102) = .agg #[.int .i64 k, .slice A0 U.length c0, .slice B0 D.length d0] := hd 17 102 rfl rfl
      have e103 : a.eval (.tmp 103) = .int .i64 s := hd 18 103 rfl rfl
      clear hd hr
      refine Y_calls (f := 21) (args := #[(a.eval (.tmp 102)), (a.eval (.tmp 103))]) (by go_simp) ?_
      rw [e102, e103]
      exact (spares_s _ (⟨k, U, D⟩) s _ (hp.ext hx) (by first | omega | (dsimp only; omega) | (simp; done) | (simp; omega)) (by first | omega | (dsimp only; omega) | (simp; done) | (simp; omega))).mono fun e u2 k => ⟨_, k.1.trans (by rw [HS.out]), rfl, k.2⟩
    · intro a u hx hd hr
      have eg : a.eval (.tmp 101) = .bool false := hd 16 101 rfl rfl
      rw [if_pos (by rw [wanted_some rfl rfl eg]; rfl)]
      have e3 : a.eval (.tmp 3) = .pointer (some ⟨w.heap.size, 0, none⟩) := hr 3 rfl
      clear hd hr
      simp only [Act.eval, Array.getD_eq_getD_getElem?] at e3
      exact Y_val (v := .pointer (some ⟨w.heap.size, 0, none⟩)) (by go_simp) rfl
    · intro a u hx hd hr
      have eg : a.eval (.tmp 101) = .bool false := hd 16 101 rfl rfl
      rw [if_pos (by rw [wanted_some rfl rfl eg]; rfl)]
      have e105 : a.eval (.tmp 105) = .pointer (some ⟨w.heap.size, 0, none⟩) := hd 20 105 rfl rfl
      have ec := mp0 _ hx
      clear hd hr
      simp only [Act.eval, Array.getD_eq_getD_getElem?] at e105
      exact Y_val (v := .int .i64 k) (by go_simp) rfl
    · intro a u hx hd hr
      have eg : a.eval (.tmp 101) = .bool false := hd 16 101 rfl rfl
      rw [if_pos (by rw [wanted_some rfl rfl eg]; rfl)]
      exact Y_copy (.inl rfl) (hr 1 rfl)
    · intro a u hx hd hr
      have eg : a.eval (.tmp 101) = .bool false := hd 16 101 rfl rfl
      rw [if_pos (by rw [wanted_some rfl rfl eg]; rfl)]
      have e106 : a.eval (.tmp 106) = .int .i64 k := hd 21 106 rfl rfl
      have e107 : a.eval (.tmp 107) = .int .i64 s := hd 22 107 rfl rfl
      clear hd hr
      simp only [Act.eval, Array.getD_eq_getD_getElem?] at e106 e107
      exact Y_val (v := .bool false) (by have := HSS.out; go_simp <;> omega) rfl
    · intro a u hx hd hr
      have eg : a.eval (.tmp 101) = .bool false := hd 16 101 rfl rfl
      rw [if_pos (by rw [wanted_some rfl rfl eg]; rfl)]
      have e104 : a.eval (.tmp 104) = .bool false := hd 19 104 rfl rfl
      have e108 : a.eval (.tmp 108) = .bool false := hd 23 108 rfl rfl
      clear hd hr
      simp only [Act.eval, Array.getD_eq_getD_getElem?] at e104 e108
      exact Y_val (v := .bool false) (by go_simp) rfl
    · intro a u hx hd hr
      rw [if_pos (wanted_none rfl)]
      have e101 : a.eval (.tmp 101) = .bool false := hd 16 101 rfl rfl
      exact Y_pick rfl e101 (hd 24 109 rfl rfl)
    · intro a u hx hd hr
      rw [if_pos (wanted_none rfl)]
      exact Y_copy (.inl rfl) (hd 25 110 rfl rfl)
    · intro a u hx hd hr
      have eg : a.eval (.tmp 111) = .bool false := hd 26 111 rfl rfl
      rw [if_pos (by rw [wanted_some rfl rfl eg]; rfl)]
      have e7 : a.eval (.tmp 7) = .pointer (some ⟨w5.heap.size, 0, none⟩) := hr 7 rfl
      exact Y_load_row 25 (.tmp 7) rfl _ e7 _ _ _ _ (rowq _ hx) Try.underlying25 rfl (by kernel_rfl) rfl
    · intro a u hx hd hr
      have eg : a.eval (.tmp 111) = .bool false := hd 26 111 rfl rfl
      rw [if_pos (by rw [wanted_some rfl rfl eg]; rfl)]
      exact Y_copy (.inl rfl) (hr 1 rfl)
    · intro a u hx hd hr
      have eg : a.eval (.tmp 111) = .bool false := hd 26 111 rfl rfl
      rw [if_pos (by rw [wanted_some rfl rfl eg]; rfl)]
      have e112 : a.eval (.tmp 112) = .agg #[.int .i64 k, .slice A6 D.length c6, .slice B6 U.length d6] := hd 27 112 rfl rfl
      have e113 : a.eval (.tmp 113) = .int .i64 s := hd 28 113 rfl rfl
      clear hd hr
      refine Y_calls (f := 21) (args := #[(a.eval (.tmp 112)), (a.eval (.tmp 113))]) (by go_simp) ?_
      rw [e112, e113]
      exact (spares_s _ (⟨k, D, U⟩) s _ (hq.ext hx) (by first | omega | (dsimp only; omega) | (simp; done) | (simp; omega)) (by first | omega | (dsimp only; omega) | (simp; done) | (simp; omega))).mono fun e u2 k => ⟨_, k.1.trans (by rw [HS2.out]), rfl, k.2⟩
    · intro a u hx hd hr
      have eg : a.eval (.tmp 111) = .bool false := hd 26 111 rfl rfl
      rw [if_pos (by rw [wanted_some rfl rfl eg]; rfl)]
      have e3 : a.eval (.tmp 3) = .pointer (some ⟨w.heap.size, 0, none⟩) := hr 3 rfl
      exact Y_load_row 25 (.tmp 3) rfl _ e3 _ _ _ _ (rowp _ hx) Try.underlying25 rfl (by kernel_rfl) rfl
    · intro a u hx hd hr
      have eg : a.eval (.tmp 111) = .bool false := hd 26 111 rfl rfl
      rw [if_pos (by rw [wanted_some rfl rfl eg]; rfl)]
      exact Y_copy (.inl rfl) (hr 1 rfl)
    · intro a u hx hd hr
      have eg : a.eval (.tmp 111) = .bool false := hd 26 111 rfl rfl
      rw [if_pos (by rw [wanted_some rfl rfl eg]; rfl)]
      have e115 : a.eval (.tmp 115) = .agg #[.int .i64 k, .slice A0 U.length c0, .slice B0 D.length d0] := hd 30 115 rfl rfl
      have e116 : a.eval (.tmp 116) = .int .i64 s := hd 31 116 rfl rfl
      clear hd hr
      refine Y_calls (f := 21) (args := #[(a.eval (.tmp 115)), (a.eval (.tmp 116))]) (by go_simp) ?_
      rw [e115, e116]
      exact (spares_s _ (⟨k, U, D⟩) s _ (hp.ext hx) (by first | omega | (dsimp only; omega) | (simp; done) | (simp; omega)) (by first | omega | (dsimp only; omega) | (simp; done) | (simp; omega))).mono fun e u2 k => ⟨_, k.1.trans (by rw [HS.out]), rfl, k.2⟩
    · intro a u hx hd hr
      have eg : a.eval (.tmp 111) = .bool false := hd 26 111 rfl rfl
      rw [if_pos (by rw [wanted_some rfl rfl eg]; rfl)]
      have e114 : a.eval (.tmp 114) = .bool false := hd 29 114 rfl rfl
      have e117 : a.eval (.tmp 117) = .bool false := hd 32 117 rfl rfl
      clear hd hr
      simp only [Act.eval, Array.getD_eq_getD_getElem?] at e114 e117
      exact Y_val (v := .bool false) (by go_simp) rfl
    · intro a u hx hd hr
      rw [if_pos (wanted_none rfl)]
      have e111 : a.eval (.tmp 111) = .bool false := hd 26 111 rfl rfl
      exact Y_pick rfl e111 (hd 33 118 rfl rfl)
    · intro a u hx hd hr
      rw [if_pos (wanted_none rfl)]
      exact Y_copy (.inl rfl) (hd 34 119 rfl rfl)
    · intro a u hx hd hr
      have eg : a.eval (.tmp 120) = .bool false := hd 35 120 rfl rfl
      rw [if_pos (by rw [wanted_some rfl rfl eg]; rfl)]
      exact Y_copy (.inl rfl) (hr 14 rfl)
    · intro a u hx hd hr
      have eg : a.eval (.tmp 120) = .bool false := hd 35 120 rfl rfl
      rw [if_pos (by rw [wanted_some rfl rfl eg]; rfl)]
      have e121 : a.eval (.tmp 121) = .bool false := hd 36 121 rfl rfl
      clear hd hr
      simp only [Act.eval, Array.getD_eq_getD_getElem?] at e121
      exact Y_val (v := .bool true) (by go_simp) rfl
    · intro a u hx hd hr
      have eg : a.eval (.tmp 120) = .bool false := hd 35 120 rfl rfl
      rw [if_pos (by rw [wanted_some rfl rfl eg]; rfl)]
      exact Y_copy (.inl rfl) (hd 37 122 rfl rfl)
    · intro a u hx hd hr
      have eg : a.eval (.tmp 123) = .bool true := hd 38 123 rfl rfl
      rw [if_pos (by rw [wanted_some rfl rfl eg]; rfl)]
      exact Y_copy (.inl rfl) (hr 13 rfl)
    · intro a u hx hd hr
      have eg : a.eval (.tmp 123) = .bool true := hd 38 123 rfl rfl
      rw [if_pos (by rw [wanted_some rfl rfl eg]; rfl)]
      have e124 : a.eval (.tmp 124) = .int .i64 (4) := hd 39 124 rfl rfl
      clear hd hr
      simp only [Act.eval, Array.getD_eq_getD_getElem?] at e124
      exact Y_val (v := .bool false) (by go_simp) rfl
    · intro a u hx hd hr
      have eg : a.eval (.tmp 120) = .bool false := hd 35 120 rfl rfl
      rw [if_pos (by rw [wanted_some rfl rfl eg]; rfl)]
      have e123 : a.eval (.tmp 123) = .bool true := hd 38 123 rfl rfl
      exact Y_pick rfl e123 (hd 40 125 rfl rfl)
    · intro a u hx hd hr
      rw [if_pos (wanted_none rfl)]
      have e120 : a.eval (.tmp 120) = .bool false := hd 35 120 rfl rfl
      exact Y_pick rfl e120 (hd 41 126 rfl rfl)
  intro f w15 hwq hF
  have f0 : f 0 = .int .i64 (0) := hF 0 85 (by decide) rfl
  have f1 : f 1 = .bool false := hF 1 86 (by decide) rfl
  have f2 : f 2 = .bool false := hF 2 87 (by decide) rfl
  have f3 : f 3 = .agg #[.int .i64 k, .slice A8 U.length c8, .slice B8 D.length d8] := hF 3 88 (by decide) rfl
  have f4 : f 4 = .agg #[.int .i64 k, .slice A0 U.length c0, .slice B0 D.length d0] := hF 4 89 (by decide) rfl
  have f5 : f 5 = .bool true := hF 5 90 (by decide) rfl
  have f6 : f 6 = .bool false := hF 6 91 (by decide) rfl
  have f7 : f 7 = .bool false := hF 7 92 (by decide) rfl
  have f8 : f 8 = .bool false := hF 8 93 (by decide) rfl
  have f9 : f 9 = .agg #[.int .i64 k, .slice A6 D.length c6, .slice B6 U.length d6] := hF 9 94 (by decide) rfl
  have f10 : f 10 = .int .i64 (D.length : Nat) := hF 10 95 (by decide) rfl
  have f11 : f 11 = .pointer (some ⟨w.heap.size, 2, none⟩) := hF 11 96 (by decide) rfl
  have f12 : f 12 = .slice B0 D.length d0 := hF 12 97 (by decide) rfl
  have f13 : f 13 = .int .i64 (D.length : Nat) := hF 13 98 (by decide) rfl
  have f14 : f 14 = .bool false := hF 14 99 (by decide) rfl
  have f15 : f 15 = .bool false := hF 15 100 (by decide) rfl
  have f16 : f 16 = .bool false := hF 16 101 (by decide) rfl
  have f17 : f 17 = .agg #[.int .i64 k, .slice A0 U.length c0, .slice B0 D.length d0] := hF 17 102 (by decide) rfl
  have f18 : f 18 = .int .i64 s := hF 18 103 (by decide) rfl
  have f19 : f 19 = .bool false := hF 19 104 (by decide) rfl
  have f20 : f 20 = .pointer (some ⟨w.heap.size, 0, none⟩) := hF 20 105 (by decide) rfl
  have f21 : f 21 = .int .i64 k := hF 21 106 (by decide) rfl
  have f22 : f 22 = .int .i64 s := hF 22 107 (by decide) rfl
  have f23 : f 23 = .bool false := hF 23 108 (by decide) rfl
  have f24 : f 24 = .bool false := hF 24 109 (by decide) rfl
  have f25 : f 25 = .bool false := hF 25 110 (by decide) rfl
  have f26 : f 26 = .bool false := hF 26 111 (by decide) rfl
  have f27 : f 27 = .agg #[.int .i64 k, .slice A6 D.length c6, .slice B6 U.length d6] := hF 27 112 (by decide) rfl
  have f28 : f 28 = .int .i64 s := hF 28 113 (by decide) rfl
  have f29 : f 29 = .bool false := hF 29 114 (by decide) rfl
  have f30 : f 30 = .agg #[.int .i64 k, .slice A0 U.length c0, .slice B0 D.length d0] := hF 30 115 (by decide) rfl
  have f31 : f 31 = .int .i64 s := hF 31 116 (by decide) rfl
  have f32 : f 32 = .bool false := hF 32 117 (by decide) rfl
  have f33 : f 33 = .bool false := hF 33 118 (by decide) rfl
  have f34 : f 34 = .bool false := hF 34 119 (by decide) rfl
  have f35 : f 35 = .bool false := hF 35 120 (by decide) rfl
  have f36 : f 36 = .bool false := hF 36 121 (by decide) rfl
  have f37 : f 37 = .bool true := hF 37 122 (by decide) rfl
  have f38 : f 38 = .bool true := hF 38 123 (by decide) rfl
  have f39 : f 39 = .int .i64 (4) := hF 39 124 (by decide) rfl
  have f40 : f 40 = .bool false := hF 40 125 (by decide) rfl
  have f41 : f 41 = .bool false := hF 41 126 (by decide) rfl
  have f42 : f 42 = .bool false := hF 42 127 (by decide) rfl
  clear hF
  simp only [List.take_succ_cons, List.take_zero, List.drop_succ_cons, List.drop_zero, puts, Act.put, List.setIfInBounds_toArray, List.set_cons_succ, List.set_cons_zero, Nat.zero_add, Nat.reduceAdd, f0, f1, f2, f3, f4, f5, f6, f7, f8, f9, f10, f11, f12, f13, f14, f15, f16, f17, f18, f19, f20, f21, f22, f23, f24, f25, f26, f27, f28, f29, f30, f31, f32, f33, f34, f35, f36, f37, f38, f39, f40, f41, f42]
  clear f0 f1 f2 f3 f4 f5 f6 f7 f8 f9 f10 f11 f12 f13 f14 f15 f16 f17 f18 f19 f20 f21 f22 f23 f24 f25 f26 f27 f28 f29 f30 f31 f32 f33 f34 f35 f36 f37 f38 f39 f40 f41 f42
  refine wpList_nil ?_
  clear rowp rowq rowr mp0 mp1 mp2 mq0 mq1 mq2 mr0 mr1 mr2
  have dl := dl.below hwq
  have ds := ds.below hwq
  have hp := hp.ext hwq
  have hq := hq.ext hwq
  have hr := hr.ext hwq
  have rp := Lib.hid ((hwq.block _ (Array.getElem?_eq_some_iff.1 rp.out).1).trans rp.out)
  have rq := Lib.hid ((hwq.block _ (Array.getElem?_eq_some_iff.1 rq.out).1).trans rq.out)
  have rr := Lib.hid ((hwq.block _ (Array.getElem?_eq_some_iff.1 rr.out).1).trans rr.out)
  have x0 := Ext.trans x0 hwq
  clear hwq
  go_wp2_with fail
  go_ret
  exact ⟨rfl, x0⟩

set_option maxRecDepth 100000 in
set_option maxHeartbeats 8000000 in
theorem turns_near0 (k : Int) (A0 : Option Addr) (c0 : Nat) (U : List (List UInt8)) (B0 : Option Addr) (d0 : Nat) (D : List (List UInt8)) (s : Int) (Z : Option Addr) (cz : Nat) (z : List Int) (w : World) (hA : Ds w A0 c0 U) (hB : Ds w B0 d0 D) (hZ : Is w Z cz z)
    (hzr : ∀ x ∈ z, -9223372036854775808 ≤ x ∧ x ≤ 9223372036854775807)
    (hli : (decide (U.length ≤ 40) && decide (D.length ≤ 40)) = true) (hz : z.length ≤ 40) (hc : checkP ⟨k, U, D⟩ = 0) (hs : k < s) (hkk : k ≤ 9223372036854775807) (L : List (List UInt8)) (hL : L = nameL z) (hap : applyP ⟨k, U, D⟩ L = ([], 4)) (hfit : k ≤ (L.length : Int)) (hfit2 : (L.length : Int) - k ≠ (U.length : Int)) :
    Calls Try.prog 4 #[.agg #[.int .i64 k, .slice A0 U.length c0, .slice B0 D.length d0], .int .i64 s, .slice Z z.length cz] w fun e w' => e = .returned (.bool true) ∧ Ext w w' := by
  have hu40 : U.length ≤ 40 := by simp at hli; omega
  have hd40 : D.length ≤ 40 := by simp at hli; omega
  have HLI : Hid ((decide ((⟨k, U, D⟩ : PV).u.length ≤ 40) && decide ((⟨k, U, D⟩ : PV).d.length ≤ 40)) = true) := Lib.hid hli
  have hzi : (z.length : Int) ≤ 40 := by omega
  clear hli
  have hk0 := (checkP_nonneg hc).1
  simp only at hk0
  have hLl : L.length ≤ 40 := by rw [hL]; exact Nat.le_trans (nameL_len z) hz
  have HB : Hid (backP ⟨k, U, D⟩ = (⟨k, D, U⟩, 0)) := Lib.hid (back_ok hc)
  have HB2 : Hid (backP ⟨k, D, U⟩ = (⟨k, U, D⟩, 0)) := Lib.hid (back_ok (check_back hc))
  have HD2 : Hid (depthP ⟨k, D, U⟩ = (D.length : Int)) := Lib.hid (by unfold depthP; rw [if_pos (check_back hc)])
  have HS : Hid (sparesP ⟨k, U, D⟩ s = false) := Lib.hid (by unfold sparesP; rw [hc]; simp; omega)
  have HS2 : Hid (sparesP ⟨k, D, U⟩ s = false) := Lib.hid (by have h := check_back hc; simp only at h; unfold sparesP; rw [h]; simp; omega)
  have HR := Lib.hid (samePV_refl ⟨k, U, D⟩)
  have HO := Lib.hid (onceI_ok z).2.2
  have HN : Hid (L = (onceI z).map nd) := Lib.hid hL
  have HAP := Lib.hid hap
  have HC := Lib.hid hc
  have HFIT := Lib.hid hfit
  have HSS := Lib.hid hs
  have hwr : IntKind.i64.wrap ((L.length : Int) - k) = (L.length : Int) - k := by rw [IntKind.wrap_i64]; omega
  have hne : ((L.length : Int) - k == (U.length : Int)) = false := by simp; omega
  clear hfit2
  clear hc hz hL hap hfit hs
  have x0 := Ext.refl w
  have hp : IsPlan w (.agg #[.int .i64 k, .slice A0 U.length c0, .slice B0 D.length d0]) ⟨k, U, D⟩ := ⟨A0, c0, B0, d0, rfl, hA, hB⟩
  clear hA hB
  go_enter Try.func4, Try.ntmps4
  have y1 := Ext.alloc w (.cells #[.int .i64 k, .slice A0 U.length c0, .slice B0 D.length d0] 25)
  have rp := Lib.hid (heap_alloc_new w (.cells #[.int .i64 k, .slice A0 U.length c0, .slice B0 D.length d0] 25))
  have hp := hp.ext y1
  have x0 := Ext.trans x0 y1
  clear y1
  go_wp2_with fail
  generalize w.alloc (.cells #[.int .i64 k, .slice A0 U.length c0, .slice B0 D.length d0] 25) = w1 at *
  have hct := lives_any w1
  refine hct.mono ?_
  rintro e w2 ⟨rfl, y2⟩
  clear hct
  have hp := hp.ext y2
  have rp := Lib.hid ((y2.block _ (Array.getElem?_eq_some_iff.1 rp.out).1).trans rp.out)
  have x0 := Ext.trans x0 y2
  clear y2
  have cp0 : (w2).cell? ⟨w.heap.size, 0, none⟩ = some (.int .i64 k) := by rw [cell_of_row _ _ _ _ _ _ rp.out]; rfl
  have cp1 : (w2).cell? ⟨w.heap.size, 1, none⟩ = some (.slice A0 U.length c0) := by rw [cell_of_row _ _ _ _ _ _ rp.out]; rfl
  have cp2 : (w2).cell? ⟨w.heap.size, 2, none⟩ = some (.slice B0 D.length d0) := by rw [cell_of_row _ _ _ _ _ _ rp.out]; rfl
  go_wp2_with fail
  clear cp0 cp1 cp2
  have hct := light_any _ ⟨k, U, D⟩ w2 hp
  rw [HLI.out] at hct
  refine hct.mono ?_
  rintro e w3 ⟨rfl, y3⟩
  clear hct
  have hp := hp.ext y3
  have rp := Lib.hid ((y3.block _ (Array.getElem?_eq_some_iff.1 rp.out).1).trans rp.out)
  have x0 := Ext.trans x0 y3
  clear y3
  have cp0 : (w3).cell? ⟨w.heap.size, 0, none⟩ = some (.int .i64 k) := by rw [cell_of_row _ _ _ _ _ _ rp.out]; rfl
  have cp1 : (w3).cell? ⟨w.heap.size, 1, none⟩ = some (.slice A0 U.length c0) := by rw [cell_of_row _ _ _ _ _ _ rp.out]; rfl
  have cp2 : (w3).cell? ⟨w.heap.size, 2, none⟩ = some (.slice B0 D.length d0) := by rw [cell_of_row _ _ _ _ _ _ rp.out]; rfl
  go_wp2_with fail
  clear cp0 cp1 cp2
  have hct := plan_any _ ⟨k, U, D⟩ w3 hp (by dsimp only; omega) (by dsimp only; omega)
  refine hct.mono ?_
  rintro e w4 ⟨_, rfl, ⟨A5, c5, B5, d5, rfl, da, db⟩, y4⟩
  clear hct
  simp only at da db ⊢
  have hp := hp.ext y4
  have rp := Lib.hid ((y4.block _ (Array.getElem?_eq_some_iff.1 rp.out).1).trans rp.out)
  have x0 := Ext.trans x0 y4
  clear y4
  go_wp2_with fail
  have hct := back_any _ ⟨k, U, D⟩ w4 ⟨A5, c5, B5, d5, rfl, da, db⟩ (by dsimp only; omega) (by dsimp only; omega)
  rw [HB.out] at hct
  refine hct.mono ?_
  rintro e w5 ⟨_, rfl, ⟨A6, c6, B6, d6, rfl, ea, eb⟩, y5⟩
  clear hct
  simp only at ea eb ⊢
  have da := da.below y5
  have db := db.below y5
  have hp := hp.ext y5
  have rp := Lib.hid ((y5.block _ (Array.getElem?_eq_some_iff.1 rp.out).1).trans rp.out)
  have x0 := Ext.trans x0 y5
  clear y5
  clear da db
  have hq : IsPlan w5 (.agg #[.int .i64 k, .slice A6 D.length c6, .slice B6 U.length d6]) ⟨k, D, U⟩ := ⟨A6, c6, B6, d6, rfl, ea, eb⟩
  clear ea eb
  have y6 := Ext.alloc w5 (.cells #[.int .i64 k, .slice A6 D.length c6, .slice B6 U.length d6] 25)
  have rq := Lib.hid (heap_alloc_new w5 (.cells #[.int .i64 k, .slice A6 D.length c6, .slice B6 U.length d6] 25))
  have hp := hp.ext y6
  have hq := hq.ext y6
  have rp := Lib.hid ((y6.block _ (Array.getElem?_eq_some_iff.1 rp.out).1).trans rp.out)
  have x0 := Ext.trans x0 y6
  have cp0 : ((w5.alloc (.cells #[.int .i64 k, .slice A6 D.length c6, .slice B6 U.length d6] 25))).cell? ⟨w.heap.size, 0, none⟩ = some (.int .i64 k) := by rw [cell_of_row _ _ _ _ _ _ rp.out]; rfl
  have cp1 : ((w5.alloc (.cells #[.int .i64 k, .slice A6 D.length c6, .slice B6 U.length d6] 25))).cell? ⟨w.heap.size, 1, none⟩ = some (.slice A0 U.length c0) := by rw [cell_of_row _ _ _ _ _ _ rp.out]; rfl
  have cp2 : ((w5.alloc (.cells #[.int .i64 k, .slice A6 D.length c6, .slice B6 U.length d6] 25))).cell? ⟨w.heap.size, 2, none⟩ = some (.slice B0 D.length d0) := by rw [cell_of_row _ _ _ _ _ _ rp.out]; rfl
  clear y6
  go_wp2_with fail
  clear cp0 cp1 cp2
  generalize w5.alloc (.cells #[.int .i64 k, .slice A6 D.length c6, .slice B6 U.length d6] 25) = w6 at *
  have hct := check_any _ ⟨k, U, D⟩ w6 hp (by dsimp only; omega) (by dsimp only; omega)
  rw [HC.out] at hct
  refine hct.mono ?_
  rintro e w7 ⟨rfl, y7⟩
  clear hct
  have hp := hp.ext y7
  have hq := hq.ext y7
  have rp := Lib.hid ((y7.block _ (Array.getElem?_eq_some_iff.1 rp.out).1).trans rp.out)
  have rq := Lib.hid ((y7.block _ (Array.getElem?_eq_some_iff.1 rq.out).1).trans rq.out)
  have x0 := Ext.trans x0 y7
  clear y7
  have cq0 : (w7).cell? ⟨w5.heap.size, 0, none⟩ = some (.int .i64 k) := by rw [cell_of_row _ _ _ _ _ _ rq.out]; rfl
  have cq1 : (w7).cell? ⟨w5.heap.size, 1, none⟩ = some (.slice A6 D.length c6) := by rw [cell_of_row _ _ _ _ _ _ rq.out]; rfl
  have cq2 : (w7).cell? ⟨w5.heap.size, 2, none⟩ = some (.slice B6 U.length d6) := by rw [cell_of_row _ _ _ _ _ _ rq.out]; rfl
  go_wp2_with fail
  clear cq0 cq1 cq2
  have hct := back_any _ ⟨k, D, U⟩ w7 hq (by dsimp only; omega) (by dsimp only; omega)
  rw [HB2.out] at hct
  refine hct.mono ?_
  rintro e w8 ⟨_, rfl, ⟨A8, c8, B8, d8, rfl, ea, eb⟩, y8⟩
  clear hct
  simp only at ea eb ⊢
  have hp := hp.ext y8
  have hq := hq.ext y8
  have rp := Lib.hid ((y8.block _ (Array.getElem?_eq_some_iff.1 rp.out).1).trans rp.out)
  have rq := Lib.hid ((y8.block _ (Array.getElem?_eq_some_iff.1 rq.out).1).trans rq.out)
  have x0 := Ext.trans x0 y8
  clear y8
  have hr : IsPlan w8 (.agg #[.int .i64 k, .slice A8 U.length c8, .slice B8 D.length d8]) ⟨k, U, D⟩ := ⟨A8, c8, B8, d8, rfl, ea, eb⟩
  clear ea eb
  have y9 := Ext.alloc w8 (.cells #[.int .i64 k, .slice A8 U.length c8, .slice B8 D.length d8] 25)
  have rr := Lib.hid (heap_alloc_new w8 (.cells #[.int .i64 k, .slice A8 U.length c8, .slice B8 D.length d8] 25))
  have hp := hp.ext y9
  have hq := hq.ext y9
  have hr := hr.ext y9
  have rp := Lib.hid ((y9.block _ (Array.getElem?_eq_some_iff.1 rp.out).1).trans rp.out)
  have rq := Lib.hid ((y9.block _ (Array.getElem?_eq_some_iff.1 rq.out).1).trans rq.out)
  have x0 := Ext.trans x0 y9
  clear y9
  go_wp2_with fail
  generalize w8.alloc (.cells #[.int .i64 k, .slice A8 U.length c8, .slice B8 D.length d8] 25) = w9 at *
  have hct := oncelaw_any Z cz z w9 (Sl.below hZ x0) (by omega) hzr
  refine hct.mono ?_
  rintro e w10 ⟨_, rfl, ho, y10⟩
  clear hct
  obtain ⟨A10, c10, rfl, hi, _⟩ := Sl.of_own ho
  clear ho
  have hp := hp.ext y10
  have hq := hq.ext y10
  have hr := hr.ext y10
  have rp := Lib.hid ((y10.block _ (Array.getElem?_eq_some_iff.1 rp.out).1).trans rp.out)
  have rq := Lib.hid ((y10.block _ (Array.getElem?_eq_some_iff.1 rq.out).1).trans rq.out)
  have rr := Lib.hid ((y10.block _ (Array.getElem?_eq_some_iff.1 rr.out).1).trans rr.out)
  have x0 := Ext.trans x0 y10
  clear y10
  go_wp2_with fail
  have hct := names_lit (onceI z) L HN.out A10 c10 _ w10 rfl hi (by have := HO.out; omega)
  refine hct.mono ?_
  rintro e w11 ⟨_, rfl, ⟨A11, c11, rfl, dl⟩, y11⟩
  clear hct
  clear hi
  have hp := hp.ext y11
  have hq := hq.ext y11
  have hr := hr.ext y11
  have rp := Lib.hid ((y11.block _ (Array.getElem?_eq_some_iff.1 rp.out).1).trans rp.out)
  have rq := Lib.hid ((y11.block _ (Array.getElem?_eq_some_iff.1 rq.out).1).trans rq.out)
  have rr := Lib.hid ((y11.block _ (Array.getElem?_eq_some_iff.1 rr.out).1).trans rr.out)
  have x0 := Ext.trans x0 y11
  clear y11
  have cp0 : (w11).cell? ⟨w.heap.size, 0, none⟩ = some (.int .i64 k) := by rw [cell_of_row _ _ _ _ _ _ rp.out]; rfl
  have cp1 : (w11).cell? ⟨w.heap.size, 1, none⟩ = some (.slice A0 U.length c0) := by rw [cell_of_row _ _ _ _ _ _ rp.out]; rfl
  have cp2 : (w11).cell? ⟨w.heap.size, 2, none⟩ = some (.slice B0 D.length d0) := by rw [cell_of_row _ _ _ _ _ _ rp.out]; rfl
  go_wp2_with fail
  clear cp0 cp1 cp2
  have hct := plan_any _ ⟨k, U, D⟩ w11 hp (by dsimp only; omega) (by dsimp only; omega)
  refine hct.mono ?_
  rintro e w12 ⟨_, rfl, ⟨A12, c12, B12, d12, rfl, da, db⟩, y12⟩
  clear hct
  simp only at da db ⊢
  have dl := dl.below y12
  have hp := hp.ext y12
  have hq := hq.ext y12
  have hr := hr.ext y12
  have rp := Lib.hid ((y12.block _ (Array.getElem?_eq_some_iff.1 rp.out).1).trans rp.out)
  have rq := Lib.hid ((y12.block _ (Array.getElem?_eq_some_iff.1 rq.out).1).trans rq.out)
  have rr := Lib.hid ((y12.block _ (Array.getElem?_eq_some_iff.1 rr.out).1).trans rr.out)
  have x0 := Ext.trans x0 y12
  clear y12
  go_wp2_with fail
  have hct := kitnames_any A11 c11 L w12 dl (by omega)
  refine hct.mono ?_
  rintro e w13 ⟨_, rfl, ho, y13⟩
  clear hct
  obtain ⟨A13, c13, rfl, hi, _⟩ := Sl.of_own ho
  have dn : Ds w13 A13 c13 L := ⟨hi, dl.ok⟩
  clear ho hi
  have dl := dl.below y13
  have da := da.below y13
  have db := db.below y13
  have hp := hp.ext y13
  have hq := hq.ext y13
  have hr := hr.ext y13
  have rp := Lib.hid ((y13.block _ (Array.getElem?_eq_some_iff.1 rp.out).1).trans rp.out)
  have rq := Lib.hid ((y13.block _ (Array.getElem?_eq_some_iff.1 rq.out).1).trans rq.out)
  have rr := Lib.hid ((y13.block _ (Array.getElem?_eq_some_iff.1 rr.out).1).trans rr.out)
  have x0 := Ext.trans x0 y13
  clear y13
  go_wp2_with fail
  have hct := apply_any _ ⟨k, U, D⟩ A13 c13 L w13 ⟨A12, c12, B12, d12, rfl, da, db⟩ dn (by dsimp only; omega) (by dsimp only; omega) (by omega)
  rw [HAP.out] at hct
  refine hct.mono ?_
  rintro e w14 ⟨_, rfl, ⟨A14, c14, rfl, ds⟩, y14⟩
  clear hct
  simp only [List.length_nil] at ds ⊢
  have dl := dl.below y14
  have da := da.below y14
  have db := db.below y14
  have dn := dn.below y14
  have hp := hp.ext y14
  have hq := hq.ext y14
  have hr := hr.ext y14
  have rp := Lib.hid ((y14.block _ (Array.getElem?_eq_some_iff.1 rp.out).1).trans rp.out)
  have rq := Lib.hid ((y14.block _ (Array.getElem?_eq_some_iff.1 rq.out).1).trans rq.out)
  have rr := Lib.hid ((y14.block _ (Array.getElem?_eq_some_iff.1 rr.out).1).trans rr.out)
  have x0 := Ext.trans x0 y14
  clear y14
  clear da db dn
  have hf1 := HFIT.out
  have cp0 : (w14).cell? ⟨w.heap.size, 0, none⟩ = some (.int .i64 k) := by rw [cell_of_row _ _ _ _ _ _ rp.out]; rfl
  have cp1 : (w14).cell? ⟨w.heap.size, 1, none⟩ = some (.slice A0 U.length c0) := by rw [cell_of_row _ _ _ _ _ _ rp.out]; rfl
  have cp2 : (w14).cell? ⟨w.heap.size, 2, none⟩ = some (.slice B0 D.length d0) := by rw [cell_of_row _ _ _ _ _ _ rp.out]; rfl
  go_wp2_with fail
  clear cp0 cp1 cp2
  have rowp : ∀ u, Ext w14 u → u.heap[w.heap.size]? = some (.cells #[.int .i64 k, .slice A0 U.length c0, .slice B0 D.length d0] 25 (0, 0)) := fun u hu => (hu.block _ (Array.getElem?_eq_some_iff.1 rp.out).1).trans rp.out
  have mp0 : ∀ u, Ext w14 u → u.cell? ⟨w.heap.size, 0, none⟩ = some (.int .i64 k) := fun u hu => by rw [cell_of_row _ _ _ _ _ _ (rowp u hu)]; rfl
  have mp1 : ∀ u, Ext w14 u → u.cell? ⟨w.heap.size, 1, none⟩ = some (.slice A0 U.length c0) := fun u hu => by rw [cell_of_row _ _ _ _ _ _ (rowp u hu)]; rfl
  have mp2 : ∀ u, Ext w14 u → u.cell? ⟨w.heap.size, 2, none⟩ = some (.slice B0 D.length d0) := fun u hu => by rw [cell_of_row _ _ _ _ _ _ (rowp u hu)]; rfl
  have rowq : ∀ u, Ext w14 u → u.heap[w5.heap.size]? = some (.cells #[.int .i64 k, .slice A6 D.length c6, .slice B6 U.length d6] 25 (0, 0)) := fun u hu => (hu.block _ (Array.getElem?_eq_some_iff.1 rq.out).1).trans rq.out
  have mq0 : ∀ u, Ext w14 u → u.cell? ⟨w5.heap.size, 0, none⟩ = some (.int .i64 k) := fun u hu => by rw [cell_of_row _ _ _ _ _ _ (rowq u hu)]; rfl
  have mq1 : ∀ u, Ext w14 u → u.cell? ⟨w5.heap.size, 1, none⟩ = some (.slice A6 D.length c6) := fun u hu => by rw [cell_of_row _ _ _ _ _ _ (rowq u hu)]; rfl
  have mq2 : ∀ u, Ext w14 u → u.cell? ⟨w5.heap.size, 2, none⟩ = some (.slice B6 U.length d6) := fun u hu => by rw [cell_of_row _ _ _ _ _ _ (rowq u hu)]; rfl
  have rowr : ∀ u, Ext w14 u → u.heap[w8.heap.size]? = some (.cells #[.int .i64 k, .slice A8 U.length c8, .slice B8 D.length d8] 25 (0, 0)) := fun u hu => (hu.block _ (Array.getElem?_eq_some_iff.1 rr.out).1).trans rr.out
  have mr0 : ∀ u, Ext w14 u → u.cell? ⟨w8.heap.size, 0, none⟩ = some (.int .i64 k) := fun u hu => by rw [cell_of_row _ _ _ _ _ _ (rowr u hu)]; rfl
  have mr1 : ∀ u, Ext w14 u → u.cell? ⟨w8.heap.size, 1, none⟩ = some (.slice A8 U.length c8) := fun u hu => by rw [cell_of_row _ _ _ _ _ _ (rowr u hu)]; rfl
  have mr2 : ∀ u, Ext w14 u → u.cell? ⟨w8.heap.size, 2, none⟩ = some (.slice B8 D.length d8) := fun u hu => by rw [cell_of_row _ _ _ _ _ _ (rowr u hu)]; rfl
  refine wp_region_layt [Fact.val (.int .i64 (0)), Fact.val (.bool false), Fact.val (.bool false), Fact.val (.agg #[.int .i64 k, .slice A8 U.length c8, .slice B8 D.length d8]), Fact.val (.agg #[.int .i64 k, .slice A0 U.length c0, .slice B0 D.length d0]), Fact.val (.bool true), Fact.val (.bool false), Fact.val (.bool false), Fact.val (.bool false), Fact.val (.agg #[.int .i64 k, .slice A6 D.length c6, .slice B6 U.length d6]), Fact.val (.int .i64 (D.length : Nat)), Fact.val (.pointer (some ⟨w.heap.size, 2, none⟩)), Fact.val (.slice B0 D.length d0), Fact.val (.int .i64 (D.length : Nat)), Fact.val (.bool false), Fact.val (.bool false), Fact.val (.bool false), Fact.val (.agg #[.int .i64 k, .slice A0 U.length c0, .slice B0 D.length d0]), Fact.val (.int .i64 s), Fact.val (.bool false), Fact.val (.pointer (some ⟨w.heap.size, 0, none⟩)), Fact.val (.int .i64 k), Fact.val (.int .i64 s), Fact.val (.bool false), Fact.val (.bool false), Fact.val (.bool false), Fact.val (.bool false), Fact.val (.agg #[.int .i64 k, .slice A6 D.length c6, .slice B6 U.length d6]), Fact.val (.int .i64 s), Fact.val (.bool false), Fact.val (.agg #[.int .i64 k, .slice A0 U.length c0, .slice B0 D.length d0]), Fact.val (.int .i64 s), Fact.val (.bool false), Fact.val (.bool false), Fact.val (.bool false), Fact.val (.bool false), Fact.val (.bool false), Fact.val (.bool true), Fact.val (.bool true), Fact.val (.int .i64 (4)), Fact.val (.bool false), Fact.val (.bool false), Fact.val (.bool false)] (w14) _ 43 (by kernel_rfl) (by kernel_rfl) (by kernel_rfl) (by kernel_rfl) (by kernel_rfl) (by kernel_rfl) (Ext.refl _) ?_ ?_
  · refine ⟨?_, ?_, ?_, ?_, ?_, ?_, ?_, ?_, ?_, ?_, ?_, ?_, ?_, ?_, ?_, ?_, ?_, ?_, ?_, ?_, ?_, ?_, ?_, ?_, ?_, ?_, ?_, ?_, ?_, ?_, ?_, ?_, ?_, ?_, ?_, ?_, ?_, ?_, ?_, ?_, ?_, ?_, ?_, trivial⟩
    · intro a u hx hd hr
      rw [if_pos (wanted_none rfl)]
      exact Y_copy (.inl rfl) (hr 10 rfl)
    · intro a u hx hd hr
      rw [if_pos (wanted_none rfl)]
      have e85 : a.eval (.tmp 85) = .int .i64 (0) := hd 0 85 rfl rfl
      clear hd hr
      simp only [Act.eval, Array.getD_eq_getD_getElem?] at e85
      exact Y_val (v := .bool false) (by go_simp) rfl
    · intro a u hx hd hr
      rw [if_pos (wanted_none rfl)]
      exact Y_copy (.inl rfl) (hd 1 86 rfl rfl)
    · intro a u hx hd hr
      have eg : a.eval (.tmp 87) = .bool false := hd 2 87 rfl rfl
      rw [if_pos (by rw [wanted_some rfl rfl eg]; rfl)]
      have e9 : a.eval (.tmp 9) = .pointer (some ⟨w8.heap.size, 0, none⟩) := hr 9 rfl
      exact Y_load_row 25 (.tmp 9) rfl _ e9 _ _ _ _ (rowr _ hx) Try.underlying25 rfl (by kernel_rfl) rfl
    · intro a u hx hd hr
      have eg : a.eval (.tmp 87) = .bool false := hd 2 87 rfl rfl
      rw [if_pos (by rw [wanted_some rfl rfl eg]; rfl)]
      have e3 : a.eval (.tmp 3) = .pointer (some ⟨w.heap.size, 0, none⟩) := hr 3 rfl
      exact Y_load_row 25 (.tmp 3) rfl _ e3 _ _ _ _ (rowp _ hx) Try.underlying25 rfl (by kernel_rfl) rfl
    · intro a u hx hd hr
      have eg : a.eval (.tmp 87) = .bool false := hd 2 87 rfl rfl
      rw [if_pos (by rw [wanted_some rfl rfl eg]; rfl)]
      have e88 : a.eval (.tmp 88) = .agg #[.int .i64 k, .slice A8 U.length c8, .slice B8 D.length d8] := hd 3 88 rfl rfl
      have e89 : a.eval (.tmp 89) = .agg #[.int .i64 k, .slice A0 U.length c0, .slice B0 D.length d0] := hd 4 89 rfl rfl
      clear hd hr
      refine Y_calls (f := 16) (args := #[(a.eval (.tmp 88)), (a.eval (.tmp 89))]) (by go_simp) ?_
      rw [e88, e89]
      exact (kitplan_s _ (⟨k, U, D⟩) _ (⟨k, U, D⟩) _ (hr.ext hx) (hp.ext hx)).mono fun e u2 k => ⟨_, k.1.trans (by rw [HR.out]), rfl, k.2⟩
    · intro a u hx hd hr
      have eg : a.eval (.tmp 87) = .bool false := hd 2 87 rfl rfl
      rw [if_pos (by rw [wanted_some rfl rfl eg]; rfl)]
      have e90 : a.eval (.tmp 90) = .bool true := hd 5 90 rfl rfl
      clear hd hr
      simp only [Act.eval, Array.getD_eq_getD_getElem?] at e90
      exact Y_val (v := .bool false) (by go_simp) rfl
    · intro a u hx hd hr
      rw [if_pos (wanted_none rfl)]
      have e87 : a.eval (.tmp 87) = .bool false := hd 2 87 rfl rfl
      exact Y_pick rfl e87 (hd 6 91 rfl rfl)
    · intro a u hx hd hr
      rw [if_pos (wanted_none rfl)]
      exact Y_copy (.inl rfl) (hd 7 92 rfl rfl)
    · intro a u hx hd hr
      have eg : a.eval (.tmp 93) = .bool false := hd 8 93 rfl rfl
      rw [if_pos (by rw [wanted_some rfl rfl eg]; rfl)]
      have e7 : a.eval (.tmp 7) = .pointer (some ⟨w5.heap.size, 0, none⟩) := hr 7 rfl
      exact Y_load_row 25 (.tmp 7) rfl _ e7 _ _ _ _ (rowq _ hx) Try.underlying25 rfl (by kernel_rfl) rfl
    · intro a u hx hd hr
      have eg : a.eval (.tmp 93) = .bool false := hd 8 93 rfl rfl
      rw [if_pos (by rw [wanted_some rfl rfl eg]; rfl)]
      have e94 : a.eval (.tmp 94) = .agg #[.int .i64 k, .slice A6 D.length c6, .slice B6 U.length d6] := hd 9 94 rfl rfl
      clear hd hr
      refine Y_calls (f := 18) (args := #[(a.eval (.tmp 94))]) (by go_simp) ?_
      rw [e94]
      exact (depth_s _ (⟨k, D, U⟩) _ (hq.ext hx) (by first | omega | (dsimp only; omega) | (simp; done) | (simp; omega)) (by first | omega | (dsimp only; omega) | (simp; done) | (simp; omega))).mono fun e u2 k => ⟨_, k.1.trans (by rw [HD2.out]), rfl, k.2⟩
    · intro a u hx hd hr
      have eg : a.eval (.tmp 93) = .bool false := hd 8 93 rfl rfl
      rw [if_pos (by rw [wanted_some rfl rfl eg]; rfl)]
      have e3 : a.eval (.tmp 3) = .pointer (some ⟨w.heap.size, 0, none⟩) := hr 3 rfl
      clear hd hr
      simp only [Act.eval, Array.getD_eq_getD_getElem?] at e3
      exact Y_val (v := .pointer (some ⟨w.heap.size, 2, none⟩)) (by go_simp) rfl
    · intro a u hx hd hr
      have eg : a.eval (.tmp 93) = .bool false := hd 8 93 rfl rfl
      rw [if_pos (by rw [wanted_some rfl rfl eg]; rfl)]
      have e96 : a.eval (.tmp 96) = .pointer (some ⟨w.heap.size, 2, none⟩) := hd 11 96 rfl rfl
      have ec := mp2 _ hx
      clear hd hr
      simp only [Act.eval, Array.getD_eq_getD_getElem?] at e96
      exact Y_val (v := .slice B0 D.length d0) (by go_simp) rfl
    · intro a u hx hd hr
      have eg : a.eval (.tmp 93) = .bool false := hd 8 93 rfl rfl
      rw [if_pos (by rw [wanted_some rfl rfl eg]; rfl)]
      have e97 : a.eval (.tmp 97) = .slice B0 D.length d0 := hd 12 97 rfl rfl
      clear hd hr
      simp only [Act.eval, Array.getD_eq_getD_getElem?] at e97
      exact Y_val (v := .int .i64 (D.length : Nat)) (by go_simp) rfl
    · intro a u hx hd hr
      have eg : a.eval (.tmp 93) = .bool false := hd 8 93 rfl rfl
      rw [if_pos (by rw [wanted_some rfl rfl eg]; rfl)]
      have e95 : a.eval (.tmp 95) = .int .i64 (D.length : Nat) := hd 10 95 rfl rfl
      have e98 : a.eval (.tmp 98) = .int .i64 (D.length : Nat) := hd 13 98 rfl rfl
      clear hd hr
      simp only [Act.eval, Array.getD_eq_getD_getElem?] at e95 e98
      exact Y_val (v := .bool false) (by go_simp) rfl
    · intro a u hx hd hr
      rw [if_pos (wanted_none rfl)]
      have e93 : a.eval (.tmp 93) = .bool false := hd 8 93 rfl rfl
      exact Y_pick rfl e93 (hd 14 99 rfl rfl)
    · intro a u hx hd hr
      rw [if_pos (wanted_none rfl)]
      exact Y_copy (.inl rfl) (hd 15 100 rfl rfl)
    · intro a u hx hd hr
      have eg : a.eval (.tmp 101) = .bool false := hd 16 101 rfl rfl
      rw [if_pos (by rw [wanted_some rfl rfl eg]; rfl)]
      have e3 : a.eval (.tmp 3) = .pointer (some ⟨w.heap.size, 0, none⟩) := hr 3 rfl
      exact Y_load_row 25 (.tmp 3) rfl _ e3 _ _ _ _ (rowp _ hx) Try.underlying25 rfl (by kernel_rfl) rfl
    · intro a u hx hd hr
      have eg : a.eval (.tmp 101) = .bool false := hd 16 101 rfl rfl
      rw [if_pos (by rw [wanted_some rfl rfl eg]; rfl)]
      exact Y_copy (.inl rfl) (hr 1 rfl)
    · intro a u hx hd hr
      have eg : a.eval (.tmp 101) = .bool false := hd 16 101 rfl rfl
      rw [if_pos (by rw [wanted_some rfl rfl eg]; rfl)]
      have e102 : a.eval (.tmp 102) = .agg #[.int .i64 k, .slice A0 U.length c0, .slice B0 D.length d0] := hd 17 102 rfl rfl
      have e103 : a.eval (.tmp 103) = .int .i64 s := hd 18 103 rfl rfl
      clear hd hr
      refine Y_calls (f := 21) (args := #[(a.eval (.tmp 102)), (a.eval (.tmp 103))]) (by go_simp) ?_
      rw [e102, e103]
      exact (spares_s _ (⟨k, U, D⟩) s _ (hp.ext hx) (by first | omega | (dsimp only; omega) | (simp; done) | (simp; omega)) (by first | omega | (dsimp only; omega) | (simp; done) | (simp; omega))).mono fun e u2 k => ⟨_, k.1.trans (by rw [HS.out]), rfl, k.2⟩
    · intro a u hx hd hr
      have eg : a.eval (.tmp 101) = .bool false := hd 16 101 rfl rfl
      rw [if_pos (by rw [wanted_some rfl rfl eg]; rfl)]
      have e3 : a.eval (.tmp 3) = .pointer (some ⟨w.heap.size, 0, none⟩) := hr 3 rfl
      clear hd hr
      simp only [Act.eval, Array.getD_eq_getD_getElem?] at e3
      exact Y_val (v := .pointer (some ⟨w.heap.size, 0, none⟩)) (by go_simp) rfl
    · intro a u hx hd hr
      have eg : a.eval (.tmp 101) = .bool false := hd 16 101 rfl rfl
      rw [if_pos (by rw [wanted_some rfl rfl eg]; rfl)]
      have e105 : a.eval (.tmp 105) = .pointer (some ⟨w.heap.size, 0, none⟩) := hd 20 105 rfl rfl
      have ec := mp0 _ hx
      clear hd hr
      simp only [Act.eval, Array.getD_eq_getD_getElem?] at e105
      exact Y_val (v := .int .i64 k) (by go_simp) rfl
    · intro a u hx hd hr
      have eg : a.eval (.tmp 101) = .bool false := hd 16 101 rfl rfl
      rw [if_pos (by rw [wanted_some rfl rfl eg]; rfl)]
      exact Y_copy (.inl rfl) (hr 1 rfl)
    · intro a u hx hd hr
      have eg : a.eval (.tmp 101) = .bool false := hd 16 101 rfl rfl
      rw [if_pos (by rw [wanted_some rfl rfl eg]; rfl)]
      have e106 : a.eval (.tmp 106) = .int .i64 k := hd 21 106 rfl rfl
      have e107 : a.eval (.tmp 107) = .int .i64 s := hd 22 107 rfl rfl
      clear hd hr
      simp only [Act.eval, Array.getD_eq_getD_getElem?] at e106 e107
      exact Y_val (v := .bool false) (by have := HSS.out; go_simp <;> omega) rfl
    · intro a u hx hd hr
      have eg : a.eval (.tmp 101) = .bool false := hd 16 101 rfl rfl
      rw [if_pos (by rw [wanted_some rfl rfl eg]; rfl)]
      have e104 : a.eval (.tmp 104) = .bool false := hd 19 104 rfl rfl
      have e108 : a.eval (.tmp 108) = .bool false := hd 23 108 rfl rfl
      clear hd hr
      simp only [Act.eval, Array.getD_eq_getD_getElem?] at e104 e108
      exact Y_val (v := .bool false) (by go_simp) rfl
    · intro a u hx hd hr
      rw [if_pos (wanted_none rfl)]
      have e101 : a.eval (.tmp 101) = .bool false := hd 16 101 rfl rfl
      exact Y_pick rfl e101 (hd 24 109 rfl rfl)
    · intro a u hx hd hr
      rw [if_pos (wanted_none rfl)]
      exact Y_copy (.inl rfl) (hd 25 110 rfl rfl)
    · intro a u hx hd hr
      have eg : a.eval (.tmp 111) = .bool false := hd 26 111 rfl rfl
      rw [if_pos (by rw [wanted_some rfl rfl eg]; rfl)]
      have e7 : a.eval (.tmp 7) = .pointer (some ⟨w5.heap.size, 0, none⟩) := hr 7 rfl
      exact Y_load_row 25 (.tmp 7) rfl _ e7 _ _ _ _ (rowq _ hx) Try.underlying25 rfl (by kernel_rfl) rfl
    · intro a u hx hd hr
      have eg : a.eval (.tmp 111) = .bool false := hd 26 111 rfl rfl
      rw [if_pos (by rw [wanted_some rfl rfl eg]; rfl)]
      exact Y_copy (.inl rfl) (hr 1 rfl)
    · intro a u hx hd hr
      have eg : a.eval (.tmp 111) = .bool false := hd 26 111 rfl rfl
      rw [if_pos (by rw [wanted_some rfl rfl eg]; rfl)]
      have e112 : a.eval (.tmp 112) = .agg #[.int .i64 k, .slice A6 D.length c6, .slice B6 U.length d6] := hd 27 112 rfl rfl
      have e113 : a.eval (.tmp 113) = .int .i64 s := hd 28 113 rfl rfl
      clear hd hr
      refine Y_calls (f := 21) (args := #[(a.eval (.tmp 112)), (a.eval (.tmp 113))]) (by go_simp) ?_
      rw [e112, e113]
      exact (spares_s _ (⟨k, D, U⟩) s _ (hq.ext hx) (by first | omega | (dsimp only; omega) | (simp; done) | (simp; omega)) (by first | omega | (dsimp only; omega) | (simp; done) | (simp; omega))).mono fun e u2 k => ⟨_, k.1.trans (by rw [HS2.out]), rfl, k.2⟩
    · intro a u hx hd hr
      have eg : a.eval (.tmp 111) = .bool false := hd 26 111 rfl rfl
      rw [if_pos (by rw [wanted_some rfl rfl eg]; rfl)]
      have e3 : a.eval (.tmp 3) = .pointer (some ⟨w.heap.size, 0, none⟩) := hr 3 rfl
      exact Y_load_row 25 (.tmp 3) rfl _ e3 _ _ _ _ (rowp _ hx) Try.underlying25 rfl (by kernel_rfl) rfl
    · intro a u hx hd hr
      have eg : a.eval (.tmp 111) = .bool false := hd 26 111 rfl rfl
      rw [if_pos (by rw [wanted_some rfl rfl eg]; rfl)]
      exact Y_copy (.inl rfl) (hr 1 rfl)
    · intro a u hx hd hr
      have eg : a.eval (.tmp 111) = .bool false := hd 26 111 rfl rfl
      rw [if_pos (by rw [wanted_some rfl rfl eg]; rfl)]
      have e115 : a.eval (.tmp 115) = .agg #[.int .i64 k, .slice A0 U.length c0, .slice B0 D.length d0] := hd 30 115 rfl rfl
      have e116 : a.eval (.tmp 116) = .int .i64 s := hd 31 116 rfl rfl
      clear hd hr
      refine Y_calls (f := 21) (args := #[(a.eval (.tmp 115)), (a.eval (.tmp 116))]) (by go_simp) ?_
      rw [e115, e116]
      exact (spares_s _ (⟨k, U, D⟩) s _ (hp.ext hx) (by first | omega | (dsimp only; omega) | (simp; done) | (simp; omega)) (by first | omega | (dsimp only; omega) | (simp; done) | (simp; omega))).mono fun e u2 k => ⟨_, k.1.trans (by rw [HS.out]), rfl, k.2⟩
    · intro a u hx hd hr
      have eg : a.eval (.tmp 111) = .bool false := hd 26 111 rfl rfl
      rw [if_pos (by rw [wanted_some rfl rfl eg]; rfl)]
      have e114 : a.eval (.tmp 114) = .bool false := hd 29 114 rfl rfl
      have e117 : a.eval (.tmp 117) = .bool false := hd 32 117 rfl rfl
      clear hd hr
      simp only [Act.eval, Array.getD_eq_getD_getElem?] at e114 e117
      exact Y_val (v := .bool false) (by go_simp) rfl
    · intro a u hx hd hr
      rw [if_pos (wanted_none rfl)]
      have e111 : a.eval (.tmp 111) = .bool false := hd 26 111 rfl rfl
      exact Y_pick rfl e111 (hd 33 118 rfl rfl)
    · intro a u hx hd hr
      rw [if_pos (wanted_none rfl)]
      exact Y_copy (.inl rfl) (hd 34 119 rfl rfl)
    · intro a u hx hd hr
      have eg : a.eval (.tmp 120) = .bool false := hd 35 120 rfl rfl
      rw [if_pos (by rw [wanted_some rfl rfl eg]; rfl)]
      exact Y_copy (.inl rfl) (hr 14 rfl)
    · intro a u hx hd hr
      have eg : a.eval (.tmp 120) = .bool false := hd 35 120 rfl rfl
      rw [if_pos (by rw [wanted_some rfl rfl eg]; rfl)]
      have e121 : a.eval (.tmp 121) = .bool false := hd 36 121 rfl rfl
      clear hd hr
      simp only [Act.eval, Array.getD_eq_getD_getElem?] at e121
      exact Y_val (v := .bool true) (by go_simp) rfl
    · intro a u hx hd hr
      have eg : a.eval (.tmp 120) = .bool false := hd 35 120 rfl rfl
      rw [if_pos (by rw [wanted_some rfl rfl eg]; rfl)]
      exact Y_copy (.inl rfl) (hd 37 122 rfl rfl)
    · intro a u hx hd hr
      have eg : a.eval (.tmp 123) = .bool true := hd 38 123 rfl rfl
      rw [if_pos (by rw [wanted_some rfl rfl eg]; rfl)]
      exact Y_copy (.inl rfl) (hr 13 rfl)
    · intro a u hx hd hr
      have eg : a.eval (.tmp 123) = .bool true := hd 38 123 rfl rfl
      rw [if_pos (by rw [wanted_some rfl rfl eg]; rfl)]
      have e124 : a.eval (.tmp 124) = .int .i64 (4) := hd 39 124 rfl rfl
      clear hd hr
      simp only [Act.eval, Array.getD_eq_getD_getElem?] at e124
      exact Y_val (v := .bool false) (by go_simp) rfl
    · intro a u hx hd hr
      have eg : a.eval (.tmp 120) = .bool false := hd 35 120 rfl rfl
      rw [if_pos (by rw [wanted_some rfl rfl eg]; rfl)]
      have e123 : a.eval (.tmp 123) = .bool true := hd 38 123 rfl rfl
      exact Y_pick rfl e123 (hd 40 125 rfl rfl)
    · intro a u hx hd hr
      rw [if_pos (wanted_none rfl)]
      have e120 : a.eval (.tmp 120) = .bool false := hd 35 120 rfl rfl
      exact Y_pick rfl e120 (hd 41 126 rfl rfl)
  intro f w15 hwq hF
  have f0 : f 0 = .int .i64 (0) := hF 0 85 (by decide) rfl
  have f1 : f 1 = .bool false := hF 1 86 (by decide) rfl
  have f2 : f 2 = .bool false := hF 2 87 (by decide) rfl
  have f3 : f 3 = .agg #[.int .i64 k, .slice A8 U.length c8, .slice B8 D.length d8] := hF 3 88 (by decide) rfl
  have f4 : f 4 = .agg #[.int .i64 k, .slice A0 U.length c0, .slice B0 D.length d0] := hF 4 89 (by decide) rfl
  have f5 : f 5 = .bool true := hF 5 90 (by decide) rfl
  have f6 : f 6 = .bool false := hF 6 91 (by decide) rfl
  have f7 : f 7 = .bool false := hF 7 92 (by decide) rfl
  have f8 : f 8 = .bool false := hF 8 93 (by decide) rfl
  have f9 : f 9 = .agg #[.int .i64 k, .slice A6 D.length c6, .slice B6 U.length d6] := hF 9 94 (by decide) rfl
  have f10 : f 10 = .int .i64 (D.length : Nat) := hF 10 95 (by decide) rfl
  have f11 : f 11 = .pointer (some ⟨w.heap.size, 2, none⟩) := hF 11 96 (by decide) rfl
  have f12 : f 12 = .slice B0 D.length d0 := hF 12 97 (by decide) rfl
  have f13 : f 13 = .int .i64 (D.length : Nat) := hF 13 98 (by decide) rfl
  have f14 : f 14 = .bool false := hF 14 99 (by decide) rfl
  have f15 : f 15 = .bool false := hF 15 100 (by decide) rfl
  have f16 : f 16 = .bool false := hF 16 101 (by decide) rfl
  have f17 : f 17 = .agg #[.int .i64 k, .slice A0 U.length c0, .slice B0 D.length d0] := hF 17 102 (by decide) rfl
  have f18 : f 18 = .int .i64 s := hF 18 103 (by decide) rfl
  have f19 : f 19 = .bool false := hF 19 104 (by decide) rfl
  have f20 : f 20 = .pointer (some ⟨w.heap.size, 0, none⟩) := hF 20 105 (by decide) rfl
  have f21 : f 21 = .int .i64 k := hF 21 106 (by decide) rfl
  have f22 : f 22 = .int .i64 s := hF 22 107 (by decide) rfl
  have f23 : f 23 = .bool false := hF 23 108 (by decide) rfl
  have f24 : f 24 = .bool false := hF 24 109 (by decide) rfl
  have f25 : f 25 = .bool false := hF 25 110 (by decide) rfl
  have f26 : f 26 = .bool false := hF 26 111 (by decide) rfl
  have f27 : f 27 = .agg #[.int .i64 k, .slice A6 D.length c6, .slice B6 U.length d6] := hF 27 112 (by decide) rfl
  have f28 : f 28 = .int .i64 s := hF 28 113 (by decide) rfl
  have f29 : f 29 = .bool false := hF 29 114 (by decide) rfl
  have f30 : f 30 = .agg #[.int .i64 k, .slice A0 U.length c0, .slice B0 D.length d0] := hF 30 115 (by decide) rfl
  have f31 : f 31 = .int .i64 s := hF 31 116 (by decide) rfl
  have f32 : f 32 = .bool false := hF 32 117 (by decide) rfl
  have f33 : f 33 = .bool false := hF 33 118 (by decide) rfl
  have f34 : f 34 = .bool false := hF 34 119 (by decide) rfl
  have f35 : f 35 = .bool false := hF 35 120 (by decide) rfl
  have f36 : f 36 = .bool false := hF 36 121 (by decide) rfl
  have f37 : f 37 = .bool true := hF 37 122 (by decide) rfl
  have f38 : f 38 = .bool true := hF 38 123 (by decide) rfl
  have f39 : f 39 = .int .i64 (4) := hF 39 124 (by decide) rfl
  have f40 : f 40 = .bool false := hF 40 125 (by decide) rfl
  have f41 : f 41 = .bool false := hF 41 126 (by decide) rfl
  have f42 : f 42 = .bool false := hF 42 127 (by decide) rfl
  clear hF
  simp only [List.take_succ_cons, List.take_zero, List.drop_succ_cons, List.drop_zero, puts, Act.put, List.setIfInBounds_toArray, List.set_cons_succ, List.set_cons_zero, Nat.zero_add, Nat.reduceAdd, f0, f1, f2, f3, f4, f5, f6, f7, f8, f9, f10, f11, f12, f13, f14, f15, f16, f17, f18, f19, f20, f21, f22, f23, f24, f25, f26, f27, f28, f29, f30, f31, f32, f33, f34, f35, f36, f37, f38, f39, f40, f41, f42]
  clear f0 f1 f2 f3 f4 f5 f6 f7 f8 f9 f10 f11 f12 f13 f14 f15 f16 f17 f18 f19 f20 f21 f22 f23 f24 f25 f26 f27 f28 f29 f30 f31 f32 f33 f34 f35 f36 f37 f38 f39 f40 f41 f42
  refine wpList_nil ?_
  clear rowp rowq rowr mp0 mp1 mp2 mq0 mq1 mq2 mr0 mr1 mr2
  have dl := dl.below hwq
  have ds := ds.below hwq
  have hp := hp.ext hwq
  have hq := hq.ext hwq
  have hr := hr.ext hwq
  have rp := Lib.hid ((hwq.block _ (Array.getElem?_eq_some_iff.1 rp.out).1).trans rp.out)
  have rq := Lib.hid ((hwq.block _ (Array.getElem?_eq_some_iff.1 rq.out).1).trans rq.out)
  have rr := Lib.hid ((hwq.block _ (Array.getElem?_eq_some_iff.1 rr.out).1).trans rr.out)
  have x0 := Ext.trans x0 hwq
  clear hwq
  go_wp2_with fail
  go_ret
  exact ⟨rfl, x0⟩
end Go.Proofs.Ytigcfbpgbenabaa
