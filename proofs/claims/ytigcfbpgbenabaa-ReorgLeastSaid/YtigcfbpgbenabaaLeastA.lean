import Derived.Test.YtigcfbpgbenabaaLeastH
namespace Go.Proofs.Ytigcfbpgbenabaa
open Go.RowKit

set_option maxRecDepth 100000 in
set_option maxHeartbeats 8000000 in
theorem least_manyx (X : Option Addr) (cx : Nat) (x : List Int) (Y : Option Addr) (cy : Nat) (y : List Int) (pk : Int) (AU : Option Addr) (cU : Nat) (U : List (List UInt8)) (BD : Option Addr) (cD : Nat) (D : List (List UInt8)) (w : World) (hX : Is w X cx x) (hY : Is w Y cy y) (hU : Ds w AU cU U) (hD : Ds w BD cD D)
    (hrx : ∀ i ∈ x, -9223372036854775808 ≤ i ∧ i ≤ 9223372036854775807) (hry : ∀ i ∈ y, -9223372036854775808 ≤ i ∧ i ≤ 9223372036854775807)
    (hx : 40 < x.length) :
    Calls Try.prog 3 #[.slice X x.length cx, .slice Y y.length cy, .agg #[.int .i64 pk, .slice AU U.length cU, .slice BD D.length cD]] w fun e w' => e = .returned (.bool true) ∧ Ext w w' := by
  have ix : (40 : Int) < (x.length : Int) := by omega
  clear hx
  have x0 := Ext.refl w
  have hp : IsPlan w (.agg #[.int .i64 pk, .slice AU U.length cU, .slice BD D.length cD]) ⟨pk, U, D⟩ := ⟨AU, cU, BD, cD, rfl, hU, hD⟩
  clear hU hD
  go_enter Try.func3, Try.ntmps3
  have y1 := Ext.alloc w (.cells #[.int .i64 pk, .slice AU U.length cU, .slice BD D.length cD] 25)
  have rp := Lib.hid (heap_alloc_new w (.cells #[.int .i64 pk, .slice AU U.length cU, .slice BD D.length cD] 25))
  have hp := hp.ext y1
  have x0 := Ext.trans x0 y1
  clear y1
  go_wp2_with fail
  generalize w.alloc (.cells #[.int .i64 pk, .slice AU U.length cU, .slice BD D.length cD] 25) = w1 at *
  have hct := lives_any w1
  refine hct.mono ?_
  rintro e w2 ⟨rfl, y2⟩
  clear hct
  have hp := hp.ext y2
  have rp := Lib.hid ((y2.block _ (Array.getElem?_eq_some_iff.1 rp.out).1).trans rp.out)
  have x0 := Ext.trans x0 y2
  clear y2
  have cp0 : (w2).cell? ⟨w.heap.size, 0, none⟩ = some (.int .i64 pk) := by rw [cell_of_row _ _ _ _ _ _ rp.out]; rfl
  have cp1 : (w2).cell? ⟨w.heap.size, 1, none⟩ = some (.slice AU U.length cU) := by rw [cell_of_row _ _ _ _ _ _ rp.out]; rfl
  have cp2 : (w2).cell? ⟨w.heap.size, 2, none⟩ = some (.slice BD D.length cD) := by rw [cell_of_row _ _ _ _ _ _ rp.out]; rfl
  go_wp2_with fail
  clear cp0 cp1 cp2
  go_ret
  exact ⟨rfl, x0⟩

set_option maxRecDepth 100000 in
set_option maxHeartbeats 8000000 in
theorem least_manyy (X : Option Addr) (cx : Nat) (x : List Int) (Y : Option Addr) (cy : Nat) (y : List Int) (pk : Int) (AU : Option Addr) (cU : Nat) (U : List (List UInt8)) (BD : Option Addr) (cD : Nat) (D : List (List UInt8)) (w : World) (hX : Is w X cx x) (hY : Is w Y cy y) (hU : Ds w AU cU U) (hD : Ds w BD cD D)
    (hrx : ∀ i ∈ x, -9223372036854775808 ≤ i ∧ i ≤ 9223372036854775807) (hry : ∀ i ∈ y, -9223372036854775808 ≤ i ∧ i ≤ 9223372036854775807)
    (hx : x.length ≤ 40) (hy : 40 < y.length) :
    Calls Try.prog 3 #[.slice X x.length cx, .slice Y y.length cy, .agg #[.int .i64 pk, .slice AU U.length cU, .slice BD D.length cD]] w fun e w' => e = .returned (.bool true) ∧ Ext w w' := by
  have ix : (x.length : Int) ≤ 40 := by omega
  have iy : (40 : Int) < (y.length : Int) := by omega
  clear hx hy
  have x0 := Ext.refl w
  have hp : IsPlan w (.agg #[.int .i64 pk, .slice AU U.length cU, .slice BD D.length cD]) ⟨pk, U, D⟩ := ⟨AU, cU, BD, cD, rfl, hU, hD⟩
  clear hU hD
  go_enter Try.func3, Try.ntmps3
  have y1 := Ext.alloc w (.cells #[.int .i64 pk, .slice AU U.length cU, .slice BD D.length cD] 25)
  have rp := Lib.hid (heap_alloc_new w (.cells #[.int .i64 pk, .slice AU U.length cU, .slice BD D.length cD] 25))
  have hp := hp.ext y1
  have x0 := Ext.trans x0 y1
  clear y1
  go_wp2_with fail
  generalize w.alloc (.cells #[.int .i64 pk, .slice AU U.length cU, .slice BD D.length cD] 25) = w1 at *
  have hct := lives_any w1
  refine hct.mono ?_
  rintro e w2 ⟨rfl, y2⟩
  clear hct
  have hp := hp.ext y2
  have rp := Lib.hid ((y2.block _ (Array.getElem?_eq_some_iff.1 rp.out).1).trans rp.out)
  have x0 := Ext.trans x0 y2
  clear y2
  have cp0 : (w2).cell? ⟨w.heap.size, 0, none⟩ = some (.int .i64 pk) := by rw [cell_of_row _ _ _ _ _ _ rp.out]; rfl
  have cp1 : (w2).cell? ⟨w.heap.size, 1, none⟩ = some (.slice AU U.length cU) := by rw [cell_of_row _ _ _ _ _ _ rp.out]; rfl
  have cp2 : (w2).cell? ⟨w.heap.size, 2, none⟩ = some (.slice BD D.length cD) := by rw [cell_of_row _ _ _ _ _ _ rp.out]; rfl
  go_wp2_with fail
  clear cp0 cp1 cp2
  go_ret
  exact ⟨rfl, x0⟩

set_option maxRecDepth 100000 in
set_option maxHeartbeats 8000000 in
theorem least_heavy (X : Option Addr) (cx : Nat) (x : List Int) (Y : Option Addr) (cy : Nat) (y : List Int) (pk : Int) (AU : Option Addr) (cU : Nat) (U : List (List UInt8)) (BD : Option Addr) (cD : Nat) (D : List (List UInt8)) (w : World) (hX : Is w X cx x) (hY : Is w Y cy y) (hU : Ds w AU cU U) (hD : Ds w BD cD D)
    (hrx : ∀ i ∈ x, -9223372036854775808 ≤ i ∧ i ≤ 9223372036854775807) (hry : ∀ i ∈ y, -9223372036854775808 ≤ i ∧ i ≤ 9223372036854775807)
    (hx : x.length ≤ 40) (hy : y.length ≤ 40) (hli : (decide (U.length ≤ 40) && decide (D.length ≤ 40)) = false) :
    Calls Try.prog 3 #[.slice X x.length cx, .slice Y y.length cy, .agg #[.int .i64 pk, .slice AU U.length cU, .slice BD D.length cD]] w fun e w' => e = .returned (.bool true) ∧ Ext w w' := by
  have ix : (x.length : Int) ≤ 40 := by omega
  have iy : (y.length : Int) ≤ 40 := by omega
  have HLI : Hid ((decide ((⟨pk, U, D⟩ : PV).u.length ≤ 40) && decide ((⟨pk, U, D⟩ : PV).d.length ≤ 40)) = false) := Lib.hid hli
  clear hx hy hli
  have x0 := Ext.refl w
  have hp : IsPlan w (.agg #[.int .i64 pk, .slice AU U.length cU, .slice BD D.length cD]) ⟨pk, U, D⟩ := ⟨AU, cU, BD, cD, rfl, hU, hD⟩
  clear hU hD
  go_enter Try.func3, Try.ntmps3
  have y1 := Ext.alloc w (.cells #[.int .i64 pk, .slice AU U.length cU, .slice BD D.length cD] 25)
  have rp := Lib.hid (heap_alloc_new w (.cells #[.int .i64 pk, .slice AU U.length cU, .slice BD D.length cD] 25))
  have hp := hp.ext y1
  have x0 := Ext.trans x0 y1
  clear y1
  go_wp2_with fail
  generalize w.alloc (.cells #[.int .i64 pk, .slice AU U.length cU, .slice BD D.length cD] 25) = w1 at *
  have hct := lives_any w1
  refine hct.mono ?_
  rintro e w2 ⟨rfl, y2⟩
  clear hct
  have hp := hp.ext y2
  have rp := Lib.hid ((y2.block _ (Array.getElem?_eq_some_iff.1 rp.out).1).trans rp.out)
  have x0 := Ext.trans x0 y2
  clear y2
  have cp0 : (w2).cell? ⟨w.heap.size, 0, none⟩ = some (.int .i64 pk) := by rw [cell_of_row _ _ _ _ _ _ rp.out]; rfl
  have cp1 : (w2).cell? ⟨w.heap.size, 1, none⟩ = some (.slice AU U.length cU) := by rw [cell_of_row _ _ _ _ _ _ rp.out]; rfl
  have cp2 : (w2).cell? ⟨w.heap.size, 2, none⟩ = some (.slice BD D.length cD) := by rw [cell_of_row _ _ _ _ _ _ rp.out]; rfl
  go_wp2_with fail
  clear cp0 cp1 cp2
  have hct := light_any _ ⟨pk, U, D⟩ w2 hp
  rw [HLI.out] at hct
  refine hct.mono ?_
  rintro e w3 ⟨rfl, y3⟩
  clear hct
  have hp := hp.ext y3
  have rp := Lib.hid ((y3.block _ (Array.getElem?_eq_some_iff.1 rp.out).1).trans rp.out)
  have x0 := Ext.trans x0 y3
  clear y3
  go_wp2_with fail
  go_ret
  exact ⟨rfl, x0⟩

set_option maxRecDepth 100000 in
set_option maxHeartbeats 8000000 in
theorem least_a (X : Option Addr) (cx : Nat) (x : List Int) (Y : Option Addr) (cy : Nat) (y : List Int) (pk : Int) (AU : Option Addr) (cU : Nat) (U : List (List UInt8)) (BD : Option Addr) (cD : Nat) (D : List (List UInt8)) (w : World) (hX : Is w X cx x) (hY : Is w Y cy y) (hU : Ds w AU cU U) (hD : Ds w BD cD D)
    (hrx : ∀ i ∈ x, -9223372036854775808 ≤ i ∧ i ≤ 9223372036854775807) (hry : ∀ i ∈ y, -9223372036854775808 ≤ i ∧ i ≤ 9223372036854775807)
    (hx : x.length ≤ 40) (hy : y.length ≤ 40) (hli : (decide (U.length ≤ 40) && decide (D.length ≤ 40)) = true) (L M : List (List UInt8)) (hL : L = nameL x) (hM : M = nameL y) (er : Int) (hap : applyP ⟨pk, U, D⟩ L = ([], er)) (her : er ≠ 0) :
    Calls Try.prog 3 #[.slice X x.length cx, .slice Y y.length cy, .agg #[.int .i64 pk, .slice AU U.length cU, .slice BD D.length cD]] w fun e w' => e = .returned (.bool true) ∧ Ext w w' := by
  have HER := Lib.hid her
  clear her
  have ix : (x.length : Int) ≤ 40 := by omega
  have iy : (y.length : Int) ≤ 40 := by omega
  have hu40 : U.length ≤ 40 := by simp at hli; omega
  have hd40 : D.length ≤ 40 := by simp at hli; omega
  have HLI : Hid ((decide ((⟨pk, U, D⟩ : PV).u.length ≤ 40) && decide ((⟨pk, U, D⟩ : PV).d.length ≤ 40)) = true) := Lib.hid hli
  have nL : L.Nodup := by rw [hL]; exact nameL_nodup x
  have nM : M.Nodup := by rw [hM]; exact nameL_nodup y
  have lL : L.length ≤ 40 := by rw [hL]; exact Nat.le_trans (nameL_len x) hx
  have lM : M.length ≤ 40 := by rw [hM]; exact Nat.le_trans (nameL_len y) hy
  have F1 := from_nodup nL nM
  have C1 := check_planF nL nM
  have hkl := planF_kL L M
  have hcl := planF_cells L M
  have hck := common_le L M
  have hless : ∀ j, j < common L M → checkP ⟨(j : Int), L.drop j, M.drop j⟩ = 2 := fun j hj => less_bad hj
  have hdq : depthP (planF L M) = (L.length : Int) - ((common L M : Nat) : Int) := by
    unfold depthP; rw [if_pos C1]
    have := hkl.1; omega
  obtain ⟨Q, hQ⟩ : ∃ Q, Q = planF L M := ⟨_, rfl⟩
  have hQk : Q.k = ((common L M : Nat) : Int) := by rw [hQ]; rfl
  rw [← hQ] at F1 hkl hcl hdq
  obtain ⟨kk, hkk⟩ : ∃ kk, kk = common L M := ⟨_, rfl⟩
  rw [← hkk] at hkl hcl hck hless hdq hQk
  have hk1 : kk ≤ L.length := hck.1
  have hk2 : kk ≤ M.length := hck.2.1
  have E1 := Lib.hid (show (L.take kk).length = kk by rw [List.length_take]; omega)
  have E2 := Lib.hid (show (M.take kk).length = kk by rw [List.length_take]; omega)
  have HF1 := Lib.hid F1
  have HKL1 := Lib.hid hkl.1
  have HKL2 := Lib.hid hkl.2
  have HCL := Lib.hid hcl
  have HLESS := Lib.hid hless
  have HDQ := Lib.hid hdq
  have HQK := Lib.hid hQk
  have qu : Q.u.length ≤ 40 := by have := hkl.1; omega
  have qd : Q.d.length ≤ 40 := by have := hkl.2; omega
  have HNx : Hid (L = (onceI x).map nd) := Lib.hid hL
  have HNy : Hid (M = (onceI y).map nd) := Lib.hid hM
  have HOx := Lib.hid (onceI_ok x).2.2
  have HOy := Lib.hid (onceI_ok y).2.2
  have SL := Lib.hid (sameD_refl L)
  have SM := Lib.hid (sameD_refl M)
  have SQ := Lib.hid (samePV_refl Q)
  have HQ := Lib.hid hQ
  have HAP := Lib.hid hap
  have hwrap : IntKind.i64.wrap ((L.length : Int) - (kk : Int)) = (L.length : Int) - (kk : Int) := by rw [IntKind.wrap_i64]; omega
  obtain ⟨j0, hj0, jz0, jz1, jz2⟩ := info_parts zero_dig
  have HI := Lib.hid hj0
  have HZ0 := Lib.hid jz0
  have HZ1 := Lib.hid jz1
  have HZ2 := Lib.hid jz2
  clear hx hy hli hL hM nL nM F1 C1 hkl hcl hck hless hdq hQ hQk hkk hap hj0 jz0 jz1 jz2
  have x0 := Ext.refl w
  have hp : IsPlan w (.agg #[.int .i64 pk, .slice AU U.length cU, .slice BD D.length cD]) ⟨pk, U, D⟩ := ⟨AU, cU, BD, cD, rfl, hU, hD⟩
  clear hU hD
  go_enter Try.func3, Try.ntmps3
  have y1 := Ext.alloc w (.cells #[.int .i64 pk, .slice AU U.length cU, .slice BD D.length cD] 25)
  have rp := Lib.hid (heap_alloc_new w (.cells #[.int .i64 pk, .slice AU U.length cU, .slice BD D.length cD] 25))
  have hp := hp.ext y1
  have x0 := Ext.trans x0 y1
  clear y1
  go_wp2_with fail
  generalize w.alloc (.cells #[.int .i64 pk, .slice AU U.length cU, .slice BD D.length cD] 25) = w1 at *
  have hct := lives_any w1
  refine hct.mono ?_
  rintro e w2 ⟨rfl, y2⟩
  clear hct
  have hp := hp.ext y2
  have rp := Lib.hid ((y2.block _ (Array.getElem?_eq_some_iff.1 rp.out).1).trans rp.out)
  have x0 := Ext.trans x0 y2
  clear y2
  have cp0 : (w2).cell? ⟨w.heap.size, 0, none⟩ = some (.int .i64 pk) := by rw [cell_of_row _ _ _ _ _ _ rp.out]; rfl
  have cp1 : (w2).cell? ⟨w.heap.size, 1, none⟩ = some (.slice AU U.length cU) := by rw [cell_of_row _ _ _ _ _ _ rp.out]; rfl
  have cp2 : (w2).cell? ⟨w.heap.size, 2, none⟩ = some (.slice BD D.length cD) := by rw [cell_of_row _ _ _ _ _ _ rp.out]; rfl
  go_wp2_with fail
  clear cp0 cp1 cp2
  have hct := light_any _ ⟨pk, U, D⟩ w2 hp
  rw [HLI.out] at hct
  refine hct.mono ?_
  rintro e w3 ⟨rfl, y3⟩
  clear hct
  have hp := hp.ext y3
  have rp := Lib.hid ((y3.block _ (Array.getElem?_eq_some_iff.1 rp.out).1).trans rp.out)
  have x0 := Ext.trans x0 y3
  clear y3
  go_wp2_with fail
  have hct := oncelaw_any X cx x w3 (Sl.below hX x0) (by omega) hrx
  refine hct.mono ?_
  rintro e w4 ⟨_, rfl, ho, y4⟩
  clear hct
  obtain ⟨A, c, rfl, hi, _⟩ := Sl.of_own ho
  clear ho
  have hp := hp.ext y4
  have rp := Lib.hid ((y4.block _ (Array.getElem?_eq_some_iff.1 rp.out).1).trans rp.out)
  have x0 := Ext.trans x0 y4
  clear y4
  go_wp2_with fail
  have hct := names_lit (onceI x) L HNx.out A c _ w4 rfl hi (by have := HOx.out; omega)
  refine hct.mono ?_
  rintro e w5 ⟨_, rfl, ⟨A0, c0, rfl, dL⟩, y5⟩
  clear hct
  clear hi
  have hp := hp.ext y5
  have rp := Lib.hid ((y5.block _ (Array.getElem?_eq_some_iff.1 rp.out).1).trans rp.out)
  have x0 := Ext.trans x0 y5
  clear y5
  go_wp2_with fail
  have hct := oncelaw_any Y cy y w5 (Sl.below hY x0) (by omega) hry
  refine hct.mono ?_
  rintro e w6 ⟨_, rfl, ho, y6⟩
  clear hct
  obtain ⟨A, c, rfl, hi, _⟩ := Sl.of_own ho
  clear ho
  have dL := dL.below y6
  have hp := hp.ext y6
  have rp := Lib.hid ((y6.block _ (Array.getElem?_eq_some_iff.1 rp.out).1).trans rp.out)
  have x0 := Ext.trans x0 y6
  clear y6
  go_wp2_with fail
  have hct := names_lit (onceI y) M HNy.out A c _ w6 rfl hi (by have := HOy.out; omega)
  refine hct.mono ?_
  rintro e w7 ⟨_, rfl, ⟨A1, c1, rfl, dM⟩, y7⟩
  clear hct
  clear hi
  have dL := dL.below y7
  have hp := hp.ext y7
  have rp := Lib.hid ((y7.block _ (Array.getElem?_eq_some_iff.1 rp.out).1).trans rp.out)
  have x0 := Ext.trans x0 y7
  clear y7
  go_wp2_with fail
  have hct := kitnames_any A0 c0 L w7 dL (by omega)
  refine hct.mono ?_
  rintro e w8 ⟨_, rfl, ho, y8⟩
  clear hct
  obtain ⟨An0, cn0, rfl, hi, _⟩ := Sl.of_own ho
  have dnL : Ds w8 An0 cn0 L := ⟨hi, dL.ok⟩
  clear ho hi
  have dL := dL.below y8
  have dM := dM.below y8
  have hp := hp.ext y8
  have rp := Lib.hid ((y8.block _ (Array.getElem?_eq_some_iff.1 rp.out).1).trans rp.out)
  have x0 := Ext.trans x0 y8
  clear y8
  go_wp2_with fail
  have hct := kitnames_any A1 c1 M w8 dM (by omega)
  refine hct.mono ?_
  rintro e w9 ⟨_, rfl, ho, y9⟩
  clear hct
  obtain ⟨An1, cn1, rfl, hi, _⟩ := Sl.of_own ho
  have dnM : Ds w9 An1 cn1 M := ⟨hi, dM.ok⟩
  clear ho hi
  have dL := dL.below y9
  have dM := dM.below y9
  have dnL := dnL.below y9
  have hp := hp.ext y9
  have rp := Lib.hid ((y9.block _ (Array.getElem?_eq_some_iff.1 rp.out).1).trans rp.out)
  have x0 := Ext.trans x0 y9
  clear y9
  go_wp2_with fail
  have hct := from_any An0 cn0 L An1 cn1 M w9 dnL dnM (by omega) (by omega)
  rw [HF1.out] at hct
  refine hct.mono ?_
  rintro e w10 ⟨_, rfl, ⟨AQ, cQ, BQ, eQ, rfl, ea, eb⟩, y10⟩
  clear hct
  simp only at ea eb ⊢
  rw [HQK.out]
  have dL := dL.below y10
  have dM := dM.below y10
  have dnL := dnL.below y10
  have dnM := dnM.below y10
  have hp := hp.ext y10
  have rp := Lib.hid ((y10.block _ (Array.getElem?_eq_some_iff.1 rp.out).1).trans rp.out)
  have x0 := Ext.trans x0 y10
  clear y10
  have dU := ea
  have dD := eb
  have pQ : IsPlan w10 (.agg #[.int .i64 (kk : Int), .slice AQ Q.u.length cQ, .slice BQ Q.d.length eQ]) Q := ⟨AQ, cQ, BQ, eQ, by rw [HQK.out], ea, eb⟩
  clear ea eb dnL dnM
  have y11 := Ext.alloc w10 (.cells #[.int .i64 (kk : Int), .slice AQ Q.u.length cQ, .slice BQ Q.d.length eQ] 25)
  have rq := Lib.hid (heap_alloc_new w10 (.cells #[.int .i64 (kk : Int), .slice AQ Q.u.length cQ, .slice BQ Q.d.length eQ] 25))
  have dL := dL.below y11
  have dM := dM.below y11
  have dU := dU.below y11
  have dD := dD.below y11
  have hp := hp.ext y11
  have pQ := pQ.ext y11
  have rp := Lib.hid ((y11.block _ (Array.getElem?_eq_some_iff.1 rp.out).1).trans rp.out)
  have x0 := Ext.trans x0 y11
  clear y11
  go_wp2_with fail
  generalize w10.alloc (.cells #[.int .i64 (kk : Int), .slice AQ Q.u.length cQ, .slice BQ Q.d.length eQ] 25) = r0 at *
  have hcc0 := dL.sl.le
  have hcc1 := dM.sl.le
  have nl1 : ¬ (L.length < kk) := by omega
  have nl2 : ¬ (M.length < kk) := by omega
  have ni1 : ¬ ((L.length : Int) < (kk : Int)) := by omega
  have ni2 : ¬ ((M.length : Int) < (kk : Int)) := by omega
  have ni0 : ¬ ((kk : Int) < 0) := by omega
  have nb0 : (0 : Int) ≤ (kk : Int) := by omega
  have nb1 : (kk : Int) ≤ (c0 : Int) := by omega
  have nb2 : (kk : Int) ≤ (c1 : Int) := by omega
  have nb3 : kk ≤ c0 := by omega
  have nb4 : kk ≤ c1 := by omega
  have cq0 : (r0).cell? ⟨w10.heap.size, 0, none⟩ = some (.int .i64 (kk : Int)) := by rw [cell_of_row _ _ _ _ _ _ rq.out]; rfl
  have cq1 : (r0).cell? ⟨w10.heap.size, 1, none⟩ = some (.slice AQ Q.u.length cQ) := by rw [cell_of_row _ _ _ _ _ _ rq.out]; rfl
  have cq2 : (r0).cell? ⟨w10.heap.size, 2, none⟩ = some (.slice BQ Q.d.length eQ) := by rw [cell_of_row _ _ _ _ _ _ rq.out]; rfl
  have lq : w10.heap.size < r0.heap.size := (Array.getElem?_eq_some_iff.1 rq.out).1
  go_region_held3 (fun u => u.cell? ⟨w10.heap.size, 0, none⟩ = some (.int .i64 (kk : Int)) ∧ u.cell? ⟨w10.heap.size, 1, none⟩ = some (.slice AQ Q.u.length cQ) ∧ u.cell? ⟨w10.heap.size, 2, none⟩ = some (.slice BQ Q.d.length eQ)) (refine ⟨?_, ?_, ?_⟩ <;> first | with_reducible assumption | (with_reducible refine cell_drew ?_; with_reducible assumption)) (first
    | (go_at_call 13
       have hct := digests_s Ab cAb M A1 c1 M u5 dAb (dM.below xu5)
       rw [SM.out] at hct
       refine hct.mono ?_
       rintro e u6 ⟨rfl, xa⟩
       have xu6 : Ext r0 u6 := Ext.trans xu5 xa
       clear hct xa
       have f0u6 : u6.cell? ⟨w10.heap.size, 0, none⟩ = some (.int .i64 (kk : Int)) := by rw [xu6.cell (by show w10.heap.size < _; exact lq)]; assumption
       have f1u6 : u6.cell? ⟨w10.heap.size, 1, none⟩ = some (.slice AQ Q.u.length cQ) := by rw [xu6.cell (by show w10.heap.size < _; exact lq)]; assumption
       have f2u6 : u6.cell? ⟨w10.heap.size, 2, none⟩ = some (.slice BQ Q.d.length eQ) := by rw [xu6.cell (by show w10.heap.size < _; exact lq)]; assumption)
    | (refine step_append_slg ?hw83 (.tmp 83) (.tmp 85) 23 ?ho83 u3.heap.size 49 j0 _ 32 32 Try.underlying23 HI.out HZ0.out HZ1.out HZ2.out (by simp [Value.cells, dg_size]) (by omega) vu4 kk (cellsD (M.take kk)) ?hs83 hou4 BQ Q.d.length eQ (cellsD Q.d) ?hx83 (dD.below xu4).sl (cellsD_one _) (by unfold maxLen; omega) (by omega) lzu4 ?hK83
       case hw83 => kernel_rfl
       case ho83 => rfl
       case hs83 => rfl
       case hx83 => rfl
       intro va u5 hwn hgr hat
       rw [HCL.out.2] at hwn
       rw [HKL2.out] at hwn
       obtain ⟨Ab, cAb, rfl, hi, _⟩ := Sl.of_own hwn
       have dAb : Ds u5 Ab cAb M := ⟨hi, dM.ok⟩
       have xu5 : Ext r0 u5 := Below.grown xu4 hgr xu4.size (fun q hq => Nat.le_trans xu3.size (hou4.lt q hq).1)
       clear hwn hi hgr hat
       have f0u5 : u5.cell? ⟨w10.heap.size, 0, none⟩ = some (.int .i64 (kk : Int)) := by rw [xu5.cell (by show w10.heap.size < _; exact lq)]; assumption
       have f1u5 : u5.cell? ⟨w10.heap.size, 1, none⟩ = some (.slice AQ Q.u.length cQ) := by rw [xu5.cell (by show w10.heap.size < _; exact lq)]; assumption
       have f2u5 : u5.cell? ⟨w10.heap.size, 2, none⟩ = some (.slice BQ Q.d.length eQ) := by rw [xu5.cell (by show w10.heap.size < _; exact lq)]; assumption)
    | (go_at_call 12
       have hct := kitnames_any A1 c1 (M.take kk) u3 ((dM.below xu3).take hk2) (by rw [List.length_take]; omega)
       rw [E2.out] at hct
       refine hct.mono ?_
       rintro e u4 ⟨vu4, rfl, hou4, xa⟩
       have xu4 : Ext r0 u4 := Ext.trans xu3 xa
       have lzu4 := xa.size
       clear hct xa
       have f0u4 : u4.cell? ⟨w10.heap.size, 0, none⟩ = some (.int .i64 (kk : Int)) := by rw [xu4.cell (by show w10.heap.size < _; exact lq)]; assumption
       have f1u4 : u4.cell? ⟨w10.heap.size, 1, none⟩ = some (.slice AQ Q.u.length cQ) := by rw [xu4.cell (by show w10.heap.size < _; exact lq)]; assumption
       have f2u4 : u4.cell? ⟨w10.heap.size, 2, none⟩ = some (.slice BQ Q.d.length eQ) := by rw [xu4.cell (by show w10.heap.size < _; exact lq)]; assumption)
    | (go_at_call 13
       have hct := digests_s Aa cAa L A0 c0 L u2 dAa (dL.below xu2)
       rw [SL.out] at hct
       refine hct.mono ?_
       rintro e u3 ⟨rfl, xa⟩
       have xu3 : Ext r0 u3 := Ext.trans xu2 xa
       clear hct xa
       have f0u3 : u3.cell? ⟨w10.heap.size, 0, none⟩ = some (.int .i64 (kk : Int)) := by rw [xu3.cell (by show w10.heap.size < _; exact lq)]; assumption
       have f1u3 : u3.cell? ⟨w10.heap.size, 1, none⟩ = some (.slice AQ Q.u.length cQ) := by rw [xu3.cell (by show w10.heap.size < _; exact lq)]; assumption
       have f2u3 : u3.cell? ⟨w10.heap.size, 2, none⟩ = some (.slice BQ Q.d.length eQ) := by rw [xu3.cell (by show w10.heap.size < _; exact lq)]; assumption)
    | (refine step_append_slg ?hw70 (.tmp 70) (.tmp 72) 23 ?ho70 r0.heap.size 49 j0 _ 32 32 Try.underlying23 HI.out HZ0.out HZ1.out HZ2.out (by simp [Value.cells, dg_size]) (by omega) vu1 kk (cellsD (L.take kk)) ?hs70 hou1 AQ Q.u.length cQ (cellsD Q.u) ?hx70 (dU.below xu1).sl (cellsD_one _) (by unfold maxLen; omega) (by omega) (xu1.size) ?hK70
       case hw70 => kernel_rfl
       case ho70 => rfl
       case hs70 => rfl
       case hx70 => rfl
       intro va u2 hwn hgr hat
       rw [HCL.out.1] at hwn
       rw [HKL1.out] at hwn
       obtain ⟨Aa, cAa, rfl, hi, _⟩ := Sl.of_own hwn
       have dAa : Ds u2 Aa cAa L := ⟨hi, dL.ok⟩
       have xu2 : Ext r0 u2 := Below.grown xu1 hgr xu1.size (fun q hq => Nat.le_trans (Nat.le_refl _) (hou1.lt q hq).1)
       clear hwn hi hgr hat
       have f0u2 : u2.cell? ⟨w10.heap.size, 0, none⟩ = some (.int .i64 (kk : Int)) := by rw [xu2.cell (by show w10.heap.size < _; exact lq)]; assumption
       have f1u2 : u2.cell? ⟨w10.heap.size, 1, none⟩ = some (.slice AQ Q.u.length cQ) := by rw [xu2.cell (by show w10.heap.size < _; exact lq)]; assumption
       have f2u2 : u2.cell? ⟨w10.heap.size, 2, none⟩ = some (.slice BQ Q.d.length eQ) := by rw [xu2.cell (by show w10.heap.size < _; exact lq)]; assumption)
    | (go_at_call 12
       have hct := kitnames_any A0 c0 (L.take kk) r0.drew (dL.drew.take hk1) (by rw [List.length_take]; omega)
       rw [E1.out] at hct
       refine hct.mono ?_
       rintro e u1 ⟨vu1, rfl, hou1, xa⟩
       have xu1 : Ext r0 u1 := Ext.trans (Ext.drew r0) xa
       have lzu1 := xa.size
       clear hct xa
       have f0u1 : u1.cell? ⟨w10.heap.size, 0, none⟩ = some (.int .i64 (kk : Int)) := by rw [xu1.cell (by show w10.heap.size < _; exact lq)]; assumption
       have f1u1 : u1.cell? ⟨w10.heap.size, 1, none⟩ = some (.slice AQ Q.u.length cQ) := by rw [xu1.cell (by show w10.heap.size < _; exact lq)]; assumption
       have f2u1 : u1.cell? ⟨w10.heap.size, 2, none⟩ = some (.slice BQ Q.d.length eQ) := by rw [xu1.cell (by show w10.heap.size < _; exact lq)]; assumption))
  clear f0u1 f1u1 f2u1 f0u2 f1u2 f2u2 f0u3 f1u3 f2u3 f0u4 f1u4 f2u4 f0u5 f1u5 f2u5 f0u6 f1u6 f2u6
  clear xu1 xu2 xu3 xu4 xu5 hou1 hou4 dAa dAb lq lzu1 lzu4 nl1 nl2 ni1 ni2 ni0 nb0 nb1 nb2 nb3 nb4 hcc0 hcc1
  clear cq0 cq1 cq2
  have dL := dL.below xu6
  have dM := dM.below xu6
  have dU := dU.below xu6
  have dD := dD.below xu6
  have hp := hp.ext xu6
  have pQ := pQ.ext xu6
  have rp := Lib.hid ((xu6.block _ (Array.getElem?_eq_some_iff.1 rp.out).1).trans rp.out)
  have rq := Lib.hid ((xu6.block _ (Array.getElem?_eq_some_iff.1 rq.out).1).trans rq.out)
  have x0 := Ext.trans x0 xu6
  clear xu6
  have cp0 : (u6).cell? ⟨w.heap.size, 0, none⟩ = some (.int .i64 pk) := by rw [cell_of_row _ _ _ _ _ _ rp.out]; rfl
  have cp1 : (u6).cell? ⟨w.heap.size, 1, none⟩ = some (.slice AU U.length cU) := by rw [cell_of_row _ _ _ _ _ _ rp.out]; rfl
  have cp2 : (u6).cell? ⟨w.heap.size, 2, none⟩ = some (.slice BD D.length cD) := by rw [cell_of_row _ _ _ _ _ _ rp.out]; rfl
  go_wp2_with fail
  clear cp0 cp1 cp2
  have hct := plan_any _ ⟨pk, U, D⟩ u6 hp (by dsimp only; omega) (by dsimp only; omega)
  refine hct.mono ?_
  rintro e w12 ⟨_, rfl, ⟨A12, c12, B12, d12, rfl, da, db⟩, y12⟩
  clear hct
  simp only at da db ⊢
  have dL := dL.below y12
  have dM := dM.below y12
  have dU := dU.below y12
  have dD := dD.below y12
  have hp := hp.ext y12
  have pQ := pQ.ext y12
  have rp := Lib.hid ((y12.block _ (Array.getElem?_eq_some_iff.1 rp.out).1).trans rp.out)
  have rq := Lib.hid ((y12.block _ (Array.getElem?_eq_some_iff.1 rq.out).1).trans rq.out)
  have x0 := Ext.trans x0 y12
  clear y12
  go_wp2_with fail
  have hct := kitnames_any A0 c0 L w12 dL (by omega)
  refine hct.mono ?_
  rintro e w13 ⟨_, rfl, ho, y13⟩
  clear hct
  obtain ⟨A13, c13, rfl, hi, _⟩ := Sl.of_own ho
  have dn : Ds w13 A13 c13 L := ⟨hi, dL.ok⟩
  clear ho hi
  have dL := dL.below y13
  have dM := dM.below y13
  have dU := dU.below y13
  have dD := dD.below y13
  have da := da.below y13
  have db := db.below y13
  have hp := hp.ext y13
  have pQ := pQ.ext y13
  have rp := Lib.hid ((y13.block _ (Array.getElem?_eq_some_iff.1 rp.out).1).trans rp.out)
  have rq := Lib.hid ((y13.block _ (Array.getElem?_eq_some_iff.1 rq.out).1).trans rq.out)
  have x0 := Ext.trans x0 y13
  clear y13
  go_wp2_with fail
  have hct := apply_any _ ⟨pk, U, D⟩ A13 c13 L w13 ⟨A12, c12, B12, d12, rfl, da, db⟩ dn (by dsimp only; omega) (by dsimp only; omega) (by omega)
  rw [HAP.out] at hct
  refine hct.mono ?_
  rintro e w14 ⟨_, rfl, ⟨A14, c14, rfl, ds⟩, y14⟩
  clear hct
  simp only [List.length_nil] at ds ⊢
  have dL := dL.below y14
  have dM := dM.below y14
  have dU := dU.below y14
  have dD := dD.below y14
  have da := da.below y14
  have db := db.below y14
  have dn := dn.below y14
  have hp := hp.ext y14
  have pQ := pQ.ext y14
  have rp := Lib.hid ((y14.block _ (Array.getElem?_eq_some_iff.1 rp.out).1).trans rp.out)
  have rq := Lib.hid ((y14.block _ (Array.getElem?_eq_some_iff.1 rq.out).1).trans rq.out)
  have x0 := Ext.trans x0 y14
  clear y14
  clear da db dn
  have hne := HER.out
  have cq0 : (w14).cell? ⟨w10.heap.size, 0, none⟩ = some (.int .i64 (kk : Int)) := by rw [cell_of_row _ _ _ _ _ _ rq.out]; rfl
  have cq1 : (w14).cell? ⟨w10.heap.size, 1, none⟩ = some (.slice AQ Q.u.length cQ) := by rw [cell_of_row _ _ _ _ _ _ rq.out]; rfl
  have cq2 : (w14).cell? ⟨w10.heap.size, 2, none⟩ = some (.slice BQ Q.d.length eQ) := by rw [cell_of_row _ _ _ _ _ _ rq.out]; rfl
  go_wp2_with fail
  clear cq0 cq1 cq2
  have rowq : ∀ u, Ext w14 u → u.heap[w10.heap.size]? = some (.cells #[.int .i64 (kk : Int), .slice AQ Q.u.length cQ, .slice BQ Q.d.length eQ] 25 (0, 0)) := fun u hu => (hu.block _ (Array.getElem?_eq_some_iff.1 rq.out).1).trans rq.out
  have mq0 : ∀ u, Ext w14 u → u.cell? ⟨w10.heap.size, 0, none⟩ = some (.int .i64 (kk : Int)) := fun u hu => by rw [cell_of_row _ _ _ _ _ _ (rowq u hu)]; rfl
  have mq1 : ∀ u, Ext w14 u → u.cell? ⟨w10.heap.size, 1, none⟩ = some (.slice AQ Q.u.length cQ) := fun u hu => by rw [cell_of_row _ _ _ _ _ _ (rowq u hu)]; rfl
  have mq2 : ∀ u, Ext w14 u → u.cell? ⟨w10.heap.size, 2, none⟩ = some (.slice BQ Q.d.length eQ) := fun u hu => by rw [cell_of_row _ _ _ _ _ _ (rowq u hu)]; rfl
  go_loopw [13] (fun i wr => ∃ j : Nat, j ≤ kk ∧ i = .int .i64 (j : Int) ∧ Ext w14 wr) (fun i _ => kk - (intOf i).toNat)
  case atStart => exact ⟨0, by omega, rfl, Ext.refl _⟩
  case round =>
    obtain ⟨j, hj, rfl, hwr⟩ := hrel
    have cc := mq0 _ hwr
    by_cases hjl : j < kk
    · have hLr := (dL.below hwr).cut (lo := j) (hi := L.length) (by omega) (Nat.le_refl _)
      have hMr := (dM.below hwr).cut (lo := j) (hi := M.length) (by omega) (Nat.le_refl _)
      rw [List.take_length] at hLr hMr
      have G1 := Lib.hid (show (L.drop j).length = L.length - j by simp)
      have G2 := Lib.hid (show (M.drop j).length = M.length - j by simp)
      have HC := Lib.hid (HLESS.out j hjl)
      have hjL : j ≤ L.length := by omega
      have hjM : j ≤ M.length := by omega
      have hc0 := dL.sl.le
      have hc1 := dM.sl.le
      clear HLI HF1 HKL1 HKL2 HCL HLESS HDQ HQK HNx HNy HOx HOy SL SM SQ HQ HAP HI HZ0 HZ1 HZ2 E1 E2 mq0 mq1 mq2 rowq pQ hp dU dD ds rp rq hrx hry hX hY qu qd
      go_wp2_with fail
      obtain ⟨S0, hS0⟩ : ∃ S, S = (if c0 = j then A0 else Option.map (fun x => x.add (j * 32)) A0) := ⟨_, rfl⟩
      obtain ⟨S1, hS1⟩ : ∃ S, S = (if c1 = j then A1 else Option.map (fun x => x.add (j * 32)) A1) := ⟨_, rfl⟩
      rw [← hS0] at hLr
      rw [← hS1] at hMr
      have HS0 := Lib.hid hS0
      have HS1 := Lib.hid hS1
      clear hS0 hS1
      refine wp_region_layt [Fact.val (.int .i64 (j : Int)), Fact.val (.slice A0 L.length c0), Fact.val (.int .i64 (j : Int)), Fact.val (.slice S0 (L.drop j).length (c0 - j)), Fact.ds ((L.drop j)), Fact.val (.slice A1 M.length c1), Fact.val (.int .i64 (j : Int)), Fact.val (.slice S1 (M.drop j).length (c1 - j)), Fact.ds ((M.drop j)), Fact.plan (⟨(j : Int), (L.drop j), (M.drop j)⟩), Fact.cells (#[.int .i64 0, .slice none 0 0, .slice none 0 0]) 25 (wr.heap.size)] (wr) _ 11 (by kernel_rfl) (by kernel_rfl) (by kernel_rfl) (by kernel_rfl) (by kernel_rfl) (by kernel_rfl) (Ext.refl _) ?_ ?_
      · refine ⟨?_, ?_, ?_, ?_, ?_, ?_, ?_, ?_, ?_, ?_, ?_, trivial⟩
        · intro a u hx hd hr
          rw [if_pos (wanted_none rfl)]
          exact Y_copy (.inl rfl) (hr 13 rfl)
        · intro a u hx hd hr
          rw [if_pos (wanted_none rfl)]
          exact Y_copy (.inl rfl) (hr 7 rfl)
        · intro a u hx hd hr
          rw [if_pos (wanted_none rfl)]
          exact Y_copy (.inl rfl) (hr 13 rfl)
        · intro a u hx hd hr
          rw [if_pos (wanted_none rfl)]
          have e119 : a.eval (.tmp 119) = .slice A0 L.length c0 := hd 1 119 rfl rfl
          have e120 : a.eval (.tmp 120) = .int .i64 (j : Int) := hd 2 120 rfl rfl
          clear hd hr
          simp only [Act.eval, Array.getD_eq_getD_getElem?] at e119 e120
          exact Y_val (v := .slice S0 (L.drop j).length (c0 - j)) (by rw [G1.out, HS0.out]; go_simp) rfl
        · intro a u hx hd hr
          rw [if_pos (wanted_none rfl)]
          have e121 : a.eval (.tmp 121) = .slice S0 (L.drop j).length (c0 - j) := hd 3 121 rfl rfl
          clear hd hr
          refine Y_calls (f := 12) (args := #[(a.eval (.tmp 121))]) (by go_simp) ?_
          rw [e121]
          exact (kitnames_any S0 (c0 - j) (L.drop j) _ (hLr.below hx) (by first | (rw [G1.out]; omega) | (rw [G2.out]; omega))).mono fun e u2 ⟨v, hv, ho, hx2⟩ => ⟨v, hv, IsD.own ho (hLr.below hx).ok, hx2⟩
        · intro a u hx hd hr
          rw [if_pos (wanted_none rfl)]
          exact Y_copy (.inl rfl) (hr 8 rfl)
        · intro a u hx hd hr
          rw [if_pos (wanted_none rfl)]
          exact Y_copy (.inl rfl) (hr 13 rfl)
        · intro a u hx hd hr
          rw [if_pos (wanted_none rfl)]
          have e123 : a.eval (.tmp 123) = .slice A1 M.length c1 := hd 5 123 rfl rfl
          have e124 : a.eval (.tmp 124) = .int .i64 (j : Int) := hd 6 124 rfl rfl
          clear hd hr
          simp only [Act.eval, Array.getD_eq_getD_getElem?] at e123 e124
          exact Y_val (v := .slice S1 (M.drop j).length (c1 - j)) (by rw [G2.out, HS1.out]; go_simp) rfl
        · intro a u hx hd hr
          rw [if_pos (wanted_none rfl)]
          have e125 : a.eval (.tmp 125) = .slice S1 (M.drop j).length (c1 - j) := hd 7 125 rfl rfl
          clear hd hr
          refine Y_calls (f := 12) (args := #[(a.eval (.tmp 125))]) (by go_simp) ?_
          rw [e125]
          exact (kitnames_any S1 (c1 - j) (M.drop j) _ (hMr.below hx) (by first | (rw [G1.out]; omega) | (rw [G2.out]; omega))).mono fun e u2 ⟨v, hv, ho, hx2⟩ => ⟨v, hv, IsD.own ho (hMr.below hx).ok, hx2⟩
        · intro a u hx hd hr
          rw [if_pos (wanted_none rfl)]
          have e118 : a.eval (.tmp 118) = .int .i64 (j : Int) := hd 0 118 rfl rfl
          obtain ⟨A122, c122, e122, d122⟩ : IsD ((L.drop j)) (a.eval (.tmp 122)) u := hd 4 122 rfl rfl
          obtain ⟨A126, c126, e126, d126⟩ : IsD ((M.drop j)) (a.eval (.tmp 126)) u := hd 8 126 rfl rfl
          clear hd hr
          simp only [Act.eval, Array.getD_eq_getD_getElem?] at e118 e122 e126
          exact Y_val (v := .agg #[.int .i64 (j : Int), .slice A122 ((L.drop j)).length c122, .slice A126 ((M.drop j)).length c126]) (by go_simp) ⟨A122, c122, A126, c126, rfl, d122, d126⟩
        · intro a u hx hd hr
          rw [if_pos (wanted_none rfl)]
          clear hd hr
          exact Y_value (v := .pointer (some ⟨u.heap.size, 0, none⟩)) (w' := u.alloc (.cells #[.int .i64 0, .slice none 0 0, .slice none 0 0] 25)) (by go_simp) ⟨u.heap.size, rfl, hx.size, heap_alloc_new u _⟩ (Ext.alloc u _)
      intro f t2 y2 hF
      have f0 : f 0 = .int .i64 (j : Int) := hF 0 118 (by decide) rfl
      have f1 : f 1 = .slice A0 L.length c0 := hF 1 119 (by decide) rfl
      have f2 : f 2 = .int .i64 (j : Int) := hF 2 120 (by decide) rfl
      have f3 : f 3 = .slice S0 (L.drop j).length (c0 - j) := hF 3 121 (by decide) rfl
      have f5 : f 5 = .slice A1 M.length c1 := hF 5 123 (by decide) rfl
      have f6 : f 6 = .int .i64 (j : Int) := hF 6 124 (by decide) rfl
      have f7 : f 7 = .slice S1 (M.drop j).length (c1 - j) := hF 7 125 (by decide) rfl
      obtain ⟨v9, f9, dp9⟩ : ∃ v, f 9 = v ∧ IsPlan t2 v (⟨(j : Int), (L.drop j), (M.drop j)⟩) := ⟨_, rfl, hF 9 127 (by decide) rfl⟩
      obtain ⟨g10, f10, hg10, k10⟩ : ∃ g, f 10 = .pointer (some ⟨g, 0, none⟩) ∧ wr.heap.size ≤ g ∧ t2.heap[g]? = some (.cells #[.int .i64 0, .slice none 0 0, .slice none 0 0] 25 (0, 0)) := hF 10 14 (by decide) rfl
      clear hF
      simp only [List.take_succ_cons, List.take_zero, List.drop_succ_cons, List.drop_zero, puts, Act.put, List.setIfInBounds_toArray, List.set_cons_succ, List.set_cons_zero, Nat.zero_add, Nat.reduceAdd, f0, f1, f2, f3, f5, f6, f7, f9, f10]
      clear f0 f1 f2 f3 f5 f6 f7 f9 f10
      generalize f 4 = y4
      generalize f 8 = y8
      obtain ⟨B1, e1, B2, e2, rfl, d1, d2⟩ := dp9
      simp only at d1 d2 ⊢
      simp only [G1.out, G2.out]
      have z0 : t2.cell? ⟨g10, 0, none⟩ = some (.int .i64 0) := by rw [cell_of_row _ _ _ _ _ _ k10]; rfl
      have n0 := frozen_of_row t2 g10 0 _ _ k10
      have z1 : t2.cell? ⟨g10, 1, none⟩ = some (.slice none 0 0) := by rw [cell_of_row _ _ _ _ _ _ k10]; rfl
      have n1 := frozen_of_row t2 g10 1 _ _ k10
      have z2 : t2.cell? ⟨g10, 2, none⟩ = some (.slice none 0 0) := by rw [cell_of_row _ _ _ _ _ _ k10]; rfl
      have n2 := frozen_of_row t2 g10 2 _ _ k10
      have rl := Lib.hid (cells3 (.int .i64 (j : Int)) (.slice B1 (L.length - j) e1) (.slice B2 (M.length - j) e2) k10)
      have y3 : Ext wr (((t2.setCell ⟨g10, 0, none⟩ (.int .i64 (j : Int))).setCell ⟨g10, 1, none⟩ (.slice B1 (L.length - j) e1)).setCell ⟨g10, 2, none⟩ (.slice B2 (M.length - j) e2)) := y2.set3 hg10 _ _ _
      have pl : IsPlan (((t2.setCell ⟨g10, 0, none⟩ (.int .i64 (j : Int))).setCell ⟨g10, 1, none⟩ (.slice B1 (L.length - j) e1)).setCell ⟨g10, 2, none⟩ (.slice B2 (M.length - j) e2)) (.agg #[.int .i64 (j : Int), .slice B1 (L.length - j) e1, .slice B2 (M.length - j) e2]) ⟨(j : Int), L.drop j, M.drop j⟩ := ⟨B1, e1, B2, e2, by simp only [G1.out, G2.out], d1.apart k10 _ (other3 _ _ _), d2.apart k10 _ (other3 _ _ _)⟩
      clear d1 d2 y2 hg10
      have k10 := Lib.hid k10
      have l0 : (((t2.setCell ⟨g10, 0, none⟩ (.int .i64 (j : Int))).setCell ⟨g10, 1, none⟩ (.slice B1 (L.length - j) e1)).setCell ⟨g10, 2, none⟩ (.slice B2 (M.length - j) e2)).cell? ⟨g10, 0, none⟩ = some (.int .i64 (j : Int)) := by rw [cell_of_row _ _ _ _ _ _ rl.out]; rfl
      have l1 : (((t2.setCell ⟨g10, 0, none⟩ (.int .i64 (j : Int))).setCell ⟨g10, 1, none⟩ (.slice B1 (L.length - j) e1)).setCell ⟨g10, 2, none⟩ (.slice B2 (M.length - j) e2)).cell? ⟨g10, 1, none⟩ = some (.slice B1 (L.length - j) e1) := by rw [cell_of_row _ _ _ _ _ _ rl.out]; rfl
      have l2 : (((t2.setCell ⟨g10, 0, none⟩ (.int .i64 (j : Int))).setCell ⟨g10, 1, none⟩ (.slice B1 (L.length - j) e1)).setCell ⟨g10, 2, none⟩ (.slice B2 (M.length - j) e2)).cell? ⟨g10, 2, none⟩ = some (.slice B2 (M.length - j) e2) := by rw [cell_of_row _ _ _ _ _ _ rl.out]; rfl
      go_wp2_with fail
      clear z0 z1 z2 n0 n1 n2 k10 l0 l1 l2 rl
      generalize ((t2.setCell ⟨g10, 0, none⟩ (.int .i64 (j : Int))).setCell ⟨g10, 1, none⟩ (.slice B1 (L.length - j) e1)).setCell ⟨g10, 2, none⟩ (.slice B2 (M.length - j) e2) = t3 at *
      have hwr3 := Ext.trans hwr y3
      have hct := check_any _ ⟨(j : Int), L.drop j, M.drop j⟩ t3 pl (by dsimp only; rw [G1.out]; omega) (by dsimp only; rw [G2.out]; omega)
      rw [HC.out] at hct
      refine hct.mono ?_
      rintro e t4 ⟨rfl, y4⟩
      have hwr4 := Ext.trans hwr3 y4
      clear hct y4
      go_wp2_with fail
      go_roundw
      case rel => exact ⟨j + 1, by omega, by go_num, hwr4⟩
      case measure => simp [intOf]; omega
    · have hjn : ¬ ((j : Int) < (kk : Int)) := by omega
      clear hj
      go_wp2_with fail
      have rowr : ∀ u, Ext wr u → u.heap[w10.heap.size]? = some (.cells #[.int .i64 (kk : Int), .slice AQ Q.u.length cQ, .slice BQ Q.d.length eQ] 25 (0, 0)) := fun u hu => rowq u (Ext.trans hwr hu)
      have mr0 : ∀ u, Ext wr u → u.cell? ⟨w10.heap.size, 0, none⟩ = some (.int .i64 (kk : Int)) := fun u hu => mq0 u (Ext.trans hwr hu)
      have mr1 : ∀ u, Ext wr u → u.cell? ⟨w10.heap.size, 1, none⟩ = some (.slice AQ Q.u.length cQ) := fun u hu => mq1 u (Ext.trans hwr hu)
      have mr2 : ∀ u, Ext wr u → u.cell? ⟨w10.heap.size, 2, none⟩ = some (.slice BQ Q.d.length eQ) := fun u hu => mq2 u (Ext.trans hwr hu)
      have pQr := pQ.ext hwr
      have dLr := dL.below hwr
      refine wp_region_layt [Fact.val (.agg #[.int .i64 (kk : Int), .slice AQ Q.u.length cQ, .slice BQ Q.d.length eQ]), Fact.val (.int .i64 ((L.length : Int) - (kk : Int))), Fact.val (.slice A0 L.length c0), Fact.val (.int .i64 ((L).length : Nat)), Fact.val (.pointer (some ⟨w10.heap.size, 0, none⟩)), Fact.val (.int .i64 (kk : Int)), Fact.val (.int .i64 ((L.length : Int) - (kk : Int))), Fact.val (.bool true), Fact.val (.bool true), Fact.val (.agg #[.int .i64 (kk : Int), .slice AQ Q.u.length cQ, .slice BQ Q.d.length eQ]), Fact.val (.agg #[.int .i64 (kk : Int), .slice AQ Q.u.length cQ, .slice BQ Q.d.length eQ]), Fact.val (.bool true), Fact.val (.bool true), Fact.val (.bool true)] (wr) _ 14 (by kernel_rfl) (by kernel_rfl) (by kernel_rfl) (by kernel_rfl) (by kernel_rfl) (by kernel_rfl) (Ext.refl _) ?_ ?_
      · refine ⟨?_, ?_, ?_, ?_, ?_, ?_, ?_, ?_, ?_, ?_, ?_, ?_, ?_, ?_, trivial⟩
        · intro a u hx hd hr
          rw [if_pos (wanted_none rfl)]
          have e9 : a.eval (.tmp 9) = .pointer (some ⟨w10.heap.size, 0, none⟩) := hr 9 rfl
          exact Y_load_row 25 (.tmp 9) rfl _ e9 _ _ _ _ (rowr _ hx) Try.underlying25 rfl (by kernel_rfl) rfl
        · intro a u hx hd hr
          rw [if_pos (wanted_none rfl)]
          have e131 : a.eval (.tmp 131) = .agg #[.int .i64 (kk : Int), .slice AQ Q.u.length cQ, .slice BQ Q.d.length eQ] := hd 0 131 rfl rfl
          clear hd hr
          refine Y_calls (f := 18) (args := #[(a.eval (.tmp 131))]) (by go_simp) ?_
          rw [e131]
          exact (depth_s _ Q _ (pQr.ext hx) (by first | omega | (dsimp only; omega) | (simp; done) | (simp; omega)) (by first | omega | (dsimp only; omega) | (simp; done) | (simp; omega))).mono fun e u2 k => ⟨_, k.1.trans (by rw [HDQ.out]), rfl, k.2⟩
        · intro a u hx hd hr
          rw [if_pos (wanted_none rfl)]
          exact Y_copy (.inl rfl) (hr 7 rfl)
        · intro a u hx hd hr
          rw [if_pos (wanted_none rfl)]
          have e133 : a.eval (.tmp 133) = .slice A0 L.length c0 := hd 2 133 rfl rfl
          clear hd hr
          simp only [Act.eval, Array.getD_eq_getD_getElem?] at e133
          exact Y_val (v := .int .i64 ((L).length : Nat)) (by go_simp) rfl
        · intro a u hx hd hr
          rw [if_pos (wanted_none rfl)]
          have e9 : a.eval (.tmp 9) = .pointer (some ⟨w10.heap.size, 0, none⟩) := hr 9 rfl
          clear hd hr
          simp only [Act.eval, Array.getD_eq_getD_getElem?] at e9
          exact Y_val (v := .pointer (some ⟨w10.heap.size, 0, none⟩)) (by go_simp) rfl
        · intro a u hx hd hr
          rw [if_pos (wanted_none rfl)]
          have e135 : a.eval (.tmp 135) = .pointer (some ⟨w10.heap.size, 0, none⟩) := hd 4 135 rfl rfl
          have ec := mr0 _ hx
          clear hd hr
          simp only [Act.eval, Array.getD_eq_getD_getElem?] at e135
          exact Y_val (v := .int .i64 (kk : Int)) (by go_simp) rfl
        · intro a u hx hd hr
          rw [if_pos (wanted_none rfl)]
          have e134 : a.eval (.tmp 134) = .int .i64 ((L).length : Nat) := hd 3 134 rfl rfl
          have e136 : a.eval (.tmp 136) = .int .i64 (kk : Int) := hd 5 136 rfl rfl
          clear hd hr
          simp only [Act.eval, Array.getD_eq_getD_getElem?] at e134 e136
          exact Y_val (v := .int .i64 ((L.length : Int) - (kk : Int))) (by go_simp) rfl
        · intro a u hx hd hr
          rw [if_pos (wanted_none rfl)]
          have e132 : a.eval (.tmp 132) = .int .i64 ((L.length : Int) - (kk : Int)) := hd 1 132 rfl rfl
          have e137 : a.eval (.tmp 137) = .int .i64 ((L.length : Int) - (kk : Int)) := hd 6 137 rfl rfl
          clear hd hr
          simp only [Act.eval, Array.getD_eq_getD_getElem?] at e132 e137
          exact Y_val (v := .bool true) (by go_simp) rfl
        · intro a u hx hd hr
          rw [if_pos (wanted_none rfl)]
          exact Y_copy (.inl rfl) (hd 7 138 rfl rfl)
        · intro a u hx hd hr
          have eg : a.eval (.tmp 139) = .bool true := hd 8 139 rfl rfl
          rw [if_pos (by rw [wanted_some rfl rfl eg]; rfl)]
          have e9 : a.eval (.tmp 9) = .pointer (some ⟨w10.heap.size, 0, none⟩) := hr 9 rfl
          exact Y_load_row 25 (.tmp 9) rfl _ e9 _ _ _ _ (rowr _ hx) Try.underlying25 rfl (by kernel_rfl) rfl
        · intro a u hx hd hr
          have eg : a.eval (.tmp 139) = .bool true := hd 8 139 rfl rfl
          rw [if_pos (by rw [wanted_some rfl rfl eg]; rfl)]
          have e9 : a.eval (.tmp 9) = .pointer (some ⟨w10.heap.size, 0, none⟩) := hr 9 rfl
          exact Y_load_row 25 (.tmp 9) rfl _ e9 _ _ _ _ (rowr _ hx) Try.underlying25 rfl (by kernel_rfl) rfl
        · intro a u hx hd hr
          have eg : a.eval (.tmp 139) = .bool true := hd 8 139 rfl rfl
          rw [if_pos (by rw [wanted_some rfl rfl eg]; rfl)]
          have e140 : a.eval (.tmp 140) = .agg #[.int .i64 (kk : Int), .slice AQ Q.u.length cQ, .slice BQ Q.d.length eQ] := hd 9 140 rfl rfl
          have e141 : a.eval (.tmp 141) = .agg #[.int .i64 (kk : Int), .slice AQ Q.u.length cQ, .slice BQ Q.d.length eQ] := hd 10 141 rfl rfl
          clear hd hr
          refine Y_calls (f := 19) (args := #[(a.eval (.tmp 140)), (a.eval (.tmp 141))]) (by go_simp) ?_
          rw [e140, e141]
          exact (same_s _ Q _ Q _ (pQr.ext hx) (pQr.ext hx)).mono fun e u2 k => ⟨_, k.1.trans (by rw [SQ.out]), rfl, k.2⟩
        · intro a u hx hd hr
          rw [if_pos (wanted_none rfl)]
          have e139 : a.eval (.tmp 139) = .bool true := hd 8 139 rfl rfl
          exact Y_pick rfl e139 (hd 11 142 rfl rfl)
        · intro a u hx hd hr
          rw [if_pos (wanted_none rfl)]
          exact Y_copy (.inr rfl) (hd 12 143 rfl rfl)
      intro f wq hwq hF
      have fz : f 13 = .bool true := hF 13 6 (by decide) rfl
      clear hF
      refine wpList_nil ?_
      generalize hq : puts f 0 _ _ = aq
      have hs : aq.tmps.getD 6 undef = .bool true := by rw [← fz, ← hq]; kernel_rfl
      have hdf : aq.defers = [] := by rw [← hq]; kernel_rfl
      clear hq fz f
      go_wp2_with fail
      refine bodyPost_ret (v := .bool true) (by rw [results_tmp rfl, hs]) hdf ⟨rfl, Ext.trans (Ext.trans x0 hwr) hwq⟩
end Go.Proofs.Ytigcfbpgbenabaa
