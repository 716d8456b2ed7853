import Derived.Test.YtigcfbpgbenabaaPure
import Derived.Test.YtigcfbpgbenabaaRNam
import Derived.Deep.RegionHeld3
namespace Go.Proofs.Ytigcfbpgbenabaa
open Go.RowKit

theorem cell_alloc {w : World} {a : Addr} {v : Value} {o : Obj} (h : w.cell? a = some v) : (w.alloc o).cell? a = some v := by
  rw [World.cell?_of_block (w := w) (Below.heap_alloc _ _ _ (World.block_lt_of_cell? w _ h))]; exact h
theorem cell_drew {w : World} {a : Addr} {v : Value} (h : w.cell? a = some v) : w.drew.cell? a = some v := h
theorem cell_set3 {w : World} {g : Nat} {x y z : Value} {a : Addr} {v : Value} (h : w.cell? a = some v) (hn : a.block ≠ g) :
    (((w.setCell ⟨g, 0, none⟩ x).setCell ⟨g, 1, none⟩ y).setCell ⟨g, 2, none⟩ z).cell? a = some v := by
  rw [World.cell?_of_block (w := w) (other3 x y z _ hn)]; exact h

set_option maxRecDepth 100000 in
set_option maxHeartbeats 8000000 in
theorem leads_manyx (X : Option Addr) (cx : Nat) (x : List Int) (Y : Option Addr) (cy : Nat) (y : List Int) (Z : Option Addr) (cz : Nat) (z : List Int) (w : World) (hX : Is w X cx x) (hY : Is w Y cy y) (hZ : Is w Z cz z)
    (hrx : ∀ i ∈ x, -9223372036854775808 ≤ i ∧ i ≤ 9223372036854775807) (hry : ∀ i ∈ y, -9223372036854775808 ≤ i ∧ i ≤ 9223372036854775807) (hrz : ∀ i ∈ z, -9223372036854775808 ≤ i ∧ i ≤ 9223372036854775807)
     (hz : 40 < x.length) :
    Calls Try.prog 6 #[.slice X x.length cx, .slice Y y.length cy, .slice Z z.length cz] w fun e w' => e = .returned (.bool true) ∧ Ext w w' := by
  have iz : (40 : Int) < (x.length : Int) := by omega
  clear hz
  have x0 := Ext.refl w
  go_enter Try.func6, Try.ntmps6
  go_wp2_with fail
  have hct := lives_any w
  refine hct.mono ?_
  rintro e w1 ⟨rfl, y1⟩
  clear hct
  have x0 := Ext.trans x0 y1
  clear y1
  go_wp2_with fail
  go_ret
  exact ⟨rfl, x0⟩

set_option maxRecDepth 100000 in
set_option maxHeartbeats 8000000 in
theorem leads_manyy (X : Option Addr) (cx : Nat) (x : List Int) (Y : Option Addr) (cy : Nat) (y : List Int) (Z : Option Addr) (cz : Nat) (z : List Int) (w : World) (hX : Is w X cx x) (hY : Is w Y cy y) (hZ : Is w Z cz z)
    (hrx : ∀ i ∈ x, -9223372036854775808 ≤ i ∧ i ≤ 9223372036854775807) (hry : ∀ i ∈ y, -9223372036854775808 ≤ i ∧ i ≤ 9223372036854775807) (hrz : ∀ i ∈ z, -9223372036854775808 ≤ i ∧ i ≤ 9223372036854775807)
    (h0 : x.length ≤ 40) (hz : 40 < y.length) :
    Calls Try.prog 6 #[.slice X x.length cx, .slice Y y.length cy, .slice Z z.length cz] w fun e w' => e = .returned (.bool true) ∧ Ext w w' := by
  have i0 : (x.length : Int) ≤ 40 := by omega
  have iz : (40 : Int) < (y.length : Int) := by omega
  clear hz h0
  have x0 := Ext.refl w
  go_enter Try.func6, Try.ntmps6
  go_wp2_with fail
  have hct := lives_any w
  refine hct.mono ?_
  rintro e w1 ⟨rfl, y1⟩
  clear hct
  have x0 := Ext.trans x0 y1
  clear y1
  go_wp2_with fail
  go_ret
  exact ⟨rfl, x0⟩

set_option maxRecDepth 100000 in
set_option maxHeartbeats 8000000 in
theorem leads_manyz (X : Option Addr) (cx : Nat) (x : List Int) (Y : Option Addr) (cy : Nat) (y : List Int) (Z : Option Addr) (cz : Nat) (z : List Int) (w : World) (hX : Is w X cx x) (hY : Is w Y cy y) (hZ : Is w Z cz z)
    (hrx : ∀ i ∈ x, -9223372036854775808 ≤ i ∧ i ≤ 9223372036854775807) (hry : ∀ i ∈ y, -9223372036854775808 ≤ i ∧ i ≤ 9223372036854775807) (hrz : ∀ i ∈ z, -9223372036854775808 ≤ i ∧ i ≤ 9223372036854775807)
    (h0 : x.length ≤ 40) (h1 : y.length ≤ 40) (hz : 40 < z.length) :
    Calls Try.prog 6 #[.slice X x.length cx, .slice Y y.length cy, .slice Z z.length cz] w fun e w' => e = .returned (.bool true) ∧ Ext w w' := by
  have i0 : (x.length : Int) ≤ 40 := by omega
  have i1 : (y.length : Int) ≤ 40 := by omega
  have iz : (40 : Int) < (z.length : Int) := by omega
  clear hz h0 h1
  have x0 := Ext.refl w
  go_enter Try.func6, Try.ntmps6
  go_wp2_with fail
  have hct := lives_any w
  refine hct.mono ?_
  rintro e w1 ⟨rfl, y1⟩
  clear hct
  have x0 := Ext.trans x0 y1
  clear y1
  go_wp2_with fail
  go_ret
  exact ⟨rfl, x0⟩

set_option maxRecDepth 100000 in
set_option maxHeartbeats 8000000 in
theorem leads_all (X : Option Addr) (cx : Nat) (x : List Int) (Y : Option Addr) (cy : Nat) (y : List Int) (Z : Option Addr) (cz : Nat) (z : List Int) (w : World) (hX : Is w X cx x) (hY : Is w Y cy y) (hZ : Is w Z cz z)
    (hrx : ∀ i ∈ x, -9223372036854775808 ≤ i ∧ i ≤ 9223372036854775807) (hry : ∀ i ∈ y, -9223372036854775808 ≤ i ∧ i ≤ 9223372036854775807) (hrz : ∀ i ∈ z, -9223372036854775808 ≤ i ∧ i ≤ 9223372036854775807)
    (h0 : x.length ≤ 40) (h1 : y.length ≤ 40) (h2 : z.length ≤ 40) :
    Calls Try.prog 6 #[.slice X x.length cx, .slice Y y.length cy, .slice Z z.length cz] w fun e w' => e = .returned (.bool true) ∧ Ext w w' := by
  have i0 : (x.length : Int) ≤ 40 := by omega
  have i1 : (y.length : Int) ≤ 40 := by omega
  have i2 : (z.length : Int) ≤ 40 := by omega
  obtain ⟨L, hL⟩ : ∃ L, L = nameL x := ⟨_, rfl⟩
  obtain ⟨M, hM⟩ : ∃ M, M = nameL y := ⟨_, rfl⟩
  obtain ⟨J, hJ⟩ : ∃ J, J = nameL z := ⟨_, rfl⟩
  have nL : L.Nodup := by rw [hL]; exact nameL_nodup x
  have nM : M.Nodup := by rw [hM]; exact nameL_nodup y
  have nJ : J.Nodup := by rw [hJ]; exact nameL_nodup z
  have lL : L.length ≤ 40 := by rw [hL]; exact Nat.le_trans (nameL_len x) h0
  have lM : M.length ≤ 40 := by rw [hM]; exact Nat.le_trans (nameL_len y) h1
  have lJ : J.length ≤ 40 := by rw [hJ]; exact Nat.le_trans (nameL_len z) h2
  have F1 := from_nodup nL nM
  have F2 := from_nodup nM nJ
  have F3 := from_nodup nL nJ
  have C1 := check_planF nL nM
  have A1 := apply_planF nL nM
  have B1 := back_planF nL nM
  have A2 := apply_planF nM nL
  have T1 := then_planF nL nM nJ
  have A3 := apply_planF nL nJ
  have u1 := planF_u L M
  have u2 := planF_d L M
  have u3 := planF_u M J
  have u4 := planF_d M J
  have u5 := planF_u L J
  have u6 := planF_d L J
  have u7 := planF_u M L
  have u8 := planF_d M L
  obtain ⟨P, hP⟩ : ∃ P, P = planF L M := ⟨_, rfl⟩
  obtain ⟨Q, hQ⟩ : ∃ Q, Q = planF M J := ⟨_, rfl⟩
  obtain ⟨R, hR⟩ : ∃ R, R = planF L J := ⟨_, rfl⟩
  obtain ⟨B, hB⟩ : ∃ B, B = planF M L := ⟨_, rfl⟩
  rw [← hP] at F1 C1 A1 B1 T1 u1 u2
  rw [← hQ] at F2 T1 u3 u4
  rw [← hR] at F3 T1 A3 u5 u6
  rw [← hB] at B1 A2 u7 u8
  have HF1 := Lib.hid F1
  have HF2 := Lib.hid F2
  have HF3 := Lib.hid F3
  have HC1 := Lib.hid C1
  have HA1 := Lib.hid A1
  have HB1 := Lib.hid B1
  have HA2 := Lib.hid A2
  have HT1 := Lib.hid T1
  have HA3 := Lib.hid A3
  have HNx : Hid (L = (onceI x).map nd) := Lib.hid hL
  have HNy : Hid (M = (onceI y).map nd) := Lib.hid hM
  have HNz : Hid (J = (onceI z).map nd) := Lib.hid hJ
  have HOx := Lib.hid (onceI_ok x).2.2
  have HOy := Lib.hid (onceI_ok y).2.2
  have HOz := Lib.hid (onceI_ok z).2.2
  have SL := Lib.hid (sameD_refl L)
  have SM := Lib.hid (sameD_refl M)
  have SJ := Lib.hid (sameD_refl J)
  have SR := Lib.hid (samePV_refl R)
  have iP : P.u.length ≤ 40 ∧ P.d.length ≤ 40 := ⟨by omega, by omega⟩
  have iQ : Q.u.length ≤ 40 ∧ Q.d.length ≤ 40 := ⟨by omega, by omega⟩
  have iR : R.u.length ≤ 40 ∧ R.d.length ≤ 40 := ⟨by omega, by omega⟩
  have iB : B.u.length ≤ 40 ∧ B.d.length ≤ 40 := ⟨by omega, by omega⟩
  clear F1 F2 F3 C1 A1 B1 A2 T1 A3 hL hM hJ hP hQ hR hB nL nM nJ h0 h1 h2 u1 u2 u3 u4 u5 u6 u7 u8
  have x0 := Ext.refl w
  go_enter Try.func6, Try.ntmps6
  go_wp2_with fail
  have hct := lives_any w
  refine hct.mono ?_
  rintro e w1 ⟨rfl, y1⟩
  clear hct
  have x0 := Ext.trans x0 y1
  clear y1
  go_wp2_with fail
  have hct := oncelaw_any X cx x w1 (Sl.below hX x0) (by omega) hrx
  refine hct.mono ?_
  rintro e w2 ⟨_, rfl, ho, y2⟩
  clear hct
  obtain ⟨A, c, rfl, hi, _⟩ := Sl.of_own ho
  clear ho
  have x0 := Ext.trans x0 y2
  clear y2
  go_wp2_with fail
  have hct := names_lit (onceI x) L HNx.out A c _ w2 rfl hi (by have := HOx.out; omega)
  refine hct.mono ?_
  rintro e w3 ⟨_, rfl, ⟨A0, c0, rfl, dL⟩, y3⟩
  clear hct
  clear hi
  have x0 := Ext.trans x0 y3
  clear y3
  go_wp2_with fail
  have hct := oncelaw_any Y cy y w3 (Sl.below hY x0) (by omega) hry
  refine hct.mono ?_
  rintro e w4 ⟨_, rfl, ho, y4⟩
  clear hct
  obtain ⟨A, c, rfl, hi, _⟩ := Sl.of_own ho
  clear ho
  have dL := dL.below y4
  have x0 := Ext.trans x0 y4
  clear y4
  go_wp2_with fail
  have hct := names_lit (onceI y) M HNy.out A c _ w4 rfl hi (by have := HOy.out; omega)
  refine hct.mono ?_
  rintro e w5 ⟨_, rfl, ⟨A1, c1, rfl, dM⟩, y5⟩
  clear hct
  clear hi
  have dL := dL.below y5
  have x0 := Ext.trans x0 y5
  clear y5
  go_wp2_with fail
  have hct := oncelaw_any Z cz z w5 (Sl.below hZ x0) (by omega) hrz
  refine hct.mono ?_
  rintro e w6 ⟨_, rfl, ho, y6⟩
  clear hct
  obtain ⟨A, c, rfl, hi, _⟩ := Sl.of_own ho
  clear ho
  have dL := dL.below y6
  have dM := dM.below y6
  have x0 := Ext.trans x0 y6
  clear y6
  go_wp2_with fail
  have hct := names_lit (onceI z) J HNz.out A c _ w6 rfl hi (by have := HOz.out; omega)
  refine hct.mono ?_
  rintro e w7 ⟨_, rfl, ⟨A2, c2, rfl, dJ⟩, y7⟩
  clear hct
  clear hi
  have dL := dL.below y7
  have dM := dM.below y7
  have x0 := Ext.trans x0 y7
  clear y7
  go_wp2_with fail
  have hct := from_any A0 c0 L A1 c1 M w7 dL dM (by omega) (by omega)
  rw [HF1.out] at hct
  refine hct.mono ?_
  rintro e w8 ⟨_, rfl, ⟨AP, cP, BP, eP, rfl, ea, eb⟩, y8⟩
  clear hct
  simp only at ea eb ⊢
  have dL := dL.below y8
  have dM := dM.below y8
  have dJ := dJ.below y8
  have x0 := Ext.trans x0 y8
  clear y8
  have pP : IsPlan w8 (.agg #[.int .i64 P.k, .slice AP P.u.length cP, .slice BP P.d.length eP]) P := ⟨AP, cP, BP, eP, rfl, ea, eb⟩
  clear ea eb
  have y9 := Ext.alloc w8 (.cells #[.int .i64 P.k, .slice AP P.u.length cP, .slice BP P.d.length eP] 25)
  have rp := Lib.hid (heap_alloc_new w8 (.cells #[.int .i64 P.k, .slice AP P.u.length cP, .slice BP P.d.length eP] 25))
  have dL := dL.below y9
  have dM := dM.below y9
  have dJ := dJ.below y9
  have pP := pP.ext y9
  have x0 := Ext.trans x0 y9
  clear y9
  go_wp2_with fail
  generalize w8.alloc (.cells #[.int .i64 P.k, .slice AP P.u.length cP, .slice BP P.d.length eP] 25) = w8a at *
  have hct := from_any A1 c1 M A2 c2 J w8a dM dJ (by omega) (by omega)
  rw [HF2.out] at hct
  refine hct.mono ?_
  rintro e w9 ⟨_, rfl, ⟨AQ, cQ, BQ, eQ, rfl, ea, eb⟩, y10⟩
  clear hct
  simp only at ea eb ⊢
  have dL := dL.below y10
  have dM := dM.below y10
  have dJ := dJ.below y10
  have pP := pP.ext y10
  have rp := Lib.hid ((y10.block _ (Array.getElem?_eq_some_iff.1 rp.out).1).trans rp.out)
  have x0 := Ext.trans x0 y10
  clear y10
  have pQ : IsPlan w9 (.agg #[.int .i64 Q.k, .slice AQ Q.u.length cQ, .slice BQ Q.d.length eQ]) Q := ⟨AQ, cQ, BQ, eQ, rfl, ea, eb⟩
  clear ea eb
  have y11 := Ext.alloc w9 (.cells #[.int .i64 Q.k, .slice AQ Q.u.length cQ, .slice BQ Q.d.length eQ] 25)
  have rq := Lib.hid (heap_alloc_new w9 (.cells #[.int .i64 Q.k, .slice AQ Q.u.length cQ, .slice BQ Q.d.length eQ] 25))
  have dL := dL.below y11
  have dM := dM.below y11
  have dJ := dJ.below y11
  have pP := pP.ext y11
  have pQ := pQ.ext y11
  have rp := Lib.hid ((y11.block _ (Array.getElem?_eq_some_iff.1 rp.out).1).trans rp.out)
  have x0 := Ext.trans x0 y11
  clear y11
  go_wp2_with fail
  generalize w9.alloc (.cells #[.int .i64 Q.k, .slice AQ Q.u.length cQ, .slice BQ Q.d.length eQ] 25) = w9a at *
  have hct := from_any A0 c0 L A2 c2 J w9a dL dJ (by omega) (by omega)
  rw [HF3.out] at hct
  refine hct.mono ?_
  rintro e w10 ⟨_, rfl, ⟨AR, cR, BR, eR, rfl, ea, eb⟩, y12⟩
  clear hct
  simp only at ea eb ⊢
  have dL := dL.below y12
  have dM := dM.below y12
  have dJ := dJ.below y12
  have pP := pP.ext y12
  have pQ := pQ.ext y12
  have rp := Lib.hid ((y12.block _ (Array.getElem?_eq_some_iff.1 rp.out).1).trans rp.out)
  have rq := Lib.hid ((y12.block _ (Array.getElem?_eq_some_iff.1 rq.out).1).trans rq.out)
  have x0 := Ext.trans x0 y12
  clear y12
  have pR : IsPlan w10 (.agg #[.int .i64 R.k, .slice AR R.u.length cR, .slice BR R.d.length eR]) R := ⟨AR, cR, BR, eR, rfl, ea, eb⟩
  clear ea eb
  have y13 := Ext.alloc w10 (.cells #[.int .i64 R.k, .slice AR R.u.length cR, .slice BR R.d.length eR] 25)
  have rr := Lib.hid (heap_alloc_new w10 (.cells #[.int .i64 R.k, .slice AR R.u.length cR, .slice BR R.d.length eR] 25))
  have dL := dL.below y13
  have dM := dM.below y13
  have dJ := dJ.below y13
  have pP := pP.ext y13
  have pQ := pQ.ext y13
  have pR := pR.ext y13
  have rp := Lib.hid ((y13.block _ (Array.getElem?_eq_some_iff.1 rp.out).1).trans rp.out)
  have rq := Lib.hid ((y13.block _ (Array.getElem?_eq_some_iff.1 rq.out).1).trans rq.out)
  have x0 := Ext.trans x0 y13
  have cp0 : ((w10.alloc (.cells #[.int .i64 R.k, .slice AR R.u.length cR, .slice BR R.d.length eR] 25))).cell? ⟨w8.heap.size, 0, none⟩ = some (.int .i64 P.k) := by rw [cell_of_row _ _ _ _ _ _ rp.out]; rfl
  have cp1 : ((w10.alloc (.cells #[.int .i64 R.k, .slice AR R.u.length cR, .slice BR R.d.length eR] 25))).cell? ⟨w8.heap.size, 1, none⟩ = some (.slice AP P.u.length cP) := by rw [cell_of_row _ _ _ _ _ _ rp.out]; rfl
  have cp2 : ((w10.alloc (.cells #[.int .i64 R.k, .slice AR R.u.length cR, .slice BR R.d.length eR] 25))).cell? ⟨w8.heap.size, 2, none⟩ = some (.slice BP P.d.length eP) := by rw [cell_of_row _ _ _ _ _ _ rp.out]; rfl
  clear y13
  go_wp2_with fail
  clear cp0 cp1 cp2
  generalize w10.alloc (.cells #[.int .i64 R.k, .slice AR R.u.length cR, .slice BR R.d.length eR] 25) = w10a at *
  have hct := check_any _ P w10a pP (by omega) (by omega)
  rw [HC1.out] at hct
  refine hct.mono ?_
  rintro e w11 ⟨rfl, y14⟩
  clear hct
  have dL := dL.below y14
  have dM := dM.below y14
  have dJ := dJ.below y14
  have pP := pP.ext y14
  have pQ := pQ.ext y14
  have pR := pR.ext y14
  have rp := Lib.hid ((y14.block _ (Array.getElem?_eq_some_iff.1 rp.out).1).trans rp.out)
  have rq := Lib.hid ((y14.block _ (Array.getElem?_eq_some_iff.1 rq.out).1).trans rq.out)
  have rr := Lib.hid ((y14.block _ (Array.getElem?_eq_some_iff.1 rr.out).1).trans rr.out)
  have x0 := Ext.trans x0 y14
  clear y14
  go_wp2_with fail
  have rowp : ∀ u, Ext w11 u → u.heap[w8.heap.size]? = some (.cells #[.int .i64 P.k, .slice AP P.u.length cP, .slice BP P.d.length eP] 25 (0, 0)) := fun u hu => (hu.block _ (Array.getElem?_eq_some_iff.1 rp.out).1).trans rp.out
  refine wp_region_layt [Fact.val (.agg #[.int .i64 P.k, .slice AP P.u.length cP, .slice BP P.d.length eP]), Fact.val (.slice A0 L.length c0), Fact.ds (L), Fact.tupd (M) (0), Fact.tupd (M) (0), Fact.ds (M), Fact.val (.int .i64 (0)), Fact.ds (M), Fact.val (.int .i64 (0))] (w11) _ 9 (by kernel_rfl) (by kernel_rfl) (by kernel_rfl) (by kernel_rfl) (by kernel_rfl) (by kernel_rfl) (Ext.refl _) ?_ ?_
  · refine ⟨?_, ?_, ?_, ?_, ?_, ?_, ?_, ?_, ?_, trivial⟩
    · intro a u hx hd hr
      rw [if_pos (wanted_none rfl)]
      have e10 : a.eval (.tmp 10) = .pointer (some ⟨w8.heap.size, 0, none⟩) := hr 10 rfl
      exact Y_load_row 25 (.tmp 10) rfl _ e10 _ _ _ _ (rowp _ hx) Try.underlying25 rfl (by kernel_rfl) rfl
    · intro a u hx hd hr
      rw [if_pos (wanted_none rfl)]
      exact Y_copy (.inl rfl) (hr 7 rfl)
    · intro a u hx hd hr
      rw [if_pos (wanted_none rfl)]
      have e82 : a.eval (.tmp 82) = .slice A0 L.length c0 := hd 1 82 rfl rfl
      clear hd hr
      refine Y_calls (f := 12) (args := #[(a.eval (.tmp 82))]) (by go_simp) ?_
      rw [e82]
      exact (kitnames_any A0 c0 L _ (dL.below hx) (by first | omega | (dsimp only; omega) | (simp; done) | (simp; omega))).mono fun e u2 ⟨v, hv, ho, hx2⟩ => ⟨v, hv, IsD.own ho (dL.below hx).ok, hx2⟩
    · intro a u hx hd hr
      rw [if_pos (wanted_none rfl)]
      have e81 : a.eval (.tmp 81) = .agg #[.int .i64 P.k, .slice AP P.u.length cP, .slice BP P.d.length eP] := hd 0 81 rfl rfl
      obtain ⟨A83, c83, e83, d83⟩ : IsD (L) (a.eval (.tmp 83)) u := hd 2 83 rfl rfl
      clear hd hr
      refine Y_calls (f := 14) (args := #[(a.eval (.tmp 81)), (a.eval (.tmp 83))]) (by go_simp) ?_
      rw [e81, e83]
      exact (apply_any _ P A83 c83 L _ (pP.ext hx) d83 (by first | omega | (dsimp only; omega) | (simp; done) | (simp; omega)) (by first | omega | (dsimp only; omega) | (simp; done) | (simp; omega)) (by first | omega | (dsimp only; omega) | (simp; done) | (simp; omega))).mono fun e u2 ⟨v, hv, hp, hx2⟩ => ⟨_, hv, ⟨v, by rw [HA1.out], by rw [HA1.out] at hp; exact hp⟩, hx2⟩
    · intro a u hx hd hr
      rw [if_pos (wanted_none rfl)]
      exact Y_copy (.inl rfl) (hd 3 84 rfl rfl)
    · intro a u hx hd hr
      rw [if_pos (wanted_none rfl)]
      obtain ⟨x80, e80, d80⟩ : ∃ x, a.eval (.tmp 80) = .tuple #[x, .int .i64 (0)] ∧ IsD (M) x u := hd 4 80 rfl rfl
      clear hd hr
      simp only [Act.eval, Array.getD_eq_getD_getElem?] at e80
      exact Y_val (v := x80) (by go_simp) d80
    · intro a u hx hd hr
      rw [if_pos (wanted_none rfl)]
      obtain ⟨x80, e80, d80⟩ : ∃ x, a.eval (.tmp 80) = .tuple #[x, .int .i64 (0)] ∧ IsD (M) x u := hd 4 80 rfl rfl
      clear hd hr
      simp only [Act.eval, Array.getD_eq_getD_getElem?] at e80
      exact Y_val (v := .int .i64 (0)) (by go_simp) rfl
    · intro a u hx hd hr
      rw [if_pos (wanted_none rfl)]
      exact Y_copy (.inr rfl) (hd 5 85 rfl rfl)
    · intro a u hx hd hr
      rw [if_pos (wanted_none rfl)]
      exact Y_copy (.inr rfl) (hd 6 86 rfl rfl)
  intro f w12 hwq hF
  have f0 : f 0 = .agg #[.int .i64 P.k, .slice AP P.u.length cP, .slice BP P.d.length eP] := hF 0 81 (by decide) rfl
  have f1 : f 1 = .slice A0 L.length c0 := hF 1 82 (by decide) rfl
  have f6 : f 6 = .int .i64 (0) := hF 6 86 (by decide) rfl
  obtain ⟨A7, c7, f7, ds7⟩ : IsD (M) (f 7) w12 := hF 7 16 (by decide) rfl
  have f8 : f 8 = .int .i64 (0) := hF 8 11 (by decide) rfl
  clear hF
  simp only [List.take_succ_cons, List.take_zero, List.drop_succ_cons, List.drop_zero, puts, Act.put, List.setIfInBounds_toArray, List.set_cons_succ, List.set_cons_zero, Nat.zero_add, Nat.reduceAdd, f0, f1, f6, f7, f8]
  clear f0 f1 f6 f7 f8
  generalize f 2 = y2
  generalize f 3 = y3
  generalize f 4 = y4
  generalize f 5 = y5
  refine wpList_nil ?_
  have dL := dL.below hwq
  have dM := dM.below hwq
  have dJ := dJ.below hwq
  have pP := pP.ext hwq
  have pQ := pQ.ext hwq
  have pR := pR.ext hwq
  have rp := Lib.hid ((hwq.block _ (Array.getElem?_eq_some_iff.1 rp.out).1).trans rp.out)
  have rq := Lib.hid ((hwq.block _ (Array.getElem?_eq_some_iff.1 rq.out).1).trans rq.out)
  have rr := Lib.hid ((hwq.block _ (Array.getElem?_eq_some_iff.1 rr.out).1).trans rr.out)
  have x0 := Ext.trans x0 hwq
  clear hwq rowp
  have cp0 : (w12).cell? ⟨w8.heap.size, 0, none⟩ = some (.int .i64 P.k) := by rw [cell_of_row _ _ _ _ _ _ rp.out]; rfl
  have cp1 : (w12).cell? ⟨w8.heap.size, 1, none⟩ = some (.slice AP P.u.length cP) := by rw [cell_of_row _ _ _ _ _ _ rp.out]; rfl
  have cp2 : (w12).cell? ⟨w8.heap.size, 2, none⟩ = some (.slice BP P.d.length eP) := by rw [cell_of_row _ _ _ _ _ _ rp.out]; rfl
  go_wp2_with fail
  clear cp0 cp1 cp2
  have hct := back_any _ P w12 pP (by omega) (by omega)
  rw [HB1.out] at hct
  refine hct.mono ?_
  rintro e w13 ⟨_, rfl, ⟨AB, cB, BB, eB, rfl, ea, eb⟩, y15⟩
  clear hct
  simp only at ea eb ⊢
  have dL := dL.below y15
  have dM := dM.below y15
  have dJ := dJ.below y15
  have ds7 := ds7.below y15
  have pP := pP.ext y15
  have pQ := pQ.ext y15
  have pR := pR.ext y15
  have rp := Lib.hid ((y15.block _ (Array.getElem?_eq_some_iff.1 rp.out).1).trans rp.out)
  have rq := Lib.hid ((y15.block _ (Array.getElem?_eq_some_iff.1 rq.out).1).trans rq.out)
  have rr := Lib.hid ((y15.block _ (Array.getElem?_eq_some_iff.1 rr.out).1).trans rr.out)
  have x0 := Ext.trans x0 y15
  clear y15
  have pB : IsPlan w13 (.agg #[.int .i64 B.k, .slice AB B.u.length cB, .slice BB B.d.length eB]) B := ⟨AB, cB, BB, eB, rfl, ea, eb⟩
  clear ea eb
  have y16 := Ext.alloc w13 (.cells #[.int .i64 B.k, .slice AB B.u.length cB, .slice BB B.d.length eB] 25)
  have rb := Lib.hid (heap_alloc_new w13 (.cells #[.int .i64 B.k, .slice AB B.u.length cB, .slice BB B.d.length eB] 25))
  have dL := dL.below y16
  have dM := dM.below y16
  have dJ := dJ.below y16
  have ds7 := ds7.below y16
  have pP := pP.ext y16
  have pQ := pQ.ext y16
  have pR := pR.ext y16
  have pB := pB.ext y16
  have rp := Lib.hid ((y16.block _ (Array.getElem?_eq_some_iff.1 rp.out).1).trans rp.out)
  have rq := Lib.hid ((y16.block _ (Array.getElem?_eq_some_iff.1 rq.out).1).trans rq.out)
  have rr := Lib.hid ((y16.block _ (Array.getElem?_eq_some_iff.1 rr.out).1).trans rr.out)
  have x0 := Ext.trans x0 y16
  clear y16
  go_wp2_with fail
  generalize w13.alloc (.cells #[.int .i64 B.k, .slice AB B.u.length cB, .slice BB B.d.length eB] 25) = w14 at *
  have dt := ds7
  clear ds7
  have rowb : ∀ u, Ext w14 u → u.heap[w13.heap.size]? = some (.cells #[.int .i64 B.k, .slice AB B.u.length cB, .slice BB B.d.length eB] 25 (0, 0)) := fun u hu => (hu.block _ (Array.getElem?_eq_some_iff.1 rb.out).1).trans rb.out
  refine wp_region_layt [Fact.val (.agg #[.int .i64 B.k, .slice AB B.u.length cB, .slice BB B.d.length eB]), Fact.val (.slice A1 M.length c1), Fact.ds (M), Fact.tupd (L) (0), Fact.tupd (L) (0), Fact.ds (L), Fact.val (.int .i64 (0)), Fact.ds (L), Fact.val (.int .i64 (0))] (w14) _ 9 (by kernel_rfl) (by kernel_rfl) (by kernel_rfl) (by kernel_rfl) (by kernel_rfl) (by kernel_rfl) (Ext.refl _) ?_ ?_
  · refine ⟨?_, ?_, ?_, ?_, ?_, ?_, ?_, ?_, ?_, trivial⟩
    · intro a u hx hd hr
      rw [if_pos (wanted_none rfl)]
      have e17 : a.eval (.tmp 17) = .pointer (some ⟨w13.heap.size, 0, none⟩) := hr 17 rfl
      exact Y_load_row 25 (.tmp 17) rfl _ e17 _ _ _ _ (rowb _ hx) Try.underlying25 rfl (by kernel_rfl) rfl
    · intro a u hx hd hr
      rw [if_pos (wanted_none rfl)]
      exact Y_copy (.inl rfl) (hr 8 rfl)
    · intro a u hx hd hr
      rw [if_pos (wanted_none rfl)]
      have e94 : a.eval (.tmp 94) = .slice A1 M.length c1 := hd 1 94 rfl rfl
      clear hd hr
      refine Y_calls (f := 12) (args := #[(a.eval (.tmp 94))]) (by go_simp) ?_
      rw [e94]
      exact (kitnames_any A1 c1 M _ (dM.below hx) (by first | omega | (dsimp only; omega) | (simp; done) | (simp; omega))).mono fun e u2 ⟨v, hv, ho, hx2⟩ => ⟨v, hv, IsD.own ho (dM.below hx).ok, hx2⟩
    · intro a u hx hd hr
      rw [if_pos (wanted_none rfl)]
      have e93 : a.eval (.tmp 93) = .agg #[.int .i64 B.k, .slice AB B.u.length cB, .slice BB B.d.length eB] := hd 0 93 rfl rfl
      obtain ⟨A95, c95, e95, d95⟩ : IsD (M) (a.eval (.tmp 95)) u := hd 2 95 rfl rfl
      clear hd hr
      refine Y_calls (f := 14) (args := #[(a.eval (.tmp 93)), (a.eval (.tmp 95))]) (by go_simp) ?_
      rw [e93, e95]
      exact (apply_any _ B A95 c95 M _ (pB.ext hx) d95 (by first | omega | (dsimp only; omega) | (simp; done) | (simp; omega)) (by first | omega | (dsimp only; omega) | (simp; done) | (simp; omega)) (by first | omega | (dsimp only; omega) | (simp; done) | (simp; omega))).mono fun e u2 ⟨v, hv, hp, hx2⟩ => ⟨_, hv, ⟨v, by rw [HA2.out], by rw [HA2.out] at hp; exact hp⟩, hx2⟩
    · intro a u hx hd hr
      rw [if_pos (wanted_none rfl)]
      exact Y_copy (.inl rfl) (hd 3 96 rfl rfl)
    · intro a u hx hd hr
      rw [if_pos (wanted_none rfl)]
      obtain ⟨x92, e92, d92⟩ : ∃ x, a.eval (.tmp 92) = .tuple #[x, .int .i64 (0)] ∧ IsD (L) x u := hd 4 92 rfl rfl
      clear hd hr
      simp only [Act.eval, Array.getD_eq_getD_getElem?] at e92
      exact Y_val (v := x92) (by go_simp) d92
    · intro a u hx hd hr
      rw [if_pos (wanted_none rfl)]
      obtain ⟨x92, e92, d92⟩ : ∃ x, a.eval (.tmp 92) = .tuple #[x, .int .i64 (0)] ∧ IsD (L) x u := hd 4 92 rfl rfl
      clear hd hr
      simp only [Act.eval, Array.getD_eq_getD_getElem?] at e92
      exact Y_val (v := .int .i64 (0)) (by go_simp) rfl
    · intro a u hx hd hr
      rw [if_pos (wanted_none rfl)]
      exact Y_copy (.inr rfl) (hd 5 97 rfl rfl)
    · intro a u hx hd hr
      rw [if_pos (wanted_none rfl)]
      exact Y_copy (.inr rfl) (hd 6 98 rfl rfl)
  intro f w15 hwq hF
  have f0 : f 0 = .agg #[.int .i64 B.k, .slice AB B.u.length cB, .slice BB B.d.length eB] := hF 0 93 (by decide) rfl
  have f1 : f 1 = .slice A1 M.length c1 := hF 1 94 (by decide) rfl
  have f6 : f 6 = .int .i64 (0) := hF 6 98 (by decide) rfl
  obtain ⟨A7, c7, f7, ds7⟩ : IsD (L) (f 7) w15 := hF 7 18 (by decide) rfl
  have f8 : f 8 = .int .i64 (0) := hF 8 15 (by decide) rfl
  clear hF
  simp only [List.take_succ_cons, List.take_zero, List.drop_succ_cons, List.drop_zero, puts, Act.put, List.setIfInBounds_toArray, List.set_cons_succ, List.set_cons_zero, Nat.zero_add, Nat.reduceAdd, f0, f1, f6, f7, f8]
  clear f0 f1 f6 f7 f8
  generalize f 2 = y2
  generalize f 3 = y3
  generalize f 4 = y4
  generalize f 5 = y5
  refine wpList_nil ?_
  have dL := dL.below hwq
  have dM := dM.below hwq
  have dJ := dJ.below hwq
  have dt := dt.below hwq
  have pP := pP.ext hwq
  have pQ := pQ.ext hwq
  have pR := pR.ext hwq
  have pB := pB.ext hwq
  have rp := Lib.hid ((hwq.block _ (Array.getElem?_eq_some_iff.1 rp.out).1).trans rp.out)
  have rq := Lib.hid ((hwq.block _ (Array.getElem?_eq_some_iff.1 rq.out).1).trans rq.out)
  have rr := Lib.hid ((hwq.block _ (Array.getElem?_eq_some_iff.1 rr.out).1).trans rr.out)
  have rb := Lib.hid ((hwq.block _ (Array.getElem?_eq_some_iff.1 rb.out).1).trans rb.out)
  have x0 := Ext.trans x0 hwq
  clear hwq rowb
  go_wp2_with fail
  have cp0 : (w15).cell? ⟨w8.heap.size, 0, none⟩ = some (.int .i64 P.k) := by rw [cell_of_row _ _ _ _ _ _ rp.out]; rfl
  have cp1 : (w15).cell? ⟨w8.heap.size, 1, none⟩ = some (.slice AP P.u.length cP) := by rw [cell_of_row _ _ _ _ _ _ rp.out]; rfl
  have cp2 : (w15).cell? ⟨w8.heap.size, 2, none⟩ = some (.slice BP P.d.length eP) := by rw [cell_of_row _ _ _ _ _ _ rp.out]; rfl
  have cq0 : (w15).cell? ⟨w9.heap.size, 0, none⟩ = some (.int .i64 Q.k) := by rw [cell_of_row _ _ _ _ _ _ rq.out]; rfl
  have cq1 : (w15).cell? ⟨w9.heap.size, 1, none⟩ = some (.slice AQ Q.u.length cQ) := by rw [cell_of_row _ _ _ _ _ _ rq.out]; rfl
  have cq2 : (w15).cell? ⟨w9.heap.size, 2, none⟩ = some (.slice BQ Q.d.length eQ) := by rw [cell_of_row _ _ _ _ _ _ rq.out]; rfl
  have lp : w8.heap.size < w15.heap.size := (Array.getElem?_eq_some_iff.1 rp.out).1
  have lq : w9.heap.size < w15.heap.size := (Array.getElem?_eq_some_iff.1 rq.out).1
  have lw15 : w15.heap.size ≤ w15.heap.size := Nat.le_refl _
  have lw16 : w15.heap.size ≤ w15.heap.size := Nat.le_refl _
  have lw17 : w15.heap.size ≤ w15.heap.size := Nat.le_refl _
  go_region_held3 (fun u => u.cell? ⟨w8.heap.size, 0, none⟩ = some (.int .i64 P.k) ∧ u.cell? ⟨w8.heap.size, 1, none⟩ = some (.slice AP P.u.length cP) ∧ u.cell? ⟨w8.heap.size, 2, none⟩ = some (.slice BP P.d.length eP) ∧ u.cell? ⟨w9.heap.size, 0, none⟩ = some (.int .i64 Q.k) ∧ u.cell? ⟨w9.heap.size, 1, none⟩ = some (.slice AQ Q.u.length cQ) ∧ u.cell? ⟨w9.heap.size, 2, none⟩ = some (.slice BQ Q.d.length eQ)) (refine ⟨?_, ?_, ?_, ?_, ?_, ?_⟩ <;> first | with_reducible assumption | (with_reducible refine cell_alloc ?_; with_reducible assumption) | (with_reducible refine cell_drew ?_; with_reducible assumption) | (with_reducible refine cell_drew (cell_alloc ?_); with_reducible assumption) | (with_reducible refine cell_alloc (cell_drew ?_); with_reducible assumption) | ((with_reducible refine cell_set3 ?_ ?_) <;> (first | with_reducible assumption | (with_reducible refine cell_alloc ?_; with_reducible assumption) | (with_reducible refine cell_drew ?_; with_reducible assumption) | (with_reducible refine cell_drew (cell_alloc ?_); with_reducible assumption) | (with_reducible refine cell_alloc (cell_drew ?_); with_reducible assumption) | (have := lw15; have := lw16; have := lw17; dsimp only; omega)))) (first
    | (go_at_call 22
       have hct := then_any _ P _ Q A16 c16 L w16 (pP.ext xb) (pQ.ext xb) d16 (by omega) (by omega) (by omega) (by omega) (by omega)
       rw [HT1.out] at hct
       refine hct.mono ?_
       rintro e w17 ⟨_, rfl, ⟨AT, cT, BT, eT, rfl, ea, eb⟩, xc⟩
       clear hct
       simp only at ea eb ⊢
       have xd : Ext w15 w17 := Ext.trans xb xc
       have lw17 : w15.heap.size ≤ w17.heap.size := xd.size
       have hzw17 := Lib.hid ((xc.block _ (Array.getElem?_eq_some_iff.1 hzw16.out).1).trans hzw16.out)
       have z0w17 : w17.cell? ⟨w15.heap.size, 0, none⟩ = some (.int .i64 0) := by rw [cell_of_row _ _ _ _ _ _ hzw17.out]; rfl
       have z1w17 : w17.cell? ⟨w15.heap.size, 1, none⟩ = some (.slice none 0 0) := by rw [cell_of_row _ _ _ _ _ _ hzw17.out]; rfl
       have z2w17 : w17.cell? ⟨w15.heap.size, 2, none⟩ = some (.slice none 0 0) := by rw [cell_of_row _ _ _ _ _ _ hzw17.out]; rfl
       have n0w17 := frozen_of_row w17 (w15.heap.size) 0 _ _ hzw17.out
       have n1w17 := frozen_of_row w17 (w15.heap.size) 1 _ _ hzw17.out
       have n2w17 := frozen_of_row w17 (w15.heap.size) 2 _ _ hzw17.out
       have kp0w17 : w17.cell? ⟨w8.heap.size, 0, none⟩ = some (.int .i64 P.k) := by rw [xd.cell (by show w8.heap.size < w15.heap.size; exact lp)]; assumption
       have kp1w17 : w17.cell? ⟨w8.heap.size, 1, none⟩ = some (.slice AP P.u.length cP) := by rw [xd.cell (by show w8.heap.size < w15.heap.size; exact lp)]; assumption
       have kp2w17 : w17.cell? ⟨w8.heap.size, 2, none⟩ = some (.slice BP P.d.length eP) := by rw [xd.cell (by show w8.heap.size < w15.heap.size; exact lp)]; assumption
       have kq0w17 : w17.cell? ⟨w9.heap.size, 0, none⟩ = some (.int .i64 Q.k) := by rw [xd.cell (by show w9.heap.size < w15.heap.size; exact lq)]; assumption
       have kq1w17 : w17.cell? ⟨w9.heap.size, 1, none⟩ = some (.slice AQ Q.u.length cQ) := by rw [xd.cell (by show w9.heap.size < w15.heap.size; exact lq)]; assumption
       have kq2w17 : w17.cell? ⟨w9.heap.size, 2, none⟩ = some (.slice BQ Q.d.length eQ) := by rw [xd.cell (by show w9.heap.size < w15.heap.size; exact lq)]; assumption)
    | (go_at_call 22
       have hct := then_any _ P _ Q A16 c16 L (w16.alloc (.cells #[.int .i64 0, .slice none 0 0, .slice none 0 0] 25)) ((pP.ext xb).ext (Ext.alloc _ _)) ((pQ.ext xb).ext (Ext.alloc _ _)) (d16.alloc _) (by omega) (by omega) (by omega) (by omega) (by omega)
       rw [HT1.out] at hct
       refine hct.mono ?_
       rintro e w17 ⟨_, rfl, ⟨AT, cT, BT, eT, rfl, ea, eb⟩, xc⟩
       clear hct
       simp only at ea eb ⊢
       have xd : Ext w15 w17 := Ext.trans xb (Ext.trans (Ext.alloc _ _) xc)
       have lw17 : w15.heap.size ≤ w17.heap.size := xd.size
       have hzw17 := Lib.hid ((xc.block _ (Array.getElem?_eq_some_iff.1 (heap_alloc_new w16 (.cells #[.int .i64 0, .slice none 0 0, .slice none 0 0] 25))).1).trans (heap_alloc_new w16 (.cells #[.int .i64 0, .slice none 0 0, .slice none 0 0] 25)))
       have z0w17 : w17.cell? ⟨w16.heap.size, 0, none⟩ = some (.int .i64 0) := by rw [cell_of_row _ _ _ _ _ _ hzw17.out]; rfl
       have z1w17 : w17.cell? ⟨w16.heap.size, 1, none⟩ = some (.slice none 0 0) := by rw [cell_of_row _ _ _ _ _ _ hzw17.out]; rfl
       have z2w17 : w17.cell? ⟨w16.heap.size, 2, none⟩ = some (.slice none 0 0) := by rw [cell_of_row _ _ _ _ _ _ hzw17.out]; rfl
       have n0w17 := frozen_of_row w17 (w16.heap.size) 0 _ _ hzw17.out
       have n1w17 := frozen_of_row w17 (w16.heap.size) 1 _ _ hzw17.out
       have n2w17 := frozen_of_row w17 (w16.heap.size) 2 _ _ hzw17.out
       have kp0w17 : w17.cell? ⟨w8.heap.size, 0, none⟩ = some (.int .i64 P.k) := by rw [xd.cell (by show w8.heap.size < w15.heap.size; exact lp)]; assumption
       have kp1w17 : w17.cell? ⟨w8.heap.size, 1, none⟩ = some (.slice AP P.u.length cP) := by rw [xd.cell (by show w8.heap.size < w15.heap.size; exact lp)]; assumption
       have kp2w17 : w17.cell? ⟨w8.heap.size, 2, none⟩ = some (.slice BP P.d.length eP) := by rw [xd.cell (by show w8.heap.size < w15.heap.size; exact lp)]; assumption
       have kq0w17 : w17.cell? ⟨w9.heap.size, 0, none⟩ = some (.int .i64 Q.k) := by rw [xd.cell (by show w9.heap.size < w15.heap.size; exact lq)]; assumption
       have kq1w17 : w17.cell? ⟨w9.heap.size, 1, none⟩ = some (.slice AQ Q.u.length cQ) := by rw [xd.cell (by show w9.heap.size < w15.heap.size; exact lq)]; assumption
       have kq2w17 : w17.cell? ⟨w9.heap.size, 2, none⟩ = some (.slice BQ Q.d.length eQ) := by rw [xd.cell (by show w9.heap.size < w15.heap.size; exact lq)]; assumption)
    | (go_at_call 22
       have hct := then_any _ P _ Q A16 c16 L w16 (pP.ext xb) (pQ.ext xb) d16 (by omega) (by omega) (by omega) (by omega) (by omega)
       rw [HT1.out] at hct
       refine hct.mono ?_
       rintro e w17 ⟨_, rfl, ⟨AT, cT, BT, eT, rfl, ea, eb⟩, xc⟩
       clear hct
       simp only at ea eb ⊢
       have xd : Ext w15 w17 := Ext.trans xb xc
       have lw17 : w15.heap.size ≤ w17.heap.size := xd.size
       have kp0w17 : w17.cell? ⟨w8.heap.size, 0, none⟩ = some (.int .i64 P.k) := by rw [xd.cell (by show w8.heap.size < w15.heap.size; exact lp)]; assumption
       have kp1w17 : w17.cell? ⟨w8.heap.size, 1, none⟩ = some (.slice AP P.u.length cP) := by rw [xd.cell (by show w8.heap.size < w15.heap.size; exact lp)]; assumption
       have kp2w17 : w17.cell? ⟨w8.heap.size, 2, none⟩ = some (.slice BP P.d.length eP) := by rw [xd.cell (by show w8.heap.size < w15.heap.size; exact lp)]; assumption
       have kq0w17 : w17.cell? ⟨w9.heap.size, 0, none⟩ = some (.int .i64 Q.k) := by rw [xd.cell (by show w9.heap.size < w15.heap.size; exact lq)]; assumption
       have kq1w17 : w17.cell? ⟨w9.heap.size, 1, none⟩ = some (.slice AQ Q.u.length cQ) := by rw [xd.cell (by show w9.heap.size < w15.heap.size; exact lq)]; assumption
       have kq2w17 : w17.cell? ⟨w9.heap.size, 2, none⟩ = some (.slice BQ Q.d.length eQ) := by rw [xd.cell (by show w9.heap.size < w15.heap.size; exact lq)]; assumption)
    | (go_at_call 12
       refine (kitnames_any A0 c0 L (w15.alloc (.cells #[.int .i64 0, .slice none 0 0, .slice none 0 0] 25)).drew (dL.alloc _).drew (by omega)).mono ?_
       rintro e w16 ⟨_, rfl, ho, xa⟩
       have xb : Ext w15 w16 := Ext.trans (Ext.alloc w15 _) (Ext.trans (Ext.drew _) xa)
       have lw16 : w15.heap.size ≤ w16.heap.size := xb.size
       have hzw16 := Lib.hid ((xa.block w15.heap.size (Array.getElem?_eq_some_iff.1 (heap_alloc_new w15 (.cells #[.int .i64 0, .slice none 0 0, .slice none 0 0] 25))).1).trans (heap_alloc_new w15 (.cells #[.int .i64 0, .slice none 0 0, .slice none 0 0] 25)))
       obtain ⟨A16, c16, rfl, hi, _⟩ := Sl.of_own ho
       have d16 : Ds w16 A16 c16 L := ⟨hi, dL.ok⟩
       clear ho hi
       have kp0w16 : w16.cell? ⟨w8.heap.size, 0, none⟩ = some (.int .i64 P.k) := by rw [xb.cell (by show w8.heap.size < w15.heap.size; exact lp)]; assumption
       have kp1w16 : w16.cell? ⟨w8.heap.size, 1, none⟩ = some (.slice AP P.u.length cP) := by rw [xb.cell (by show w8.heap.size < w15.heap.size; exact lp)]; assumption
       have kp2w16 : w16.cell? ⟨w8.heap.size, 2, none⟩ = some (.slice BP P.d.length eP) := by rw [xb.cell (by show w8.heap.size < w15.heap.size; exact lp)]; assumption
       have kq0w16 : w16.cell? ⟨w9.heap.size, 0, none⟩ = some (.int .i64 Q.k) := by rw [xb.cell (by show w9.heap.size < w15.heap.size; exact lq)]; assumption
       have kq1w16 : w16.cell? ⟨w9.heap.size, 1, none⟩ = some (.slice AQ Q.u.length cQ) := by rw [xb.cell (by show w9.heap.size < w15.heap.size; exact lq)]; assumption
       have kq2w16 : w16.cell? ⟨w9.heap.size, 2, none⟩ = some (.slice BQ Q.d.length eQ) := by rw [xb.cell (by show w9.heap.size < w15.heap.size; exact lq)]; assumption)
    | (go_at_call 12
       refine (kitnames_any A0 c0 L w15.drew dL.drew (by omega)).mono ?_
       rintro e w16 ⟨_, rfl, ho, xa⟩
       have xb : Ext w15 w16 := Ext.trans (Ext.drew w15) xa
       have lw16 : w15.heap.size ≤ w16.heap.size := xb.size
       obtain ⟨A16, c16, rfl, hi, _⟩ := Sl.of_own ho
       have d16 : Ds w16 A16 c16 L := ⟨hi, dL.ok⟩
       clear ho hi
       have kp0w16 : w16.cell? ⟨w8.heap.size, 0, none⟩ = some (.int .i64 P.k) := by rw [xb.cell (by show w8.heap.size < w15.heap.size; exact lp)]; assumption
       have kp1w16 : w16.cell? ⟨w8.heap.size, 1, none⟩ = some (.slice AP P.u.length cP) := by rw [xb.cell (by show w8.heap.size < w15.heap.size; exact lp)]; assumption
       have kp2w16 : w16.cell? ⟨w8.heap.size, 2, none⟩ = some (.slice BP P.d.length eP) := by rw [xb.cell (by show w8.heap.size < w15.heap.size; exact lp)]; assumption
       have kq0w16 : w16.cell? ⟨w9.heap.size, 0, none⟩ = some (.int .i64 Q.k) := by rw [xb.cell (by show w9.heap.size < w15.heap.size; exact lq)]; assumption
       have kq1w16 : w16.cell? ⟨w9.heap.size, 1, none⟩ = some (.slice AQ Q.u.length cQ) := by rw [xb.cell (by show w9.heap.size < w15.heap.size; exact lq)]; assumption
       have kq2w16 : w16.cell? ⟨w9.heap.size, 2, none⟩ = some (.slice BQ Q.d.length eQ) := by rw [xb.cell (by show w9.heap.size < w15.heap.size; exact lq)]; assumption))
  · have rs := Lib.hid (heap_alloc_new w17 (.cells #[.int .i64 R.k, .slice AT R.u.length cT, .slice BT R.d.length eT] 25))
    have x18 : Ext w15 (w17.alloc (.cells #[.int .i64 R.k, .slice AT R.u.length cT, .slice BT R.d.length eT] 25)) := Ext.trans xd (Ext.alloc w17 _)
    have pS : IsPlan (w17.alloc (.cells #[.int .i64 R.k, .slice AT R.u.length cT, .slice BT R.d.length eT] 25)) (.agg #[.int .i64 R.k, .slice AT R.u.length cT, .slice BT R.d.length eT]) R := ⟨AT, cT, BT, eT, rfl, ea.alloc _, eb.alloc _⟩
    clear ea eb xd xb xa xc
    clear kp0w16 kp1w16 kp2w16 kq0w16 kq1w16 kq2w16 kp0w17 kp1w17 kp2w17 kq0w17 kq1w17 kq2w17
    clear cp0 cp1 cp2 cq0 cq1 cq2
    generalize w17.alloc (.cells #[.int .i64 R.k, .slice AT R.u.length cT, .slice BT R.d.length eT] 25) = w18 at *
    have dL := dL.below x18
    have dM := dM.below x18
    have dJ := dJ.below x18
    have dt := dt.below x18
    have ds7 := ds7.below x18
    have pP := pP.ext x18
    have pQ := pQ.ext x18
    have pR := pR.ext x18
    have pB := pB.ext x18
    have rp := Lib.hid ((x18.block _ (Array.getElem?_eq_some_iff.1 rp.out).1).trans rp.out)
    have rq := Lib.hid ((x18.block _ (Array.getElem?_eq_some_iff.1 rq.out).1).trans rq.out)
    have rr := Lib.hid ((x18.block _ (Array.getElem?_eq_some_iff.1 rr.out).1).trans rr.out)
    have rb := Lib.hid ((x18.block _ (Array.getElem?_eq_some_iff.1 rb.out).1).trans rb.out)
    have x0 := Ext.trans x0 x18
    clear x18
    have pR := pR
    go_wp2_with fail
    have du := ds7
    clear ds7
    have pS0 := pS
    have rows_ : ∀ u, Ext w18 u → u.heap[w17.heap.size]? = some (.cells #[.int .i64 R.k, .slice AT R.u.length cT, .slice BT R.d.length eT] 25 (0, 0)) := fun u hu => (hu.block _ (Array.getElem?_eq_some_iff.1 rs.out).1).trans rs.out
    refine wp_region_layt [Fact.val (.agg #[.int .i64 R.k, .slice AT R.u.length cT, .slice BT R.d.length eT]), Fact.val (.slice A0 L.length c0), Fact.ds (L), Fact.tupd (J) (0), Fact.tupd (J) (0), Fact.ds (J), Fact.val (.int .i64 (0)), Fact.ds (J), Fact.val (.int .i64 (0))] (w18) _ 9 (by kernel_rfl) (by kernel_rfl) (by kernel_rfl) (by kernel_rfl) (by kernel_rfl) (by kernel_rfl) (Ext.refl _) ?_ ?_
    · refine ⟨?_, ?_, ?_, ?_, ?_, ?_, ?_, ?_, ?_, trivial⟩
      · intro a u hx hd hr
        rw [if_pos (wanted_none rfl)]
        have e19 : a.eval (.tmp 19) = .pointer (some ⟨w17.heap.size, 0, none⟩) := hr 19 rfl
        exact Y_load_row 25 (.tmp 19) rfl _ e19 _ _ _ _ (rows_ _ hx) Try.underlying25 rfl (by kernel_rfl) rfl
      · intro a u hx hd hr
        rw [if_pos (wanted_none rfl)]
        exact Y_copy (.inl rfl) (hr 7 rfl)
      · intro a u hx hd hr
        rw [if_pos (wanted_none rfl)]
        have e109 : a.eval (.tmp 109) = .slice A0 L.length c0 := hd 1 109 rfl rfl
        clear hd hr
        refine Y_calls (f := 12) (args := #[(a.eval (.tmp 109))]) (by go_simp) ?_
        rw [e109]
        exact (kitnames_any A0 c0 L _ (dL.below hx) (by first | omega | (dsimp only; omega) | (simp; done) | (simp; omega))).mono fun e u2 ⟨v, hv, ho, hx2⟩ => ⟨v, hv, IsD.own ho (dL.below hx).ok, hx2⟩
      · intro a u hx hd hr
        rw [if_pos (wanted_none rfl)]
        have e108 : a.eval (.tmp 108) = .agg #[.int .i64 R.k, .slice AT R.u.length cT, .slice BT R.d.length eT] := hd 0 108 rfl rfl
        obtain ⟨A110, c110, e110, d110⟩ : IsD (L) (a.eval (.tmp 110)) u := hd 2 110 rfl rfl
        clear hd hr
        refine Y_calls (f := 14) (args := #[(a.eval (.tmp 108)), (a.eval (.tmp 110))]) (by go_simp) ?_
        rw [e108, e110]
        exact (apply_any _ R A110 c110 L _ (pS.ext hx) d110 (by first | omega | (dsimp only; omega) | (simp; done) | (simp; omega)) (by first | omega | (dsimp only; omega) | (simp; done) | (simp; omega)) (by first | omega | (dsimp only; omega) | (simp; done) | (simp; omega))).mono fun e u2 ⟨v, hv, hp, hx2⟩ => ⟨_, hv, ⟨v, by rw [HA3.out], by rw [HA3.out] at hp; exact hp⟩, hx2⟩
      · intro a u hx hd hr
        rw [if_pos (wanted_none rfl)]
        exact Y_copy (.inl rfl) (hd 3 111 rfl rfl)
      · intro a u hx hd hr
        rw [if_pos (wanted_none rfl)]
        obtain ⟨x107, e107, d107⟩ : ∃ x, a.eval (.tmp 107) = .tuple #[x, .int .i64 (0)] ∧ IsD (J) x u := hd 4 107 rfl rfl
        clear hd hr
        simp only [Act.eval, Array.getD_eq_getD_getElem?] at e107
        exact Y_val (v := x107) (by go_simp) d107
      · intro a u hx hd hr
        rw [if_pos (wanted_none rfl)]
        obtain ⟨x107, e107, d107⟩ : ∃ x, a.eval (.tmp 107) = .tuple #[x, .int .i64 (0)] ∧ IsD (J) x u := hd 4 107 rfl rfl
        clear hd hr
        simp only [Act.eval, Array.getD_eq_getD_getElem?] at e107
        exact Y_val (v := .int .i64 (0)) (by go_simp) rfl
      · intro a u hx hd hr
        rw [if_pos (wanted_none rfl)]
        exact Y_copy (.inr rfl) (hd 5 112 rfl rfl)
      · intro a u hx hd hr
        rw [if_pos (wanted_none rfl)]
        exact Y_copy (.inr rfl) (hd 6 113 rfl rfl)
    intro f w19 hwq hF
    have f0 : f 0 = .agg #[.int .i64 R.k, .slice AT R.u.length cT, .slice BT R.d.length eT] := hF 0 108 (by decide) rfl
    have f1 : f 1 = .slice A0 L.length c0 := hF 1 109 (by decide) rfl
    have f6 : f 6 = .int .i64 (0) := hF 6 113 (by decide) rfl
    obtain ⟨A7, c7, f7, ds7⟩ : IsD (J) (f 7) w19 := hF 7 21 (by decide) rfl
    have f8 : f 8 = .int .i64 (0) := hF 8 22 (by decide) rfl
    clear hF
    simp only [List.take_succ_cons, List.take_zero, List.drop_succ_cons, List.drop_zero, puts, Act.put, List.setIfInBounds_toArray, List.set_cons_succ, List.set_cons_zero, Nat.zero_add, Nat.reduceAdd, f0, f1, f6, f7, f8]
    clear f0 f1 f6 f7 f8
    generalize f 2 = y2
    generalize f 3 = y3
    generalize f 4 = y4
    generalize f 5 = y5
    refine wpList_nil ?_
    have dL := dL.below hwq
    have dM := dM.below hwq
    have dJ := dJ.below hwq
    have dt := dt.below hwq
    have du := du.below hwq
    have pP := pP.ext hwq
    have pQ := pQ.ext hwq
    have pR := pR.ext hwq
    have pB := pB.ext hwq
    have pS := pS.ext hwq
    have rp := Lib.hid ((hwq.block _ (Array.getElem?_eq_some_iff.1 rp.out).1).trans rp.out)
    have rq := Lib.hid ((hwq.block _ (Array.getElem?_eq_some_iff.1 rq.out).1).trans rq.out)
    have rr := Lib.hid ((hwq.block _ (Array.getElem?_eq_some_iff.1 rr.out).1).trans rr.out)
    have rb := Lib.hid ((hwq.block _ (Array.getElem?_eq_some_iff.1 rb.out).1).trans rb.out)
    have rs := Lib.hid ((hwq.block _ (Array.getElem?_eq_some_iff.1 rs.out).1).trans rs.out)
    have x0 := Ext.trans x0 hwq
    clear hwq rows_ pS0
    go_wp2_with fail
    have hct := digests_s _ _ M A1 c1 M w19 dt dM
    rw [SM.out] at hct
    refine hct.mono ?_
    rintro e w20 ⟨rfl, y17⟩
    clear hct
    have dL := dL.below y17
    have dM := dM.below y17
    have dJ := dJ.below y17
    have dt := dt.below y17
    have du := du.below y17
    have ds7 := ds7.below y17
    have pP := pP.ext y17
    have pQ := pQ.ext y17
    have pR := pR.ext y17
    have pB := pB.ext y17
    have pS := pS.ext y17
    have rp := Lib.hid ((y17.block _ (Array.getElem?_eq_some_iff.1 rp.out).1).trans rp.out)
    have rq := Lib.hid ((y17.block _ (Array.getElem?_eq_some_iff.1 rq.out).1).trans rq.out)
    have rr := Lib.hid ((y17.block _ (Array.getElem?_eq_some_iff.1 rr.out).1).trans rr.out)
    have rb := Lib.hid ((y17.block _ (Array.getElem?_eq_some_iff.1 rb.out).1).trans rb.out)
    have rs := Lib.hid ((y17.block _ (Array.getElem?_eq_some_iff.1 rs.out).1).trans rs.out)
    have x0 := Ext.trans x0 y17
    clear y17
    go_wp2_with fail
    have hct := digests_s _ _ L A0 c0 L w20 du dL
    rw [SL.out] at hct
    refine hct.mono ?_
    rintro e w21 ⟨rfl, y18⟩
    clear hct
    have dL := dL.below y18
    have dM := dM.below y18
    have dJ := dJ.below y18
    have dt := dt.below y18
    have du := du.below y18
    have ds7 := ds7.below y18
    have pP := pP.ext y18
    have pQ := pQ.ext y18
    have pR := pR.ext y18
    have pB := pB.ext y18
    have pS := pS.ext y18
    have rp := Lib.hid ((y18.block _ (Array.getElem?_eq_some_iff.1 rp.out).1).trans rp.out)
    have rq := Lib.hid ((y18.block _ (Array.getElem?_eq_some_iff.1 rq.out).1).trans rq.out)
    have rr := Lib.hid ((y18.block _ (Array.getElem?_eq_some_iff.1 rr.out).1).trans rr.out)
    have rb := Lib.hid ((y18.block _ (Array.getElem?_eq_some_iff.1 rb.out).1).trans rb.out)
    have rs := Lib.hid ((y18.block _ (Array.getElem?_eq_some_iff.1 rs.out).1).trans rs.out)
    have x0 := Ext.trans x0 y18
    clear y18
    have cs0 : (w21).cell? ⟨w17.heap.size, 0, none⟩ = some (.int .i64 R.k) := by rw [cell_of_row _ _ _ _ _ _ rs.out]; rfl
    have cs1 : (w21).cell? ⟨w17.heap.size, 1, none⟩ = some (.slice AT R.u.length cT) := by rw [cell_of_row _ _ _ _ _ _ rs.out]; rfl
    have cs2 : (w21).cell? ⟨w17.heap.size, 2, none⟩ = some (.slice BT R.d.length eT) := by rw [cell_of_row _ _ _ _ _ _ rs.out]; rfl
    have cr0 : (w21).cell? ⟨w10.heap.size, 0, none⟩ = some (.int .i64 R.k) := by rw [cell_of_row _ _ _ _ _ _ rr.out]; rfl
    have cr1 : (w21).cell? ⟨w10.heap.size, 1, none⟩ = some (.slice AR R.u.length cR) := by rw [cell_of_row _ _ _ _ _ _ rr.out]; rfl
    have cr2 : (w21).cell? ⟨w10.heap.size, 2, none⟩ = some (.slice BR R.d.length eR) := by rw [cell_of_row _ _ _ _ _ _ rr.out]; rfl
    go_wp2_with fail
    clear cs0 cs1 cs2 cr0 cr1 cr2
    have hct := kitplan_s _ R _ R w21 pS pR
    rw [SR.out] at hct
    refine hct.mono ?_
    rintro e w22 ⟨rfl, y19⟩
    clear hct
    have dL := dL.below y19
    have dM := dM.below y19
    have dJ := dJ.below y19
    have dt := dt.below y19
    have du := du.below y19
    have ds7 := ds7.below y19
    have pP := pP.ext y19
    have pQ := pQ.ext y19
    have pR := pR.ext y19
    have pB := pB.ext y19
    have pS := pS.ext y19
    have rp := Lib.hid ((y19.block _ (Array.getElem?_eq_some_iff.1 rp.out).1).trans rp.out)
    have rq := Lib.hid ((y19.block _ (Array.getElem?_eq_some_iff.1 rq.out).1).trans rq.out)
    have rr := Lib.hid ((y19.block _ (Array.getElem?_eq_some_iff.1 rr.out).1).trans rr.out)
    have rb := Lib.hid ((y19.block _ (Array.getElem?_eq_some_iff.1 rb.out).1).trans rb.out)
    have rs := Lib.hid ((y19.block _ (Array.getElem?_eq_some_iff.1 rs.out).1).trans rs.out)
    have x0 := Ext.trans x0 y19
    clear y19
    go_wp2_with fail
    have hct := digests_s _ _ J A2 c2 J w22 ds7 dJ
    rw [SJ.out] at hct
    refine hct.mono ?_
    rintro e w23 ⟨rfl, y20⟩
    clear hct
    have dL := dL.below y20
    have dM := dM.below y20
    have dJ := dJ.below y20
    have dt := dt.below y20
    have du := du.below y20
    have ds7 := ds7.below y20
    have pP := pP.ext y20
    have pQ := pQ.ext y20
    have pR := pR.ext y20
    have pB := pB.ext y20
    have pS := pS.ext y20
    have rp := Lib.hid ((y20.block _ (Array.getElem?_eq_some_iff.1 rp.out).1).trans rp.out)
    have rq := Lib.hid ((y20.block _ (Array.getElem?_eq_some_iff.1 rq.out).1).trans rq.out)
    have rr := Lib.hid ((y20.block _ (Array.getElem?_eq_some_iff.1 rr.out).1).trans rr.out)
    have rb := Lib.hid ((y20.block _ (Array.getElem?_eq_some_iff.1 rb.out).1).trans rb.out)
    have rs := Lib.hid ((y20.block _ (Array.getElem?_eq_some_iff.1 rs.out).1).trans rs.out)
    have x0 := Ext.trans x0 y20
    clear y20
    go_wp2_with fail
    go_ret
    exact ⟨rfl, x0⟩
  · have rs := Lib.hid (cells3 (.int .i64 R.k) (.slice AT R.u.length cT) (.slice BT R.d.length eT) hzw17.out)
    have x18 : Ext w15 (((w17.setCell ⟨w16.heap.size, 0, none⟩ (.int .i64 R.k)).setCell ⟨w16.heap.size, 1, none⟩ (.slice AT R.u.length cT)).setCell ⟨w16.heap.size, 2, none⟩ (.slice BT R.d.length eT)) := xd.set3 (by omega) _ _ _
    have pS : IsPlan (((w17.setCell ⟨w16.heap.size, 0, none⟩ (.int .i64 R.k)).setCell ⟨w16.heap.size, 1, none⟩ (.slice AT R.u.length cT)).setCell ⟨w16.heap.size, 2, none⟩ (.slice BT R.d.length eT)) (.agg #[.int .i64 R.k, .slice AT R.u.length cT, .slice BT R.d.length eT]) R := ⟨AT, cT, BT, eT, rfl, ea.apart hzw17.out _ (other3 _ _ _), eb.apart hzw17.out _ (other3 _ _ _)⟩
    clear ea eb xd xb xa xc
    clear kp0w16 kp1w16 kp2w16 kq0w16 kq1w16 kq2w16 kp0w17 kp1w17 kp2w17 kq0w17 kq1w17 kq2w17
    clear cp0 cp1 cp2 cq0 cq1 cq2
    clear z0w17 z1w17 z2w17 n0w17 n1w17 n2w17
    generalize ((w17.setCell ⟨w16.heap.size, 0, none⟩ (.int .i64 R.k)).setCell ⟨w16.heap.size, 1, none⟩ (.slice AT R.u.length cT)).setCell ⟨w16.heap.size, 2, none⟩ (.slice BT R.d.length eT) = w18 at *
    have dL := dL.below x18
    have dM := dM.below x18
    have dJ := dJ.below x18
    have dt := dt.below x18
    have ds7 := ds7.below x18
    have pP := pP.ext x18
    have pQ := pQ.ext x18
    have pR := pR.ext x18
    have pB := pB.ext x18
    have rp := Lib.hid ((x18.block _ (Array.getElem?_eq_some_iff.1 rp.out).1).trans rp.out)
    have rq := Lib.hid ((x18.block _ (Array.getElem?_eq_some_iff.1 rq.out).1).trans rq.out)
    have rr := Lib.hid ((x18.block _ (Array.getElem?_eq_some_iff.1 rr.out).1).trans rr.out)
    have rb := Lib.hid ((x18.block _ (Array.getElem?_eq_some_iff.1 rb.out).1).trans rb.out)
    have x0 := Ext.trans x0 x18
    clear x18
    have pR := pR
    go_wp2_with fail
    have du := ds7
    clear ds7
    have pS0 := pS
    have rows_ : ∀ u, Ext w18 u → u.heap[w16.heap.size]? = some (.cells #[.int .i64 R.k, .slice AT R.u.length cT, .slice BT R.d.length eT] 25 (0, 0)) := fun u hu => (hu.block _ (Array.getElem?_eq_some_iff.1 rs.out).1).trans rs.out
    refine wp_region_layt [Fact.val (.agg #[.int .i64 R.k, .slice AT R.u.length cT, .slice BT R.d.length eT]), Fact.val (.slice A0 L.length c0), Fact.ds (L), Fact.tupd (J) (0), Fact.tupd (J) (0), Fact.ds (J), Fact.val (.int .i64 (0)), Fact.ds (J), Fact.val (.int .i64 (0))] (w18) _ 9 (by kernel_rfl) (by kernel_rfl) (by kernel_rfl) (by kernel_rfl) (by kernel_rfl) (by kernel_rfl) (Ext.refl _) ?_ ?_
    · refine ⟨?_, ?_, ?_, ?_, ?_, ?_, ?_, ?_, ?_, trivial⟩
      · intro a u hx hd hr
        rw [if_pos (wanted_none rfl)]
        have e19 : a.eval (.tmp 19) = .pointer (some ⟨w16.heap.size, 0, none⟩) := hr 19 rfl
        exact Y_load_row 25 (.tmp 19) rfl _ e19 _ _ _ _ (rows_ _ hx) Try.underlying25 rfl (by kernel_rfl) rfl
      · intro a u hx hd hr
        rw [if_pos (wanted_none rfl)]
        exact Y_copy (.inl rfl) (hr 7 rfl)
      · intro a u hx hd hr
        rw [if_pos (wanted_none rfl)]
        have e109 : a.eval (.tmp 109) = .slice A0 L.length c0 := hd 1 109 rfl rfl
        clear hd hr
        refine Y_calls (f := 12) (args := #[(a.eval (.tmp 109))]) (by go_simp) ?_
        rw [e109]
        exact (kitnames_any A0 c0 L _ (dL.below hx) (by first | omega | (dsimp only; omega) | (simp; done) | (simp; omega))).mono fun e u2 ⟨v, hv, ho, hx2⟩ => ⟨v, hv, IsD.own ho (dL.below hx).ok, hx2⟩
      · intro a u hx hd hr
        rw [if_pos (wanted_none rfl)]
        have e108 : a.eval (.tmp 108) = .agg #[.int .i64 R.k, .slice AT R.u.length cT, .slice BT R.d.length eT] := hd 0 108 rfl rfl
        obtain ⟨A110, c110, e110, d110⟩ : IsD (L) (a.eval (.tmp 110)) u := hd 2 110 rfl rfl
        clear hd hr
        refine Y_calls (f := 14) (args := #[(a.eval (.tmp 108)), (a.eval (.tmp 110))]) (by go_simp) ?_
        rw [e108, e110]
        exact (apply_any _ R A110 c110 L _ (pS.ext hx) d110 (by first | omega | (dsimp only; omega) | (simp; done) | (simp; omega)) (by first | omega | (dsimp only; omega) | (simp; done) | (simp; omega)) (by first | omega | (dsimp only; omega) | (simp; done) | (simp; omega))).mono fun e u2 ⟨v, hv, hp, hx2⟩ => ⟨_, hv, ⟨v, by rw [HA3.out], by rw [HA3.out] at hp; exact hp⟩, hx2⟩
      · intro a u hx hd hr
        rw [if_pos (wanted_none rfl)]
        exact Y_copy (.inl rfl) (hd 3 111 rfl rfl)
      · intro a u hx hd hr
        rw [if_pos (wanted_none rfl)]
        obtain ⟨x107, e107, d107⟩ : ∃ x, a.eval (.tmp 107) = .tuple #[x, .int .i64 (0)] ∧ IsD (J) x u := hd 4 107 rfl rfl
        clear hd hr
        simp only [Act.eval, Array.getD_eq_getD_getElem?] at e107
        exact Y_val (v := x107) (by go_simp) d107
      · intro a u hx hd hr
        rw [if_pos (wanted_none rfl)]
        obtain ⟨x107, e107, d107⟩ : ∃ x, a.eval (.tmp 107) = .tuple #[x, .int .i64 (0)] ∧ IsD (J) x u := hd 4 107 rfl rfl
        clear hd hr
        simp only [Act.eval, Array.getD_eq_getD_getElem?] at e107
        exact Y_val (v := .int .i64 (0)) (by go_simp) rfl
      · intro a u hx hd hr
        rw [if_pos (wanted_none rfl)]
        exact Y_copy (.inr rfl) (hd 5 112 rfl rfl)
      · intro a u hx hd hr
        rw [if_pos (wanted_none rfl)]
        exact Y_copy (.inr rfl) (hd 6 113 rfl rfl)
    intro f w19 hwq hF
    have f0 : f 0 = .agg #[.int .i64 R.k, .slice AT R.u.length cT, .slice BT R.d.length eT] := hF 0 108 (by decide) rfl
    have f1 : f 1 = .slice A0 L.length c0 := hF 1 109 (by decide) rfl
    have f6 : f 6 = .int .i64 (0) := hF 6 113 (by decide) rfl
    obtain ⟨A7, c7, f7, ds7⟩ : IsD (J) (f 7) w19 := hF 7 21 (by decide) rfl
    have f8 : f 8 = .int .i64 (0) := hF 8 22 (by decide) rfl
    clear hF
    simp only [List.take_succ_cons, List.take_zero, List.drop_succ_cons, List.drop_zero, puts, Act.put, List.setIfInBounds_toArray, List.set_cons_succ, List.set_cons_zero, Nat.zero_add, Nat.reduceAdd, f0, f1, f6, f7, f8]
    clear f0 f1 f6 f7 f8
    generalize f 2 = y2
    generalize f 3 = y3
    generalize f 4 = y4
    generalize f 5 = y5
    refine wpList_nil ?_
    have dL := dL.below hwq
    have dM := dM.below hwq
    have dJ := dJ.below hwq
    have dt := dt.below hwq
    have du := du.below hwq
    have pP := pP.ext hwq
    have pQ := pQ.ext hwq
    have pR := pR.ext hwq
    have pB := pB.ext hwq
    have pS := pS.ext hwq
    have rp := Lib.hid ((hwq.block _ (Array.getElem?_eq_some_iff.1 rp.out).1).trans rp.out)
    have rq := Lib.hid ((hwq.block _ (Array.getElem?_eq_some_iff.1 rq.out).1).trans rq.out)
    have rr := Lib.hid ((hwq.block _ (Array.getElem?_eq_some_iff.1 rr.out).1).trans rr.out)
    have rb := Lib.hid ((hwq.block _ (Array.getElem?_eq_some_iff.1 rb.out).1).trans rb.out)
    have rs := Lib.hid ((hwq.block _ (Array.getElem?_eq_some_iff.1 rs.out).1).trans rs.out)
    have x0 := Ext.trans x0 hwq
    clear hwq rows_ pS0
    go_wp2_with fail
    have hct := digests_s _ _ M A1 c1 M w19 dt dM
    rw [SM.out] at hct
    refine hct.mono ?_
    rintro e w20 ⟨rfl, y17⟩
    clear hct
    have dL := dL.below y17
    have dM := dM.below y17
    have dJ := dJ.below y17
    have dt := dt.below y17
    have du := du.below y17
    have ds7 := ds7.below y17
    have pP := pP.ext y17
    have pQ := pQ.ext y17
    have pR := pR.ext y17
    have pB := pB.ext y17
    have pS := pS.ext y17
    have rp := Lib.hid ((y17.block _ (Array.getElem?_eq_some_iff.1 rp.out).1).trans rp.out)
    have rq := Lib.hid ((y17.block _ (Array.getElem?_eq_some_iff.1 rq.out).1).trans rq.out)
    have rr := Lib.hid ((y17.block _ (Array.getElem?_eq_some_iff.1 rr.out).1).trans rr.out)
    have rb := Lib.hid ((y17.block _ (Array.getElem?_eq_some_iff.1 rb.out).1).trans rb.out)
    have rs := Lib.hid ((y17.block _ (Array.getElem?_eq_some_iff.1 rs.out).1).trans rs.out)
    have x0 := Ext.trans x0 y17
    clear y17
    go_wp2_with fail
    have hct := digests_s _ _ L A0 c0 L w20 du dL
    rw [SL.out] at hct
    refine hct.mono ?_
    rintro e w21 ⟨rfl, y18⟩
    clear hct
    have dL := dL.below y18
    have dM := dM.below y18
    have dJ := dJ.below y18
    have dt := dt.below y18
    have du := du.below y18
    have ds7 := ds7.below y18
    have pP := pP.ext y18
    have pQ := pQ.ext y18
    have pR := pR.ext y18
    have pB := pB.ext y18
    have pS := pS.ext y18
    have rp := Lib.hid ((y18.block _ (Array.getElem?_eq_some_iff.1 rp.out).1).trans rp.out)
    have rq := Lib.hid ((y18.block _ (Array.getElem?_eq_some_iff.1 rq.out).1).trans rq.out)
    have rr := Lib.hid ((y18.block _ (Array.getElem?_eq_some_iff.1 rr.out).1).trans rr.out)
    have rb := Lib.hid ((y18.block _ (Array.getElem?_eq_some_iff.1 rb.out).1).trans rb.out)
    have rs := Lib.hid ((y18.block _ (Array.getElem?_eq_some_iff.1 rs.out).1).trans rs.out)
    have x0 := Ext.trans x0 y18
    clear y18
    have cs0 : (w21).cell? ⟨w16.heap.size, 0, none⟩ = some (.int .i64 R.k) := by rw [cell_of_row _ _ _ _ _ _ rs.out]; rfl
    have cs1 : (w21).cell? ⟨w16.heap.size, 1, none⟩ = some (.slice AT R.u.length cT) := by rw [cell_of_row _ _ _ _ _ _ rs.out]; rfl
    have cs2 : (w21).cell? ⟨w16.heap.size, 2, none⟩ = some (.slice BT R.d.length eT) := by rw [cell_of_row _ _ _ _ _ _ rs.out]; rfl
    have cr0 : (w21).cell? ⟨w10.heap.size, 0, none⟩ = some (.int .i64 R.k) := by rw [cell_of_row _ _ _ _ _ _ rr.out]; rfl
    have cr1 : (w21).cell? ⟨w10.heap.size, 1, none⟩ = some (.slice AR R.u.length cR) := by rw [cell_of_row _ _ _ _ _ _ rr.out]; rfl
    have cr2 : (w21).cell? ⟨w10.heap.size, 2, none⟩ = some (.slice BR R.d.length eR) := by rw [cell_of_row _ _ _ _ _ _ rr.out]; rfl
    go_wp2_with fail
    clear cs0 cs1 cs2 cr0 cr1 cr2
    have hct := kitplan_s _ R _ R w21 pS pR
    rw [SR.out] at hct
    refine hct.mono ?_
    rintro e w22 ⟨rfl, y19⟩
    clear hct
    have dL := dL.below y19
    have dM := dM.below y19
    have dJ := dJ.below y19
    have dt := dt.below y19
    have du := du.below y19
    have ds7 := ds7.below y19
    have pP := pP.ext y19
    have pQ := pQ.ext y19
    have pR := pR.ext y19
    have pB := pB.ext y19
    have pS := pS.ext y19
    have rp := Lib.hid ((y19.block _ (Array.getElem?_eq_some_iff.1 rp.out).1).trans rp.out)
    have rq := Lib.hid ((y19.block _ (Array.getElem?_eq_some_iff.1 rq.out).1).trans rq.out)
    have rr := Lib.hid ((y19.block _ (Array.getElem?_eq_some_iff.1 rr.out).1).trans rr.out)
    have rb := Lib.hid ((y19.block _ (Array.getElem?_eq_some_iff.1 rb.out).1).trans rb.out)
    have rs := Lib.hid ((y19.block _ (Array.getElem?_eq_some_iff.1 rs.out).1).trans rs.out)
    have x0 := Ext.trans x0 y19
    clear y19
    go_wp2_with fail
    have hct := digests_s _ _ J A2 c2 J w22 ds7 dJ
    rw [SJ.out] at hct
    refine hct.mono ?_
    rintro e w23 ⟨rfl, y20⟩
    clear hct
    have dL := dL.below y20
    have dM := dM.below y20
    have dJ := dJ.below y20
    have dt := dt.below y20
    have du := du.below y20
    have ds7 := ds7.below y20
    have pP := pP.ext y20
    have pQ := pQ.ext y20
    have pR := pR.ext y20
    have pB := pB.ext y20
    have pS := pS.ext y20
    have rp := Lib.hid ((y20.block _ (Array.getElem?_eq_some_iff.1 rp.out).1).trans rp.out)
    have rq := Lib.hid ((y20.block _ (Array.getElem?_eq_some_iff.1 rq.out).1).trans rq.out)
    have rr := Lib.hid ((y20.block _ (Array.getElem?_eq_some_iff.1 rr.out).1).trans rr.out)
    have rb := Lib.hid ((y20.block _ (Array.getElem?_eq_some_iff.1 rb.out).1).trans rb.out)
    have rs := Lib.hid ((y20.block _ (Array.getElem?_eq_some_iff.1 rs.out).1).trans rs.out)
    have x0 := Ext.trans x0 y20
    clear y20
    go_wp2_with fail
    go_ret
    exact ⟨rfl, x0⟩
  · have rs := Lib.hid (cells3 (.int .i64 R.k) (.slice AT R.u.length cT) (.slice BT R.d.length eT) hzw17.out)
    have x18 : Ext w15 (((w17.setCell ⟨w15.heap.size, 0, none⟩ (.int .i64 R.k)).setCell ⟨w15.heap.size, 1, none⟩ (.slice AT R.u.length cT)).setCell ⟨w15.heap.size, 2, none⟩ (.slice BT R.d.length eT)) := xd.set3 (by omega) _ _ _
    have pS : IsPlan (((w17.setCell ⟨w15.heap.size, 0, none⟩ (.int .i64 R.k)).setCell ⟨w15.heap.size, 1, none⟩ (.slice AT R.u.length cT)).setCell ⟨w15.heap.size, 2, none⟩ (.slice BT R.d.length eT)) (.agg #[.int .i64 R.k, .slice AT R.u.length cT, .slice BT R.d.length eT]) R := ⟨AT, cT, BT, eT, rfl, ea.apart hzw17.out _ (other3 _ _ _), eb.apart hzw17.out _ (other3 _ _ _)⟩
    clear ea eb xd xb xa xc
    clear kp0w16 kp1w16 kp2w16 kq0w16 kq1w16 kq2w16 kp0w17 kp1w17 kp2w17 kq0w17 kq1w17 kq2w17
    clear cp0 cp1 cp2 cq0 cq1 cq2
    clear z0w17 z1w17 z2w17 n0w17 n1w17 n2w17
    generalize ((w17.setCell ⟨w15.heap.size, 0, none⟩ (.int .i64 R.k)).setCell ⟨w15.heap.size, 1, none⟩ (.slice AT R.u.length cT)).setCell ⟨w15.heap.size, 2, none⟩ (.slice BT R.d.length eT) = w18 at *
    have dL := dL.below x18
    have dM := dM.below x18
    have dJ := dJ.below x18
    have dt := dt.below x18
    have ds7 := ds7.below x18
    have pP := pP.ext x18
    have pQ := pQ.ext x18
    have pR := pR.ext x18
    have pB := pB.ext x18
    have rp := Lib.hid ((x18.block _ (Array.getElem?_eq_some_iff.1 rp.out).1).trans rp.out)
    have rq := Lib.hid ((x18.block _ (Array.getElem?_eq_some_iff.1 rq.out).1).trans rq.out)
    have rr := Lib.hid ((x18.block _ (Array.getElem?_eq_some_iff.1 rr.out).1).trans rr.out)
    have rb := Lib.hid ((x18.block _ (Array.getElem?_eq_some_iff.1 rb.out).1).trans rb.out)
    have x0 := Ext.trans x0 x18
    clear x18
    have pR := pR
    go_wp2_with fail
    have du := ds7
    clear ds7
    have pS0 := pS
    have rows_ : ∀ u, Ext w18 u → u.heap[w15.heap.size]? = some (.cells #[.int .i64 R.k, .slice AT R.u.length cT, .slice BT R.d.length eT] 25 (0, 0)) := fun u hu => (hu.block _ (Array.getElem?_eq_some_iff.1 rs.out).1).trans rs.out
    refine wp_region_layt [Fact.val (.agg #[.int .i64 R.k, .slice AT R.u.length cT, .slice BT R.d.length eT]), Fact.val (.slice A0 L.length c0), Fact.ds (L), Fact.tupd (J) (0), Fact.tupd (J) (0), Fact.ds (J), Fact.val (.int .i64 (0)), Fact.ds (J), Fact.val (.int .i64 (0))] (w18) _ 9 (by kernel_rfl) (by kernel_rfl) (by kernel_rfl) (by kernel_rfl) (by kernel_rfl) (by kernel_rfl) (Ext.refl _) ?_ ?_
    · refine ⟨?_, ?_, ?_, ?_, ?_, ?_, ?_, ?_, ?_, trivial⟩
      · intro a u hx hd hr
        rw [if_pos (wanted_none rfl)]
        have e19 : a.eval (.tmp 19) = .pointer (some ⟨w15.heap.size, 0, none⟩) := hr 19 rfl
        exact Y_load_row 25 (.tmp 19) rfl _ e19 _ _ _ _ (rows_ _ hx) Try.underlying25 rfl (by kernel_rfl) rfl
      · intro a u hx hd hr
        rw [if_pos (wanted_none rfl)]
        exact Y_copy (.inl rfl) (hr 7 rfl)
      · intro a u hx hd hr
        rw [if_pos (wanted_none rfl)]
        have e109 : a.eval (.tmp 109) = .slice A0 L.length c0 := hd 1 109 rfl rfl
        clear hd hr
        refine Y_calls (f := 12) (args := #[(a.eval (.tmp 109))]) (by go_simp) ?_
        rw [e109]
        exact (kitnames_any A0 c0 L _ (dL.below hx) (by first | omega | (dsimp only; omega) | (simp; done) | (simp; omega))).mono fun e u2 ⟨v, hv, ho, hx2⟩ => ⟨v, hv, IsD.own ho (dL.below hx).ok, hx2⟩
      · intro a u hx hd hr
        rw [if_pos (wanted_none rfl)]
        have e108 : a.eval (.tmp 108) = .agg #[.int .i64 R.k, .slice AT R.u.length cT, .slice BT R.d.length eT] := hd 0 108 rfl rfl
        obtain ⟨A110, c110, e110, d110⟩ : IsD (L) (a.eval (.tmp 110)) u := hd 2 110 rfl rfl
        clear hd hr
        refine Y_calls (f := 14) (args := #[(a.eval (.tmp 108)), (a.eval (.tmp 110))]) (by go_simp) ?_
        rw [e108, e110]
        exact (apply_any _ R A110 c110 L _ (pS.ext hx) d110 (by first | omega | (dsimp only; omega) | (simp; done) | (simp; omega)) (by first | omega | (dsimp only; omega) | (simp; done) | (simp; omega)) (by first | omega | (dsimp only; omega) | (simp; done) | (simp; omega))).mono fun e u2 ⟨v, hv, hp, hx2⟩ => ⟨_, hv, ⟨v, by rw [HA3.out], by rw [HA3.out] at hp; exact hp⟩, hx2⟩
      · intro a u hx hd hr
        rw [if_pos (wanted_none rfl)]
        exact Y_copy (.inl rfl) (hd 3 111 rfl rfl)
      · intro a u hx hd hr
        rw [if_pos (wanted_none rfl)]
        obtain ⟨x107, e107, d107⟩ : ∃ x, a.eval (.tmp 107) = .tuple #[x, .int .i64 (0)] ∧ IsD (J) x u := hd 4 107 rfl rfl
        clear hd hr
        simp only [Act.eval, Array.getD_eq_getD_getElem?] at e107
        exact Y_val (v := x107) (by go_simp) d107
      · intro a u hx hd hr
        rw [if_pos (wanted_none rfl)]
        obtain ⟨x107, e107, d107⟩ : ∃ x, a.eval (.tmp 107) = .tuple #[x, .int .i64 (0)] ∧ IsD (J) x u := hd 4 107 rfl rfl
        clear hd hr
        simp only [Act.eval, Array.getD_eq_getD_getElem?] at e107
        exact Y_val (v := .int .i64 (0)) (by go_simp) rfl
      · intro a u hx hd hr
        rw [if_pos (wanted_none rfl)]
        exact Y_copy (.inr rfl) (hd 5 112 rfl rfl)
      · intro a u hx hd hr
        rw [if_pos (wanted_none rfl)]
        exact Y_copy (.inr rfl) (hd 6 113 rfl rfl)
    intro f w19 hwq hF
    have f0 : f 0 = .agg #[.int .i64 R.k, .slice AT R.u.length cT, .slice BT R.d.length eT] := hF 0 108 (by decide) rfl
    have f1 : f 1 = .slice A0 L.length c0 := hF 1 109 (by decide) rfl
    have f6 : f 6 = .int .i64 (0) := hF 6 113 (by decide) rfl
    obtain ⟨A7, c7, f7, ds7⟩ : IsD (J) (f 7) w19 := hF 7 21 (by decide) rfl
    have f8 : f 8 = .int .i64 (0) := hF 8 22 (by decide) rfl
    clear hF
    simp only [List.take_succ_cons, List.take_zero, List.drop_succ_cons, List.drop_zero, puts, Act.put, List.setIfInBounds_toArray, List.set_cons_succ, List.set_cons_zero, Nat.zero_add, Nat.reduceAdd, f0, f1, f6, f7, f8]
    clear f0 f1 f6 f7 f8
    generalize f 2 = y2
    generalize f 3 = y3
    generalize f 4 = y4
    generalize f 5 = y5
    refine wpList_nil ?_
    have dL := dL.below hwq
    have dM := dM.below hwq
    have dJ := dJ.below hwq
    have dt := dt.below hwq
    have du := du.below hwq
    have pP := pP.ext hwq
    have pQ := pQ.ext hwq
    have pR := pR.ext hwq
    have pB := pB.ext hwq
    have pS := pS.ext hwq
    have rp := Lib.hid ((hwq.block _ (Array.getElem?_eq_some_iff.1 rp.out).1).trans rp.out)
    have rq := Lib.hid ((hwq.block _ (Array.getElem?_eq_some_iff.1 rq.out).1).trans rq.out)
    have rr := Lib.hid ((hwq.block _ (Array.getElem?_eq_some_iff.1 rr.out).1).trans rr.out)
    have rb := Lib.hid ((hwq.block _ (Array.getElem?_eq_some_iff.1 rb.out).1).trans rb.out)
    have rs := Lib.hid ((hwq.block _ (Array.getElem?_eq_some_iff.1 rs.out).1).trans rs.out)
    have x0 := Ext.trans x0 hwq
    clear hwq rows_ pS0
    go_wp2_with fail
    have hct := digests_s _ _ M A1 c1 M w19 dt dM
    rw [SM.out] at hct
    refine hct.mono ?_
    rintro e w20 ⟨rfl, y17⟩
    clear hct
    have dL := dL.below y17
    have dM := dM.below y17
    have dJ := dJ.below y17
    have dt := dt.below y17
    have du := du.below y17
    have ds7 := ds7.below y17
    have pP := pP.ext y17
    have pQ := pQ.ext y17
    have pR := pR.ext y17
    have pB := pB.ext y17
    have pS := pS.ext y17
    have rp := Lib.hid ((y17.block _ (Array.getElem?_eq_some_iff.1 rp.out).1).trans rp.out)
    have rq := Lib.hid ((y17.block _ (Array.getElem?_eq_some_iff.1 rq.out).1).trans rq.out)
    have rr := Lib.hid ((y17.block _ (Array.getElem?_eq_some_iff.1 rr.out).1).trans rr.out)
    have rb := Lib.hid ((y17.block _ (Array.getElem?_eq_some_iff.1 rb.out).1).trans rb.out)
    have rs := Lib.hid ((y17.block _ (Array.getElem?_eq_some_iff.1 rs.out).1).trans rs.out)
    have x0 := Ext.trans x0 y17
    clear y17
    go_wp2_with fail
    have hct := digests_s _ _ L A0 c0 L w20 du dL
    rw [SL.out] at hct
    refine hct.mono ?_
    rintro e w21 ⟨rfl, y18⟩
    clear hct
    have dL := dL.below y18
    have dM := dM.below y18
    have dJ := dJ.below y18
    have dt := dt.below y18
    have du := du.below y18
    have ds7 := ds7.below y18
    have pP := pP.ext y18
    have pQ := pQ.ext y18
    have pR := pR.ext y18
    have pB := pB.ext y18
    have pS := pS.ext y18
    have rp := Lib.hid ((y18.block _ (Array.getElem?_eq_some_iff.1 rp.out).1).trans rp.out)
    have rq := Lib.hid ((y18.block _ (Array.getElem?_eq_some_iff.1 rq.out).1).trans rq.out)
    have rr := Lib.hid ((y18.block _ (Array.getElem?_eq_some_iff.1 rr.out).1).trans rr.out)
    have rb := Lib.hid ((y18.block _ (Array.getElem?_eq_some_iff.1 rb.out).1).trans rb.out)
    have rs := Lib.hid ((y18.block _ (Array.getElem?_eq_some_iff.1 rs.out).1).trans rs.out)
    have x0 := Ext.trans x0 y18
    clear y18
    have cs0 : (w21).cell? ⟨w15.heap.size, 0, none⟩ = some (.int .i64 R.k) := by rw [cell_of_row _ _ _ _ _ _ rs.out]; rfl
    have cs1 : (w21).cell? ⟨w15.heap.size, 1, none⟩ = some (.slice AT R.u.length cT) := by rw [cell_of_row _ _ _ _ _ _ rs.out]; rfl
    have cs2 : (w21).cell? ⟨w15.heap.size, 2, none⟩ = some (.slice BT R.d.length eT) := by rw [cell_of_row _ _ _ _ _ _ rs.out]; rfl
    have cr0 : (w21).cell? ⟨w10.heap.size, 0, none⟩ = some (.int .i64 R.k) := by rw [cell_of_row _ _ _ _ _ _ rr.out]; rfl
    have cr1 : (w21).cell? ⟨w10.heap.size, 1, none⟩ = some (.slice AR R.u.length cR) := by rw [cell_of_row _ _ _ _ _ _ rr.out]; rfl
    have cr2 : (w21).cell? ⟨w10.heap.size, 2, none⟩ = some (.slice BR R.d.length eR) := by rw [cell_of_row _ _ _ _ _ _ rr.out]; rfl
    go_wp2_with fail
    clear cs0 cs1 cs2 cr0 cr1 cr2
    have hct := kitplan_s _ R _ R w21 pS pR
    rw [SR.out] at hct
    refine hct.mono ?_
    rintro e w22 ⟨rfl, y19⟩
    clear hct
    have dL := dL.below y19
    have dM := dM.below y19
    have dJ := dJ.below y19
    have dt := dt.below y19
    have du := du.below y19
    have ds7 := ds7.below y19
    have pP := pP.ext y19
    have pQ := pQ.ext y19
    have pR := pR.ext y19
    have pB := pB.ext y19
    have pS := pS.ext y19
    have rp := Lib.hid ((y19.block _ (Array.getElem?_eq_some_iff.1 rp.out).1).trans rp.out)
    have rq := Lib.hid ((y19.block _ (Array.getElem?_eq_some_iff.1 rq.out).1).trans rq.out)
    have rr := Lib.hid ((y19.block _ (Array.getElem?_eq_some_iff.1 rr.out).1).trans rr.out)
    have rb := Lib.hid ((y19.block _ (Array.getElem?_eq_some_iff.1 rb.out).1).trans rb.out)
    have rs := Lib.hid ((y19.block _ (Array.getElem?_eq_some_iff.1 rs.out).1).trans rs.out)
    have x0 := Ext.trans x0 y19
    clear y19
    go_wp2_with fail
    have hct := digests_s _ _ J A2 c2 J w22 ds7 dJ
    rw [SJ.out] at hct
    refine hct.mono ?_
    rintro e w23 ⟨rfl, y20⟩
    clear hct
    have dL := dL.below y20
    have dM := dM.below y20
    have dJ := dJ.below y20
    have dt := dt.below y20
    have du := du.below y20
    have ds7 := ds7.below y20
    have pP := pP.ext y20
    have pQ := pQ.ext y20
    have pR := pR.ext y20
    have pB := pB.ext y20
    have pS := pS.ext y20
    have rp := Lib.hid ((y20.block _ (Array.getElem?_eq_some_iff.1 rp.out).1).trans rp.out)
    have rq := Lib.hid ((y20.block _ (Array.getElem?_eq_some_iff.1 rq.out).1).trans rq.out)
    have rr := Lib.hid ((y20.block _ (Array.getElem?_eq_some_iff.1 rr.out).1).trans rr.out)
    have rb := Lib.hid ((y20.block _ (Array.getElem?_eq_some_iff.1 rb.out).1).trans rb.out)
    have rs := Lib.hid ((y20.block _ (Array.getElem?_eq_some_iff.1 rs.out).1).trans rs.out)
    have x0 := Ext.trans x0 y20
    clear y20
    go_wp2_with fail
    go_ret
    exact ⟨rfl, x0⟩
end Go.Proofs.Ytigcfbpgbenabaa
