import Derived.Test.YtomdplbdndadcaaNtG
namespace Go.Proofs.Ytomdplbdndadcaa
open Go.RowKit

instance : DecidableEq EV := fun a b => if h : sameE a b = true then isTrue (sameE_iff.1 h) else isFalse (fun e => h (sameE_iff.2 e))

set_option maxHeartbeats 2000000 in
theorem equalfunc_any (A : Option Addr) (c : Nat) (E : List EV) (rs : List Raw) (B : Option Addr) (d : Nat) (F : List EV) (ss : List Raw) (w : World) (hA : Es w A c E rs) (hB : Es w B d F ss) :
    Calls Try.prog 33 #[.slice A E.length c, .slice B F.length d, .func (.func 34) #[] #[]] w fun e w' => e = .returned (.bool (decide (E = F))) ∧ Ext w w' := by
  have hle := hA.sl.le
  have hmx := hA.sl.max
  have h63 : E.length ≤ 9223372036854775807 := by unfold maxLen at hmx; omega
  clear hle hmx
  by_cases hlen : E.length = F.length
  · generalize hR : decide (E = F) = R
    have HR := Lib.hid hR
    have HL := Lib.hid hlen
    have hli : (E.length : Int) = (F.length : Int) := by omega
    clear hR hlen
    go_enter Try.func33, Try.ntmps33
    go_wp2_with fail
    have HLI := Lib.hid hli
    clear hli
    go_loopw [17] (fun i wr => ∃ j : Nat, j ≤ E.length ∧ i = .int .i64 (j : Int) ∧ E.take j = F.take j ∧ Ext w wr) (fun i _ => E.length - (intOf i).toNat)
    case atStart => exact ⟨0, by omega, rfl, by simp, Ext.refl _⟩
    case round =>
      obtain ⟨j, hj, rfl, heq, hwr⟩ := hrel
      have HEQ := Lib.hid heq
      clear heq
      by_cases hjl : j < E.length
      · have hjm : j < F.length := by have := HL.out; omega
        have hAr := hA.below hwr
        have hBr := hB.below hwr
        obtain ⟨b1, o1, rfl, hr1⟩ := hAr.at (by omega)
        obtain ⟨b2, o2, rfl, hr2⟩ := hBr.at (by omega)
        obtain ⟨g1, g2, g3⟩ := hr1 j hjl (by rw [hAr.len]; exact hjl)
        obtain ⟨k1, k2, k3⟩ := hr2 j hjm (by rw [hBr.len]; exact hjm)
        have hra := hAr.raw j hjl (by rw [hAr.len]; exact hjl)
        have hrb := hBr.raw j hjm (by rw [hBr.len]; exact hjm)
        obtain ⟨p, hp⟩ : ∃ p, p = rs[j]'(by rw [hAr.len]; exact hjl) := ⟨_, rfl⟩
        obtain ⟨q, hq⟩ : ∃ q, q = ss[j]'(by rw [hBr.len]; exact hjm) := ⟨_, rfl⟩
        obtain ⟨x, hx⟩ : ∃ x, x = E[j] := ⟨_, rfl⟩
        obtain ⟨y, hy⟩ : ∃ y, y = F[j] := ⟨_, rfl⟩
        rw [← hp] at g3 hra
        rw [← hq] at k3 hrb
        rw [← hx] at g1 g2 g3 hra
        rw [← hy] at k1 k2 k3 hrb
        have HX := Lib.hid hx
        have HY := Lib.hid hy
        obtain ⟨o3, ho3⟩ : ∃ o, o = Obj.cells #[.int .i64 x.f, .int .i64 x.t, .slice p.1 x.r.length p.2] 38 := ⟨_, rfl⟩
        have xa := Ext.alloc wr o3
        have a1 := (xa.cell (World.block_lt_of_cell? wr _ k1)).trans k1
        have a2 := (xa.cell (World.block_lt_of_cell? wr _ k2)).trans k2
        have a3 := (xa.cell (World.block_lt_of_cell? wr _ k3)).trans k3
        have xb := Ext.alloc (wr.alloc o3) (.cells #[.int .i64 y.f, .int .i64 y.t, .slice q.1 y.r.length q.2] 38)
        have xab := Ext.trans xa xb
        have hra2 : Bs _ p.1 p.2 x.r := Sl.below hra xab
        have hrb2 : Bs _ q.1 q.2 y.r := Sl.below hrb xab
        subst ho3
        clear hx hy hp hq hr1 hr2 hAr hBr hra hrb xa xb k1 k2 k3
        go_wp2_with fail
        refine (samefn_any x y p.1 p.2 q.1 q.2 _ hra2 hrb2).mono ?_
        rintro e w' ⟨rfl, x3⟩
        have xw := Ext.trans hwr (Ext.trans xab x3)
        clear xab x3 hra2 hrb2 a1 a2 a3 g1 g2 g3
        by_cases hxy : x = y
        · have hnext : E.take (j + 1) = F.take (j + 1) := by
            rw [List.take_add_one, List.take_add_one, HEQ.out, List.getElem?_eq_getElem hjl, List.getElem?_eq_getElem hjm, ← HX.out, ← HY.out, hxy]
          have HN := Lib.hid hnext
          rw [sameE_iff.2 hxy]
          clear hnext hxy
          go_wp2_with fail
          go_roundw
          case rel => exact ⟨j + 1, by omega, by go_num, HN.out, xw⟩
          case measure => simp [intOf]; omega
        · have hs : sameE x y = false := by
            cases h : sameE x y with
            | true => exact absurd (sameE_iff.1 h) hxy
            | false => rfl
          have hR : R = false := by
            rw [← HR.out]
            refine decide_eq_false fun e => hxy ?_
            rw [HX.out, HY.out]
            simp only [e]
          subst hR
          rw [hs]
          clear hs hxy
          go_wp2_with fail
          go_ret
          exact ⟨rfl, xw⟩
      · have hjj : j = E.length := by omega
        have hR : R = true := by
          rw [← HR.out]
          have h := HEQ.out
          rw [hjj, List.take_length] at h
          rw [h, HL.out, List.take_length]
          exact decide_eq_true rfl
        subst hR
        subst hjj
        have hnf : ¬ E.length < F.length := by have := HL.out; omega
        go_wp2_with fail
        go_ret
        exact ⟨rfl, hwr⟩
  · have hne : decide (E = F) = false := decide_eq_false fun e => hlen (by rw [e])
    rw [hne]
    have hli : (E.length : Int) ≠ (F.length : Int) := by omega
    clear hne hlen
    go_enter Try.func33, Try.ntmps33
    go_wp2_with fail
    go_ret
    exact ⟨rfl, Ext.refl w⟩
end Go.Proofs.Ytomdplbdndadcaa
