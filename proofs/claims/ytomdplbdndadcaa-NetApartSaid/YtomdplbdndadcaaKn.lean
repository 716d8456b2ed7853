import Derived.Test.YtomdplbdndadcaaNtZ
import Derived.Deep.DeepCutAuto
namespace Go.Proofs.Ytomdplbdndadcaa
open Go.RowKit

theorem two_alloc (w : World) (X Y : Obj) : ((w.alloc X).alloc Y).heap[w.heap.size]? = some X ∧ ((w.alloc X).alloc Y).heap[w.heap.size + 1]? = some Y ∧ Ext w ((w.alloc X).alloc Y) := by
  have hs : (w.alloc X).heap.size = w.heap.size + 1 := by simp only [World.alloc, Array.size_push]
  have h1 := heap_alloc_new w X
  have h1 := ((Ext.alloc (w.alloc X) Y).block _ (Array.getElem?_eq_some_iff.1 h1).1).trans h1
  have h2 := heap_alloc_new (w.alloc X) Y
  rw [hs] at h2
  exact ⟨h1, h2, Ext.trans (Ext.alloc _ _) (Ext.alloc _ _)⟩
theorem two_drew (w : World) (X Y : Obj) : ((w.alloc X).alloc Y).drew.heap[w.heap.size]? = some X ∧ ((w.alloc X).alloc Y).drew.heap[w.heap.size + 1]? = some Y ∧ Ext w ((w.alloc X).alloc Y).drew :=
  ⟨(two_alloc w X Y).1, (two_alloc w X Y).2.1, Ext.trans (two_alloc w X Y).2.2 (Ext.drew _)⟩

set_option maxHeartbeats 4000000 in
theorem kitnet_any (n k : Int) (A : Option Addr) (c : Nat) (E : List EV) (rs : List Raw) (B : Option Addr) (d : Nat) (G : List EV) (ss : List Raw) (w : World) (hA : Es w A c E rs) (hB : Es w B d G ss) (hE : E.length ≤ 100000) (hG : G.length ≤ 100000) :
    Calls Try.prog 16 #[.agg #[.int .i64 n, .slice A E.length c], .agg #[.int .i64 k, .slice B G.length d]] w fun e w' => e = .returned (.bool (sameN ⟨n, E⟩ ⟨k, G⟩)) ∧ Ext w w' := by
  obtain ⟨o1, ho1⟩ : ∃ ob, ob = Obj.cells #[.int .i64 n, .slice A E.length c] 27 := ⟨_, rfl⟩
  obtain ⟨o2, ho2⟩ : ∃ ob, ob = Obj.cells #[.int .i64 k, .slice B G.length d] 27 := ⟨_, rfl⟩
  have x1 := Ext.alloc w o1
  have x2 := Ext.alloc (w.alloc o1) o2
  have h1 := heap_alloc_new w o1
  have h2 := heap_alloc_new (w.alloc o1) o2
  have h1 := (Below.block x2 _ (Array.getElem?_eq_some_iff.1 h1).1).trans h1
  rw [show (w.alloc o1).heap.size = w.heap.size + 1 by simp only [World.alloc, Array.size_push]] at h2
  have x0 := Ext.trans x1 x2
  have X0 := Lib.hid x0
  have hA0 := hA.below x0
  have hB0 := hB.below x0
  subst ho1
  subst ho2
  have H1 := Lib.hid h1
  have H2 := Lib.hid h2
  clear h1 h2 x1 x2 x0 hA hB
  by_cases hnk : n = k
  case neg =>
    have q1 : (n == k) = false := beq_eq_false_iff_ne.2 hnk
    have q2 : (n != k) = true := by rw [bne, q1]; rfl
    rw [show sameN ⟨n, E⟩ ⟨k, G⟩ = false by unfold sameN; rw [decide_eq_false hnk]; rfl]
    clear hnk
    go_enter Try.func16, Try.ntmps16
    go_wp2_with fail
    go_ret
    exact ⟨rfl, X0.out⟩
  case pos =>
    subst hnk
    by_cases hl : E.length = G.length
    case neg =>
      have q1 : ((E.length : Int) == (G.length : Int)) = false := beq_eq_false_iff_ne.2 (by omega)
      have q2 : ((E.length : Int) != (G.length : Int)) = true := by rw [bne, q1]; rfl
      have hne : ¬ E = G := fun h => hl (by rw [h])
      rw [show sameN ⟨n, E⟩ ⟨n, G⟩ = false by unfold sameN; rw [decide_eq_false hne, Bool.and_false]]
      clear hl hne
      go_enter Try.func16, Try.ntmps16
      go_wp2_with fail
      go_ret
      exact ⟨rfl, X0.out⟩
    case pos =>
      obtain ⟨L, hL⟩ : ∃ L, L = E.length := ⟨_, rfl⟩
      have hL2 : L = G.length := by omega
      rw [← hL, ← hL2]
      rw [← hL, ← hL2] at H1 H2
      have X0' : Hid (Ext w ((w.alloc (.cells #[.int .i64 n, .slice A L c] 27)).alloc (.cells #[.int .i64 n, .slice B L d] 27))) := by have := X0; rw [← hL, ← hL2] at this; exact this
      rw [← hL, ← hL2] at hA0 hB0
      have HL := Lib.hid hL
      have HL2 := Lib.hid hL2
      have HA0 := Lib.hid hA0
      have HB0 := Lib.hid hB0
      clear hL hL2 hA0 hB0 hl
      go_enter Try.func16, Try.ntmps16
      go_wp2_with fail
      generalize (w.alloc (.cells #[.int .i64 n, .slice A L c] 27)).alloc (.cells #[.int .i64 n, .slice B L d] 27) = w0 at *
      go_loopw [5] (fun i wr => ∃ j : Nat, j ≤ L ∧ i = .int .i64 (j : Int) ∧ (∀ t, t < j → E[t]? = G[t]?) ∧ Ext w0 wr) (fun i _ => L - (intOf i).toNat)
      case atStart => exact ⟨0, by omega, rfl, fun t ht => by omega, Ext.refl _⟩
      case round =>
        obtain ⟨j, hj, rfl, hsame, hx⟩ := hrel
        have HS := Lib.hid hsame
        have HX := Lib.hid hx
        have R1 := Lib.hid ((hx.block _ (Array.getElem?_eq_some_iff.1 H1.out).1).trans H1.out)
        have R2 := Lib.hid ((hx.block _ (Array.getElem?_eq_some_iff.1 H2.out).1).trans H2.out)
        have a1 : wr.cell? ⟨w.heap.size, 1, none⟩ = some (.slice A L c) := by rw [cell_of_row _ _ _ _ _ _ R1.out]; rfl
        have a2 : wr.cell? ⟨w.heap.size + 1, 1, none⟩ = some (.slice B L d) := by rw [cell_of_row _ _ _ _ _ _ R2.out]; rfl
        have hA1 := HA0.out.below hx
        have hB1 := HB0.out.below hx
        clear hsame hx
        by_cases hjl : j < L
        · have hje : j < E.length := by rw [← HL.out]; exact hjl
          have hjg : j < G.length := by rw [← HL2.out]; exact hjl
          obtain ⟨ab, ao, rfl, hca⟩ := hA1.at (by omega)
          obtain ⟨bb, bo, rfl, hcb⟩ := hB1.at (by omega)
          obtain ⟨p1, p2, p3⟩ := hca j hje (by rw [hA1.len]; exact hje)
          obtain ⟨q1, q2, q3⟩ := hcb j hjg (by rw [hB1.len]; exact hjg)
          have hxr := hA1.raw j hje (by rw [hA1.len]; exact hje)
          have hyr := hB1.raw j hjg (by rw [hB1.len]; exact hjg)
          obtain ⟨x, hxd⟩ : ∃ x, x = E[j] := ⟨_, rfl⟩
          obtain ⟨y, hyd⟩ : ∃ y, y = G[j] := ⟨_, rfl⟩
          obtain ⟨qx, hqx⟩ : ∃ q, q = rs[j]'(by rw [hA1.len]; exact hje) := ⟨_, rfl⟩
          obtain ⟨qy, hqy⟩ : ∃ q, q = ss[j]'(by rw [hB1.len]; exact hjg) := ⟨_, rfl⟩
          rw [← hxd] at p1 p2 p3 hxr
          rw [← hyd] at q1 q2 q3 hyr
          rw [← hqx] at p3 hxr
          rw [← hqy] at q3 hyr
          have HXD := Lib.hid hxd
          have HYD := Lib.hid hyd
          have HXR := Lib.hid hxr
          have HYR := Lib.hid hyr
          clear hxd hyd hqx hqy hxr hyr hca hcb hA1 hB1
          go_upto_region 6 with fail
          go_cut [6, 7] (fun s6 s7 wx => ∃ g h : Nat, s6 = .pointer (some ⟨g, 0, none⟩) ∧ s7 = .pointer (some ⟨h, 0, none⟩) ∧ wx.heap[g]? = some (.cells #[.int .i64 x.f, .int .i64 x.t, .slice qx.1 x.r.length qx.2] 38 (0, 0)) ∧ wx.heap[h]? = some (.cells #[.int .i64 y.f, .int .i64 y.t, .slice qy.1 y.r.length qy.2] 38 (0, 0)) ∧ Ext wr wx)
          case first =>
            go_region_held3 (fun u => u.cell? ⟨w.heap.size, 1, none⟩ = some (.slice (some ⟨ab, ao, none⟩) L c) ∧ u.cell? ⟨w.heap.size + 1, 1, none⟩ = some (.slice (some ⟨bb, bo, none⟩) L d) ∧ u.cell? ⟨ab, ao + j * 3, none⟩ = some (.int .i64 x.f) ∧ u.cell? ⟨ab, ao + j * 3 + 1, none⟩ = some (.int .i64 x.t) ∧ u.cell? ⟨ab, ao + j * 3 + 2, none⟩ = some (.slice qx.1 x.r.length qx.2) ∧ u.cell? ⟨bb, bo + j * 3, none⟩ = some (.int .i64 y.f) ∧ u.cell? ⟨bb, bo + j * 3 + 1, none⟩ = some (.int .i64 y.t) ∧ u.cell? ⟨bb, bo + j * 3 + 2, none⟩ = some (.slice qy.1 y.r.length qy.2)) (refine ⟨?_, ?_, ?_, ?_, ?_, ?_, ?_, ?_⟩ <;> (repeat' (first | with_reducible assumption | with_reducible refine cell_drew ?_ | with_reducible refine cell_alloc ?_))) (fail)
            all_goals (go_wp2_with fail; go_meet)
            all_goals first
              | exact ⟨wr.heap.size, wr.heap.size + 1, rfl, rfl, (two_drew wr _ _).1, (two_drew wr _ _).2.1, (two_drew wr _ _).2.2⟩
              | exact ⟨wr.heap.size + 1, wr.heap.size, rfl, rfl, (two_drew wr _ _).2.1, (two_drew wr _ _).1, (two_drew wr _ _).2.2⟩
          case rest =>
            obtain ⟨g, h, rfl, rfl, rg, rh, yx⟩ := hcut
            have g0 : wc.cell? ⟨g, 0, none⟩ = some (.int .i64 x.f) := by rw [cell_of_row _ _ _ _ _ _ rg]; rfl
            have g1 : wc.cell? ⟨g, 1, none⟩ = some (.int .i64 x.t) := by rw [cell_of_row _ _ _ _ _ _ rg]; rfl
            have g2 : wc.cell? ⟨g, 2, none⟩ = some (.slice qx.1 x.r.length qx.2) := by rw [cell_of_row _ _ _ _ _ _ rg]; rfl
            have h0 : wc.cell? ⟨h, 0, none⟩ = some (.int .i64 y.f) := by rw [cell_of_row _ _ _ _ _ _ rh]; rfl
            have h1 : wc.cell? ⟨h, 1, none⟩ = some (.int .i64 y.t) := by rw [cell_of_row _ _ _ _ _ _ rh]; rfl
            have h2 : wc.cell? ⟨h, 2, none⟩ = some (.slice qy.1 y.r.length qy.2) := by rw [cell_of_row _ _ _ _ _ _ rh]; rfl
            have s1 := run_str (Sl.below HXR.out yx) 32 9 5 Try.underlying32 Try.underlying5 Try.underlying9
            have s2 := run_str (Sl.below HYR.out yx) 32 9 5 Try.underlying32 Try.underlying5 Try.underlying9
            have HY := Lib.hid yx
            clear rg rh yx
            by_cases d1 : x.f = y.f
            case neg =>
              have e1 : (x.f == y.f) = false := beq_eq_false_iff_ne.2 d1
              have e2 : (x.f != y.f) = true := by rw [bne, e1]; rfl
              have hsn : sameN ⟨n, E⟩ ⟨n, G⟩ = false := by
                have hne : ¬ E = G := fun h => by
                  apply d1
                  have hg : E[j] = G[j] := by simp only [h]
                  rw [HXD.out, HYD.out, hg]
                unfold sameN; rw [decide_eq_false hne, Bool.and_false]
              have HSN := Lib.hid hsn
              clear hsn d1
              go_wp2_with fail
              go_ret
              exact ⟨by rw [HSN.out]; rfl, Ext.trans X0'.out (Ext.trans HX.out HY.out)⟩
            case pos =>
            have e1 : (x.f == y.f) = true := beq_iff_eq.2 d1
            have e2 : (x.f != y.f) = false := by rw [bne, e1]; rfl
            by_cases d2 : x.t = y.t
            case neg =>
              have e3 : (x.t == y.t) = false := beq_eq_false_iff_ne.2 d2
              have e4 : (x.t != y.t) = true := by rw [bne, e3]; rfl
              have hsn : sameN ⟨n, E⟩ ⟨n, G⟩ = false := by
                have hne : ¬ E = G := fun h => by
                  apply d2
                  have hg : E[j] = G[j] := by simp only [h]
                  rw [HXD.out, HYD.out, hg]
                unfold sameN; rw [decide_eq_false hne, Bool.and_false]
              have HSN := Lib.hid hsn
              clear hsn d1 d2
              go_wp2_with fail
              go_ret
              exact ⟨by rw [HSN.out]; rfl, Ext.trans X0'.out (Ext.trans HX.out HY.out)⟩
            case pos =>
            have e3 : (x.t == y.t) = true := beq_iff_eq.2 d2
            have e4 : (x.t != y.t) = false := by rw [bne, e3]; rfl
            have HD1 := Lib.hid d1
            have HD2 := Lib.hid d2
            clear d1 d2
            by_cases d3 : x.r = y.r
            case neg =>
              have e5 : (x.r == y.r) = false := beq_eq_false_iff_ne.2 d3
              have hsn : sameN ⟨n, E⟩ ⟨n, G⟩ = false := by
                have hne : ¬ E = G := fun h => by
                  apply d3
                  have hg : E[j] = G[j] := by simp only [h]
                  rw [HXD.out, HYD.out, hg]
                unfold sameN; rw [decide_eq_false hne, Bool.and_false]
              have HSN := Lib.hid hsn
              clear hsn d3
              go_wp2_with fail
              go_ret
              exact ⟨by rw [HSN.out]; rfl, Ext.trans X0'.out (Ext.trans HX.out HY.out)⟩
            case pos =>
            have e5 : (x.r == y.r) = true := beq_iff_eq.2 d3
            have HD3 := Lib.hid d3
            clear d3
            go_wp2_with fail
            go_roundw
            case rel =>
              refine ⟨j + 1, by omega, by go_num, fun t ht => ?_, Ext.trans HX.out HY.out⟩
              by_cases htj : t < j
              · exact HS.out t htj
              · have : t = j := by omega
                subst this
                rw [List.getElem?_eq_getElem hje, List.getElem?_eq_getElem hjg, ← HXD.out, ← HYD.out]
                cases x; cases y
                simp only [Option.some.injEq, EV.mk.injEq]
                exact ⟨HD1.out, HD2.out, HD3.out⟩
            case measure => simp [intOf]; omega
        · have hjL : j = L := by omega
          subst hjL
          have hsn : sameN ⟨n, E⟩ ⟨n, G⟩ = true := by
            rw [sameN_iff]
            have : E = G := by
              apply List.ext_getElem? 
              intro t
              rcases Nat.lt_or_ge t j with h | h
              · exact HS.out t h
              · rw [List.getElem?_eq_none (by rw [← HL.out]; exact h), List.getElem?_eq_none (by rw [← HL2.out]; exact h)]
            rw [this]
          have HSN := Lib.hid hsn
          clear hsn hA1 hB1
          go_wp2_with fail
          go_ret
          exact ⟨by rw [HSN.out]; rfl, Ext.trans X0'.out HX.out⟩
end Go.Proofs.Ytomdplbdndadcaa
