import Derived.Test.YtomdplbdndadcaaKn
import Derived.Deep.Cut
namespace Go.Proofs.Ytomdplbdndadcaa
open Go.RowKit

theorem ow_step {g : Nat} {wr u3 u5 : World} {F : List EV} {x : EV} {qs : List Raw} {Av A' B : Option Addr} {j cv c' q : Nat} {ob : Obj} {n old : Value} (hg : g < wr.heap.size) (hF : F.length = j)
    (hown : wr.ownsRow (g + 1) 38 3 (.slice Av j cv) j (cellsE F qs)) (hql : qs.length = F.length) (hqs : ∀ i (h1 : i < F.length) (h2 : i < qs.length), Bs wr qs[i].1 qs[i].2 F[i].r) (hfr : Fr wr (g + 1) qs)
    (hy : Ext wr u3) (hB : Bs u3 B q x.r) (hBb : ∀ a, B = some a → wr.heap.size ≤ a.block ∧ ∃ cur, u3.heap[a.block]? = some (.cells cur 5 (0, 0)))
    (hgr : (u3.alloc ob).grownBy u5 (Value.slice Av j cv).ownBlock) (hwn : u5.ownsRow (g + 1) 38 3 (.slice A' (j + 1) c') (j + 1) (cellsE F qs ++ cellsE [x] [(B, q)]))
    (hj : u5.heap[g]? = some (.cells #[n, old] 27 (0, 0))) :
    (u5.setCell ⟨g, 1, none⟩ (.slice A' (j + 1) c')).heap[g]? = some (.cells #[n, .slice A' (j + 1) c'] 27 (0, 0)) ∧
    (u5.setCell ⟨g, 1, none⟩ (.slice A' (j + 1) c')).ownsRow (g + 1) 38 3 (.slice A' (j + 1) c') (j + 1) (cellsE (F ++ [x]) (qs ++ [(B, q)])) ∧
    (qs ++ [(B, q)]).length = (F ++ [x]).length ∧ (∀ i (h1 : i < (F ++ [x]).length) (h2 : i < (qs ++ [(B, q)]).length), Bs (u5.setCell ⟨g, 1, none⟩ (.slice A' (j + 1) c')) (qs ++ [(B, q)])[i].1 (qs ++ [(B, q)])[i].2 (F ++ [x])[i].r) ∧
    Fr (u5.setCell ⟨g, 1, none⟩ (.slice A' (j + 1) c')) (g + 1) (qs ++ [(B, q)]) := by
  have hsu : (u3.alloc ob).heap.size = u3.heap.size + 1 := by simp only [World.alloc, Array.size_push]
  have hu3 : wr.heap.size ≤ u3.heap.size := hy.size
  have hne : ∀ q ∈ qs, ∀ a, q.1 = some a → some a.block ≠ (Value.slice Av j cv).ownBlock := fun q hq a ha e => by
    rcases hown.2 with ⟨h, _⟩ | ⟨g, cap, cur, hv, _, hg, _⟩
    · rw [h] at e; simp [Value.ownBlock] at e
    · rw [hv] at e
      simp only [Value.ownBlock, Option.some.injEq] at e
      exact hfr.ne hq ha hg (by decide) e
  have hkq : ∀ q' ∈ qs, ∀ a, q'.1 = some a → a.block < wr.heap.size → (u5.setCell ⟨g, 1, none⟩ (.slice A' (j + 1) c')).heap[a.block]? = wr.heap[a.block]? := fun q' hq' a ha hl => by
    rw [heap_setCell_other u5 ⟨g, 1, none⟩ a.block _ (by have := (hfr q' hq' a ha).1; show a.block ≠ g; omega), hgr.block _ (by omega) (hne q' hq' a ha), (Ext.alloc u3 _).block _ (by omega)]
    exact hy.block _ hl
  have hkB : ∀ a, B = some a → a.block < u3.heap.size → (u5.setCell ⟨g, 1, none⟩ (.slice A' (j + 1) c')).heap[a.block]? = u3.heap[a.block]? := fun a ha hl => by
    have hba : wr.heap.size ≤ a.block := (hBb a ha).1
    rw [heap_setCell_other u5 ⟨g, 1, none⟩ a.block _ (by show a.block ≠ g; omega), hgr.block _ (by omega) (fun e => by have := (hown.lt a.block e.symm).2; omega), (Ext.alloc u3 _).block _ hl]
  have hg5 : u5.grownBy (u5.setCell ⟨g, 1, none⟩ (.slice A' (j + 1) c')) (some g) := ⟨rfl, rfl, rfl, by simp [World.setCell], fun k _ hk => heap_setCell_other u5 ⟨g, 1, none⟩ k _ (fun e => hk (by rw [e]))⟩
  refine ⟨?_, ?_, by simp [hql], Es.append_raw hql (fun i h1 h2 => Sl.keep (hqs i h1 h2) (hkq _ (List.getElem_mem h2))) rfl (fun i h1 h2 => ?_), ?_⟩
  · have := heap_setCell_same u5 g 1 _ 27 (.slice A' (j + 1) c') hj
    simpa using this
  · rw [cellsE_append hql]
    exact World.ownsRow.kept hwn hg5 (.inr (fun e => by have := (hwn.lt _ e).1; omega))
  · have hi : i = 0 := by simp at h1; exact h1
    subst hi
    exact Sl.keep hB hkB
  · refine (hfr.kept (Nat.le_refl _) hkq).append ?_
    intro q' h a ha
    simp at h
    subst h
    obtain ⟨h1, cur, h2⟩ := hBb a ha
    exact ⟨by omega, cur, by rw [hkB a ha (Array.getElem?_eq_some_iff.1 h2).1]; exact h2⟩

set_option maxHeartbeats 4000000 in
theorem ownnet_any (n : Int) (A : Option Addr) (c : Nat) (E : List EV) (rs : List Raw) (w : World) (hA : Es w A c E rs) (hE : E.length ≤ 100000) (hr : ∀ e ∈ E, e.r.length ≤ 100000) :
    Calls Try.prog 19 #[.agg #[.int .i64 n, .slice A E.length c]] w fun e w' => ∃ B d ss, e = .returned (.agg #[.int .i64 n, .slice B E.length d]) ∧ Es w' B d E ss ∧ (∀ a, B = some a → w.heap.size ≤ a.block) ∧ Fr w' w.heap.size ss ∧ Ext w w' := by
  obtain ⟨i0, hi0, hz0, hz1, hz2⟩ := info_parts env_info
  have HI := Lib.hid hi0
  have HZ0 := Lib.hid hz0
  have HZ1 := Lib.hid hz1
  have HZ2 := Lib.hid hz2
  have HR := Lib.hid hr
  clear hi0 hz0 hz1 hz2 hr
  obtain ⟨o1, ho1⟩ : ∃ ob, ob = Obj.cells #[.int .i64 n, .slice A E.length c] 27 := ⟨_, rfl⟩
  obtain ⟨o2, ho2⟩ : ∃ ob, ob = Obj.cells #[.int .i64 0, .slice none 0 0] 27 := ⟨_, rfl⟩
  obtain ⟨o3, ho3⟩ : ∃ ob, ob = Obj.cells #[.int .i64 n, .slice none 0 0] 27 := ⟨_, rfl⟩
  have x1 := Ext.alloc w o1
  have x2 := Ext.alloc (w.alloc o1) o2
  have x3 := Ext.alloc ((w.alloc o1).alloc o2) o3
  have h1 := heap_alloc_new w o1
  have h2 := heap_alloc_new (w.alloc o1) o2
  have h3 := heap_alloc_new ((w.alloc o1).alloc o2) o3
  have hs1 : (w.alloc o1).heap.size = w.heap.size + 1 := by simp only [World.alloc, Array.size_push]
  have hs2 : ((w.alloc o1).alloc o2).heap.size = w.heap.size + 1 + 1 := by simp only [World.alloc, Array.size_push]
  rw [hs1] at h2
  rw [hs2] at h3
  have h1 := (Below.block (Ext.trans x2 x3) _ (Array.getElem?_eq_some_iff.1 h1).1).trans h1
  have h2 := (Below.block x3 _ (Array.getElem?_eq_some_iff.1 h2).1).trans h2
  have x0 := (Ext.trans (Ext.trans x1 x2) x3)
  clear x1 x2 x3 hs1 hs2
  have H1 := Lib.hid h1
  have H2 := Lib.hid h2
  have H3 := Lib.hid h3
  clear h1 h2 h3
  have X0 := Lib.hid x0
  subst ho1
  subst ho2
  subst ho3
  have HA := Lib.hid hA
  clear hA x0
  go_enter Try.func19, Try.ntmps19
  go_wp2_with fail
  generalize ((w.alloc (.cells #[.int .i64 n, .slice A E.length c] 27)).alloc (.cells #[.int .i64 0, .slice none 0 0] 27)).alloc (.cells #[.int .i64 n, .slice none 0 0] 27) = w0 at *
  go_loopw [4] (fun i wr => ∃ j : Nat, j ≤ E.length ∧ i = .int .i64 (j : Int) ∧ ∃ (Av : Option Addr) (cv : Nat) (qs : List Raw), wr.heap[w.heap.size]? = some (.cells #[.int .i64 n, .slice A E.length c] 27 (0, 0)) ∧ wr.heap[w.heap.size + 1]? = some (.cells #[.int .i64 0, .slice none 0 0] 27 (0, 0)) ∧
    wr.heap[w.heap.size + 1 + 1]? = some (.cells #[.int .i64 n, .slice Av j cv] 27 (0, 0)) ∧ wr.ownsRow (w.heap.size + 1 + 1 + 1) 38 3 (.slice Av j cv) j (cellsE (E.take j) qs) ∧ qs.length = (E.take j).length ∧
    (∀ i (h1 : i < (E.take j).length) (h2 : i < qs.length), Bs wr qs[i].1 qs[i].2 (E.take j)[i].r) ∧ Fr wr (w.heap.size + 1 + 1 + 1) qs ∧ Ext w wr) (fun i _ => E.length - (intOf i).toNat)
  case atStart =>
    exact ⟨0, by omega, rfl, none, 0, [], H1.out, H2.out, H3.out, World.ownsRow_nil _ _ _ _, rfl, (fun i h => by simp at h), (fun q hq => by cases hq), X0.out⟩
  case round =>
    obtain ⟨j, hj, rfl, Av, cv, qs, r1, r2, r3, hown, hql, hqs, hfr, hx⟩ := hrel
    have R1 := Lib.hid r1
    have R2 := Lib.hid r2
    have R3 := Lib.hid r3
    have HOWN := Lib.hid hown
    have HQL := Lib.hid hql
    have HQS := Lib.hid hqs
    have HFR := Lib.hid hfr
    have HX := Lib.hid hx
    have a1 : wr.cell? ⟨w.heap.size, 1, none⟩ = some (.slice A E.length c) := by rw [cell_of_row _ _ _ _ _ _ r1]; rfl
    have hA1 := HA.out.below hx
    have hgl : w.heap.size + 1 + 1 < wr.heap.size := (Array.getElem?_eq_some_iff.1 r3).1
    clear r1 r2 r3 hown hql hqs hfr hx
    by_cases hjl : j < E.length
    · obtain ⟨ab, ao, rfl, hca⟩ := hA1.at (by omega)
      obtain ⟨p1, p2, p3⟩ := hca j hjl (by rw [hA1.len]; exact hjl)
      have hxr := hA1.raw j hjl (by rw [hA1.len]; exact hjl)
      have hxl := HR.out _ (List.getElem_mem hjl)
      obtain ⟨x, hxd⟩ : ∃ x, x = E[j] := ⟨_, rfl⟩
      obtain ⟨qx, hqx⟩ : ∃ q, q = rs[j]'(by rw [hA1.len]; exact hjl) := ⟨_, rfl⟩
      rw [← hxd] at p1 p2 p3 hxr hxl
      rw [← hqx] at p3 hxr
      have htk : E.take (j + 1) = E.take j ++ [x] := by rw [List.take_add_one, List.getElem?_eq_getElem hjl, ← hxd]; rfl
      have HTK := Lib.hid htk
      have HXR := Lib.hid hxr
      have e1 : ¬ wr.heap.size = w.heap.size + 1 + 1 := by omega
      have e2 : ¬ w.heap.size + 1 + 1 = wr.heap.size := by omega
      have hlt : (E.take j).length = j := by rw [List.length_take]; omega
      have HLT := Lib.hid hlt
      clear hxd hqx hxr hca hA1 htk hlt
      go_wp2_with fail
      have yx := Ext.alloc wr (.cells #[.int .i64 x.f, .int .i64 x.t, .slice qx.1 x.r.length qx.2] 38)
      have rx := heap_alloc_new wr (.cells #[.int .i64 x.f, .int .i64 x.t, .slice qx.1 x.r.length qx.2] 38)
      generalize wr.alloc (.cells #[.int .i64 x.f, .int .i64 x.t, .slice qx.1 x.r.length qx.2] 38) = u2 at *
      have hrw2 : Bs u2 qx.1 qx.2 x.r := Sl.below HXR.out yx
      refine (kitown_any qx.1 qx.2 x.r u2 hrw2 (by omega)).mono ?_
      rintro e u3 ⟨v, rfl, hv, y3⟩
      obtain ⟨B, q, rfl, hB, hBge⟩ := Sl.of_own hv
      have hBt := own_row hv
      have rx3 := (y3.block _ (Array.getElem?_eq_some_iff.1 rx).1).trans rx
      have R13 := Lib.hid ((Below.block (Ext.trans yx y3) _ (Array.getElem?_eq_some_iff.1 R1.out).1).trans R1.out)
      have R23 := Lib.hid ((Below.block (Ext.trans yx y3) _ (Array.getElem?_eq_some_iff.1 R2.out).1).trans R2.out)
      have R33 := Lib.hid ((Below.block (Ext.trans yx y3) _ (Array.getElem?_eq_some_iff.1 R3.out).1).trans R3.out)
      have b0 : u3.cell? ⟨wr.heap.size, 0, none⟩ = some (.int .i64 x.f) := by rw [cell_of_row _ _ _ _ _ _ rx3]; rfl
      have b1 : u3.cell? ⟨wr.heap.size, 1, none⟩ = some (.int .i64 x.t) := by rw [cell_of_row _ _ _ _ _ _ rx3]; rfl
      have b2 : u3.cell? ⟨wr.heap.size, 2, none⟩ = some (.slice qx.1 x.r.length qx.2) := by rw [cell_of_row _ _ _ _ _ _ rx3]; rfl
      have b3 := frozen_of_row u3 wr.heap.size 2 _ _ rx3
      have hux : wr.heap.size < u2.heap.size := (Array.getElem?_eq_some_iff.1 rx).1
      have RX3 := Lib.hid rx3
      have Y3 := Lib.hid (Ext.trans yx y3)
      have HBt := Lib.hid hBt
      have HBge := Lib.hid hBge
      have HB := Lib.hid hB
      clear hrw2 hv hBt rx rx3 yx y3 hBge hB
      go_upto_region 7 with fail
      obtain ⟨u4, hu4⟩ : ∃ u4, u4 = u3.setCell ⟨wr.heap.size, 2, none⟩ (.slice B x.r.length q) := ⟨_, rfl⟩
      rw [← hu4]
      have hk4 : ∀ k, k ≠ wr.heap.size → u4.heap[k]? = u3.heap[k]? := fun k hk => by rw [hu4]; exact heap_setCell_other u3 ⟨wr.heap.size, 2, none⟩ k _ hk
      have rx4 : u4.heap[wr.heap.size]? = some (.cells #[.int .i64 x.f, .int .i64 x.t, .slice B x.r.length q] 38 (0, 0)) := by
        have := heap_setCell_same u3 wr.heap.size 2 _ 38 (.slice B x.r.length q) RX3.out
        rw [hu4]; simpa using this
      have y4 : Ext wr u4 := by rw [hu4]; exact Below.setCell Y3.out (p := ⟨wr.heap.size, 2, none⟩) (Nat.le_refl _) _
      have R14 := Lib.hid ((hk4 _ (by omega)).trans R13.out)
      have R24 := Lib.hid ((hk4 _ (by omega)).trans R23.out)
      have R34 := Lib.hid ((hk4 _ (by omega)).trans R33.out)
      have hB4 : Bs u4 B q x.r := Sl.keep HB.out (fun a ha _ => hk4 _ (by have := HBge.out a ha; omega))
      have hBb4 : ∀ a, B = some a → wr.heap.size ≤ a.block ∧ ∃ cur, u4.heap[a.block]? = some (.cells cur 5 (0, 0)) := fun a ha => by
        have h1 := HBge.out a ha
        obtain ⟨cur, h2⟩ := HBt.out a ha
        exact ⟨by omega, cur, by rw [hk4 _ (by omega)]; exact h2⟩
      have d0 : u4.cell? ⟨wr.heap.size, 0, none⟩ = some (.int .i64 x.f) := by rw [cell_of_row _ _ _ _ _ _ rx4]; rfl
      have d1 : u4.cell? ⟨wr.heap.size, 1, none⟩ = some (.int .i64 x.t) := by rw [cell_of_row _ _ _ _ _ _ rx4]; rfl
      have d2 : u4.cell? ⟨wr.heap.size, 2, none⟩ = some (.slice B x.r.length q) := by rw [cell_of_row _ _ _ _ _ _ rx4]; rfl
      have d3 : u4.cell? ⟨w.heap.size + 1 + 1, 1, none⟩ = some (.slice Av j cv) := by rw [cell_of_row _ _ _ _ _ _ R34.out]; rfl
      have hown4 := Lib.hid (World.ownsRow.kept (w := wr) HOWN.out (below_grown (row := none) y4) (Classical.em _))
      have hs4 : wr.heap.size ≤ u4.heap.size := y4.size
      have hs4' : (u4.alloc (.cells #[.int .i64 x.f, .int .i64 x.t, .slice B x.r.length q] 38)).heap.size = u4.heap.size + 1 := by simp only [World.alloc, Array.size_push]
      have hbase : w.heap.size + 1 + 1 + 1 ≤ (u4.alloc (.cells #[.int .i64 x.f, .int .i64 x.t, .slice B x.r.length q] 38)).heap.size := by omega
      have HBASE := Lib.hid hbase
      have HS4 := Lib.hid hs4'
      have Y4 := Lib.hid y4
      have HB4 := Lib.hid hB4
      have HBB4 := Lib.hid hBb4
      clear hu4 hk4 rx4 y4 hB4 hBb4 hs4' hbase
      go_wp2_with (at_builtin; refine wpList_append_sl _ rfl (.tmp 26) (.tmp 28) 25 rfl (w.heap.size + 1 + 1 + 1) 38 i0 _ 3 40 Try.underlying25 HI.out HZ0.out HZ1.out HZ2.out (by simp [Value.cells]) (by omega) (.slice Av j cv) j (cellsE (E.take j) qs) rfl (hown4.out.alloc _) (some ⟨u4.heap.size, 0, none⟩) 1 1 (cellsE [x] [(B, q)]) rfl (env_one u4 x.f x.t x.r B q) (cellsE_one _ _) (by unfold maxLen; omega) (by omega) HBASE.out ?_; intro v' u5 hwn hgr hat; obtain ⟨A', c', rfl, hsl, hge⟩ := Sl.of_own hwn
                   have hnb : ∀ k, k < w.heap.size + 1 + 1 + 1 → some k ≠ (Value.slice Av j cv).ownBlock := fun k hk e => by have := (HOWN.out.lt k e.symm).1; omega
                   have hkeep : ∀ k, k < w.heap.size + 1 + 1 + 1 → u5.heap[k]? = u4.heap[k]? := fun k hk => by rw [hgr.block k (by have := HS4.out; omega) (hnb k hk), (Ext.alloc u4 _).block k (by omega)]
                   have K1 := Lib.hid ((hkeep _ (by omega)).trans R14.out)
                   have K2 := Lib.hid ((hkeep _ (by omega)).trans R24.out)
                   have K3 := Lib.hid ((hkeep _ (by omega)).trans R34.out)
                   have z1 : u5.cell? ⟨w.heap.size + 1 + 1, 1, none⟩ = some (.slice Av j cv) := by rw [cell_of_row _ _ _ _ _ _ K3.out]; rfl
                   have z2 := frozen_of_row u5 (w.heap.size + 1 + 1) 1 _ _ K3.out
                   have hst := ow_step (x := x) hgl HLT.out HOWN.out HQL.out HQS.out HFR.out Y4.out HB4.out HBB4.out hgr hwn K3.out
                   have HST := Lib.hid hst
                   have XR := Lib.hid (Below.grown (Ext.trans HX.out (Ext.trans Y4.out (Ext.alloc u4 _))) hgr (by have := HX.out.size; have := HS4.out; omega) (fun k hk => by have := (HOWN.out.lt k hk).1; omega))
                   clear hwn hgr hat hsl hge hnb hkeep hst)
      go_roundw
      case rel =>
        obtain ⟨h1, h2, h3, h4, h5⟩ := HST.out
        refine ⟨j + 1, by omega, by go_num, A', c', qs ++ [(B, q)], ?_, ?_, h1, ?_, ?_, ?_, h5, Below.setCell XR.out (p := ⟨w.heap.size + 1 + 1, 1, none⟩) (by show w.heap.size ≤ w.heap.size + 1 + 1; omega) _⟩
        · rw [heap_setCell_other u5 ⟨w.heap.size + 1 + 1, 1, none⟩ _ _ (by show w.heap.size ≠ w.heap.size + 1 + 1; omega)]; exact K1.out
        · rw [heap_setCell_other u5 ⟨w.heap.size + 1 + 1, 1, none⟩ _ _ (by show w.heap.size + 1 ≠ w.heap.size + 1 + 1; omega)]; exact K2.out
        · rw [HTK.out]; exact h2
        · rw [HTK.out]; exact h3
        · rw [HTK.out]; exact h4
      case measure => simp [intOf]; omega
    · have hjl2 : j = E.length := by omega
      subst hjl2
      have htk : E.take E.length = E := List.take_length
      have hown := HOWN.out
      have hql := HQL.out
      have hqs := HQS.out
      rw [htk] at hown hql
      obtain ⟨A', c', hv, hsl, hge⟩ := Sl.of_own hown
      simp only [Value.slice.injEq, true_and] at hv
      obtain ⟨rfl, rfl⟩ := hv
      have hEs : Es wr Av cv E qs := ⟨hql, hsl, fun i h1 h2 => by
        have := hqs i (by rw [htk]; exact h1) h2
        simpa only [List.getElem_take] using this⟩
      have HES := Lib.hid hEs
      have HGE := Lib.hid hge
      have k0 : wr.cell? ⟨w.heap.size + 1 + 1, 0, none⟩ = some (.int .i64 n) := by rw [cell_of_row _ _ _ _ _ _ R3.out]; rfl
      have k1 : wr.cell? ⟨w.heap.size + 1 + 1, 1, none⟩ = some (.slice Av E.length cv) := by rw [cell_of_row _ _ _ _ _ _ R3.out]; rfl
      have k2 : wr.cell? ⟨w.heap.size + 1, 0, none⟩ = some (.int .i64 0) := by rw [cell_of_row _ _ _ _ _ _ R2.out]; rfl
      have k3 : wr.cell? ⟨w.heap.size + 1, 1, none⟩ = some (.slice none 0 0) := by rw [cell_of_row _ _ _ _ _ _ R2.out]; rfl
      have k4 := frozen_of_row wr (w.heap.size + 1) 0 _ _ R2.out
      have k5 := frozen_of_row wr (w.heap.size + 1) 1 _ _ R2.out
      clear htk hown hql hqs hsl hge hEs hA1
      go_wp2_with fail
      have r9 := cells2 (.int .i64 n) (.slice Av E.length cv) R2.out
      refine bodyPost_ret (results_cell1 rfl _ _ (w.heap.size + 1) _ rfl (net_load r9)) rfl ?_
      have hE9 := HES.out
      have hge := HGE.out
      have hfr := HFR.out
      refine ⟨Av, cv, qs, rfl, ⟨hE9.len, hE9.sl.keep (fun a ha _ => other2 _ _ _ (by have := hge a ha; omega)), fun i h1 h2 => Sl.keep (hE9.raw i h1 h2) (fun a ha _ => other2 _ _ _ (hfr.ne (List.getElem_mem h2) ha R2.out (by decide)))⟩, fun a ha => by have := hge a ha; omega, hfr.kept (by omega) (fun q hq a ha _ => other2 _ _ _ (hfr.ne hq ha R2.out (by decide))), Ext.set2 HX.out (by omega) _ _⟩
end Go.Proofs.Ytomdplbdndadcaa
