import Derived.Test.YtomdplbdndadcaaNtU
import Derived.Deep.Cut
namespace Go.Proofs.Ytomdplbdndadcaa
open Go.RowKit

def hitB (f o t : Int) : Bool := decide (t = o) || (decide (o = -1) && decide (t ≠ f))
def freshN (f o : Int) (r : List UInt8) (n : Nat) : List EV := ((List.range n).filter (fun t : Nat => hitB f o (t : Int))).map (fun t : Nat => ⟨f, (t : Int), r⟩)
theorem freshN_succ (f o : Int) (r : List UInt8) (n : Nat) : freshN f o r (n + 1) = freshN f o r n ++ (if hitB f o (n : Int) = true then [⟨f, (n : Int), r⟩] else []) := by
  unfold freshN
  rw [List.range_succ, List.filter_append, List.map_append]
  congr 1
  by_cases h : hitB f o (n : Int) = true
  · simp [h]
  · simp [h]
theorem freshN_len (f o : Int) (r : List UInt8) (n : Nat) : (freshN f o r n).length ≤ n := by
  unfold freshN
  rw [List.length_map]
  exact Nat.le_trans (List.length_filter_le _ _) (by simp)
theorem freshN_raw (f o : Int) (r : List UInt8) (n : Nat) : ∀ e ∈ freshN f o r n, e.r = r := by
  intro e he
  unfold freshN at he
  obtain ⟨t, _, rfl⟩ := List.mem_map.1 he
  rfl
theorem changed_put (p base0 : Nat) (n : Int) (A : Option Addr) (c : Nat) (E F : List EV) (rs : List Raw) (C : Option Addr) (d : Nat) (ts : List Raw) (w : World) (hA : Es w A c E rs) (hE : E.length ≤ 100000) (hr : ∀ e ∈ E, e.r.length ≤ 100000) (hF : Es w C d F ts) (hFl : F.length ≤ 100000) (hts : Fr w base0 ts) (hb0 : base0 ≤ w.heap.size + 2)
    (hpw : w.cell? ⟨p, 0, none⟩ = some (.slice C F.length d)) :
    Calls Try.prog 25 #[.agg #[.int .i64 n, .slice A E.length c], .func (.func 29) #[] #[.pointer (some ⟨p, 0, none⟩)]] w fun e w2 => ∃ B d ss, e = .returned (.agg #[.int .i64 n, .slice B (E ++ F).length d]) ∧ Es w2 B d (E ++ F) ss ∧ (∀ a, B = some a → w.heap.size + 2 ≤ a.block) ∧ Fr w2 base0 ss ∧ Ext w w2 := by
  by_cases h0 : 0 < E.length
  · exact changed_some 29 p calls29 n A c E rs w hA hE hr h0 (E ++ F) base0 (put_call p base0 E F C d ts w hE h0 hF hFl hts hb0 hpw)
  · have hE0 : E = [] := List.eq_nil_of_length_eq_zero (by omega)
    subst hE0
    have hrs : rs = [] := List.eq_nil_of_length_eq_zero hA.len
    subst hrs
    exact changed_nil 29 p calls29 n A c w hA F base0 (put_call_nil p base0 F C d ts w hF hFl hts hpw)
theorem step_append_sl {P : Program} {w : World} {ops : Array Oper} {o : Oper} {a : Act} {K : Act → World → Prop} {Q : Exit → Act → World → Prop} {E : Prop} (hgd : o.guard = none) (s x : Operand) (t : TypeId)
    (ho : o.op = .call { callee := .builtin .append, args := #[s, x], argTypes := #[t, t] })
    (base : Nat) (e : TypeId) (i : TypeInfo) (z : Value) (size bytes : Nat) (ht : P.underlying t = some (.slice e)) (hi : P.info? e = some i) (hz : i.zero = some z)
    (hsize : i.size = size) (hby : i.bytes = bytes) (hzs : z.cells.size = size) (hsz : 0 < size)
    (v : Value) (n : Nat) (xs : List Value) (hs : a.eval s = v) (hown : w.ownsRow base e size v n xs)
    (A : Option Addr) (m c : Nat) (news : List Value) (hx : a.eval x = .slice A m c) (hr : Sl w A m c size news) (h1 : ∀ u ∈ news, u.oneCell' = true)
    (h63 : n + m ≤ maxLen) (hbytes : (n + m) * bytes ≤ 140737488355328) (hbase : base ≤ w.heap.size)
    (h : ∀ v' w', w'.ownsRow base e size v' (n + m) (xs ++ news) → w.grownBy w' v.ownBlock → (v'.ownBlock = v.ownBlock ∨ v'.ownBlock = some w.heap.size) → K (a.put o.dst v') w') : if Region.wanted o (yielded ops a.tmps) = true then Oper.wp P o a w K Q else E := by
  have hw : Region.wanted o (yielded ops a.tmps) = true := by simp [Region.wanted, hgd]
  rw [if_pos hw]
  obtain ⟨v', w', hrun, h2, h3, h4⟩ := run_append_sl (P := P) (w := w) base t o.type e i z size bytes ht hi hz hsize hby hzs hsz v n xs hown A m c news hr h1 h63 hbytes hbase
  unfold Oper.wp execOp
  simp only [ho, resolve, invoke, builtin, Sem.run_bind, Sem.run_pure, Result.andThen_ok, List.map_toArray, List.map_cons, List.map_nil, hs, hx, hrun]
  exact h v' w' h2 h3 h4

theorem step_calls {P : Program} {ops : Array Oper} {o : Oper} {a : Act} {w : World} {K : Act → World → Prop} {Q : Exit → Act → World → Prop} {E : Prop} (hgd : o.guard = none) (f : FuncId) (args : Array Value) (h : (execOp a.eval o).run P w = .ok (.enter f args) w)
    (ψ : Value → World → Prop) (hc : Calls P f args w fun e w' => ∃ v, e = .returned v ∧ ψ v w' ∧ Ext w w') (hk : ∀ v w', ψ v w' → Ext w w' → K (a.put o.dst v) w') : if Region.wanted o (yielded ops a.tmps) = true then Oper.wp P o a w K Q else E := by
  rw [if_pos (by simp [Region.wanted, hgd])]
  exact wp_of_Y (Y_calls h hc) hk
theorem own_step (f t : Int) (A : Option Addr) (c : Nat) (l : List UInt8) (w : World) (hA : Bs w A c l) (hl : l.length ≤ 100000000000000) :
    Calls Try.prog 23 #[.agg #[.int .i64 f, .int .i64 t, .slice A l.length c]] w fun e w' => ∃ v, e = .returned v ∧ (∃ B d, v = .agg #[.int .i64 f, .int .i64 t, .slice B l.length d] ∧ Bs w' B d l ∧ (∀ a, B = some a → w.heap.size ≤ a.block ∧ ∃ cur, w'.heap[a.block]? = some (.cells cur 5 (0, 0)))) ∧ Ext w w' :=
  (own_any f t A c l w hA hl).mono fun _ _ ⟨B, d, he, h1, h2, h3⟩ => ⟨_, he, ⟨B, d, rfl, h1, h2⟩, h3⟩
theorem cell_set1 {w : World} {p : Addr} {x : Value} {a : Addr} {v : Value} (h : w.cell? a = some v) (hn : a.block ≠ p.block) : (w.setCell p x).cell? a = some v := by
  rw [World.cell?_of_block (w := w) (heap_setCell_other w p a.block x hn)]; exact h
theorem env_one (w : World) (f t : Int) (r : List UInt8) (B : Option Addr) (q : Nat) : Sl (w.alloc (.cells #[.int .i64 f, .int .i64 t, .slice B r.length q] 38)) (some ⟨w.heap.size, 0, none⟩) 1 1 3 (cellsE [⟨f, t, r⟩] [(B, q)]) := by
  refine ⟨rfl, Nat.le_refl _, by simp [maxLen], (fun h => by cases h), ?_⟩
  rintro a ⟨⟩ i u hu
  rw [Addr.add_lit, Nat.zero_add, cell_of_row _ _ _ _ _ _ (heap_alloc_new _ _)]
  simpa [cellsE] using hu
theorem put_step {w1 wr u3 u5 : World} {F : List EV} {x : EV} {qs : List Raw} {Av A' B : Option Addr} {cv c' q : Nat} {r : List UInt8} {ob : Obj} {old : Value} (htb : w1.heap.size < wr.heap.size)
    (hown : wr.ownsRow (w1.heap.size + 1) 38 3 (.slice Av F.length cv) F.length (cellsE F qs)) (hql : qs.length = F.length) (hqs : ∀ q ∈ qs, Bs wr q.1 q.2 r) (hfr : Fr wr (w1.heap.size + 1) qs)
    (hy : Ext wr.drew u3) (hB : Bs u3 B q r) (hBb : ∀ a, B = some a → wr.drew.heap.size ≤ a.block ∧ ∃ cur, u3.heap[a.block]? = some (.cells cur 5 (0, 0)))
    (hgr : (u3.alloc ob).grownBy u5 (Value.slice Av F.length cv).ownBlock) (hwn : u5.ownsRow (w1.heap.size + 1) 38 3 (.slice A' (F.length + 1) c') (F.length + 1) (cellsE F qs ++ cellsE [x] [(B, q)]))
    (hj : u5.heap[w1.heap.size]? = some (.cells #[old] 25 (0, 0))) (hx : Ext w1 u5) :
    (u5.setCell ⟨w1.heap.size, 0, none⟩ (.slice A' (F.length + 1) c')).heap[w1.heap.size]? = some (.cells #[.slice A' (F ++ [x]).length c'] 25 (0, 0)) ∧
    (u5.setCell ⟨w1.heap.size, 0, none⟩ (.slice A' (F.length + 1) c')).ownsRow (w1.heap.size + 1) 38 3 (.slice A' (F ++ [x]).length c') (F ++ [x]).length (cellsE (F ++ [x]) (qs ++ [(B, q)])) ∧
    (qs ++ [(B, q)]).length = (F ++ [x]).length ∧ (∀ q' ∈ qs ++ [(B, q)], Bs (u5.setCell ⟨w1.heap.size, 0, none⟩ (.slice A' (F.length + 1) c')) q'.1 q'.2 r) ∧
    Fr (u5.setCell ⟨w1.heap.size, 0, none⟩ (.slice A' (F.length + 1) c')) (w1.heap.size + 1) (qs ++ [(B, q)]) ∧ Ext w1 (u5.setCell ⟨w1.heap.size, 0, none⟩ (.slice A' (F.length + 1) c')) := by
  have hlen : (F ++ [x]).length = F.length + 1 := by simp
  have hsu : (u3.alloc ob).heap.size = u3.heap.size + 1 := by simp only [World.alloc, Array.size_push]
  have hu3 : wr.heap.size ≤ u3.heap.size := hy.size
  have hne : ∀ q ∈ qs, ∀ a, q.1 = some a → some a.block ≠ (Value.slice Av F.length cv).ownBlock := fun q hq a ha e => by
    rcases hown.2 with ⟨h, _⟩ | ⟨g, cap, cur, hv, _, hg, _⟩
    · rw [h] at e; simp [Value.ownBlock] at e
    · rw [hv] at e
      simp only [Value.ownBlock, Option.some.injEq] at e
      exact hfr.ne hq ha hg (by decide) e
  have hkq : ∀ q' ∈ qs, ∀ a, q'.1 = some a → a.block < wr.heap.size → (u5.setCell ⟨w1.heap.size, 0, none⟩ (.slice A' (F.length + 1) c')).heap[a.block]? = wr.heap[a.block]? := fun q' hq' a ha hl => by
    rw [heap_setCell_other u5 ⟨w1.heap.size, 0, none⟩ a.block _ (by have := (hfr q' hq' a ha).1; show a.block ≠ w1.heap.size; omega), hgr.block _ (by omega) (hne q' hq' a ha), (Ext.alloc u3 _).block _ (by omega)]
    exact hy.block _ hl
  have hkB : ∀ a, B = some a → a.block < u3.heap.size → (u5.setCell ⟨w1.heap.size, 0, none⟩ (.slice A' (F.length + 1) c')).heap[a.block]? = u3.heap[a.block]? := fun a ha hl => by
    have hba : wr.heap.size ≤ a.block := (hBb a ha).1
    rw [heap_setCell_other u5 ⟨w1.heap.size, 0, none⟩ a.block _ (by show a.block ≠ w1.heap.size; omega), hgr.block _ (by omega) (fun e => by have := (hown.lt a.block e.symm).2; omega), (Ext.alloc u3 _).block _ hl]
  have hg5 : u5.grownBy (u5.setCell ⟨w1.heap.size, 0, none⟩ (.slice A' (F.length + 1) c')) (some w1.heap.size) := ⟨rfl, rfl, rfl, by simp [World.setCell], fun k _ hk => heap_setCell_other u5 ⟨w1.heap.size, 0, none⟩ k _ (fun e => hk (by rw [e]))⟩
  rw [hlen]
  refine ⟨?_, ?_, by simp [hql], ?_, ?_, ?_⟩
  · have := heap_setCell_same u5 w1.heap.size 0 _ 25 (.slice A' (F.length + 1) c') hj
    simpa using this
  · rw [cellsE_append hql]
    exact World.ownsRow.kept hwn hg5 (.inr (fun e => by have := (hwn.lt _ e).1; omega))
  · intro q' hq'
    rcases List.mem_append.1 hq' with h | h
    · exact Sl.keep (hqs q' h) (hkq q' h)
    · simp at h
      subst h
      exact Sl.keep hB hkB
  · refine (hfr.kept (Nat.le_refl _) hkq).append ?_
    intro q' h a ha
    simp at h
    subst h
    obtain ⟨h1, cur, h2⟩ := hBb a ha
    have h1 : wr.heap.size ≤ a.block := h1
    exact ⟨by omega, cur, by rw [hkB a ha (Array.getElem?_eq_some_iff.1 h2).1]; exact h2⟩
  · exact Below.setCell hx (p := ⟨w1.heap.size, 0, none⟩) (Nat.le_refl _) _
theorem slice_info : (Try.prog.info? 25).map (·.size) = some 1 := by kernel_rfl

set_option maxHeartbeats 8000000 in
theorem put_good (m : Nat) (A : Option Addr) (c : Nat) (E : List EV) (rs : List Raw) (f o : Int) (C : Option Addr) (d : Nat) (r : List UInt8) (w : World) (hA : Es w A c E rs) (hC : Bs w C d r)
    (hc0 : checkN ⟨(m : Int), E⟩ = 0) (hm : m ≤ 7) (hE : E.length ≤ 512) (hr : ∀ e ∈ E, e.r.length ≤ 100000) (b1 : ¬ f < 0) (b2 : ¬ (m : Int) ≤ f) (b3 : ¬ o < -1) (b4 : ¬ (m : Int) ≤ o) (b5 : ¬ o = f) (hrl : r.length ≤ 16384) :
    Calls Try.prog 14 #[.agg #[.int .i64 (m : Int), .slice A E.length c], .int .i64 f, .agg #[.int .i64 o, .slice C r.length d]] w fun e w' =>
      (512 < E.length + (freshN f o r m).length ∧ e = .returned (.tuple #[.agg #[.int .i64 0, .slice none 0 0], .int .i64 0, .int .i64 7]) ∧ Ext w w') ∨
      (E.length + (freshN f o r m).length ≤ 512 ∧ ∃ B d ss, e = .returned (.tuple #[.agg #[.int .i64 (m : Int), .slice B (E ++ freshN f o r m).length d], .int .i64 ((freshN f o r m).length : Int), .int .i64 0]) ∧ Es w' B d (E ++ freshN f o r m) ss ∧ (∀ a, B = some a → w.heap.size ≤ a.block) ∧ Fr w' w.heap.size ss ∧ Ext w w') := by
  obtain ⟨i0, hi0, hz0, hz1, hz2⟩ := info_parts env_info
  have HI := Lib.hid hi0
  have HZ0 := Lib.hid hz0
  have HZ1 := Lib.hid hz1
  have HZ2 := Lib.hid hz2
  clear hi0 hz0 hz1 hz2
  have HC0 := Lib.hid hc0
  have HR := Lib.hid hr
  have HCB := Lib.hid hC
  clear hc0 hr hC
  obtain ⟨o1, ho1⟩ : ∃ ob, ob = Obj.cells #[.int .i64 (m : Int), .slice A E.length c] 27 := ⟨_, rfl⟩
  obtain ⟨o2, ho2⟩ : ∃ ob, ob = Obj.cells #[.int .i64 o, .slice C r.length d] 34 := ⟨_, rfl⟩
  obtain ⟨o3, ho3⟩ : ∃ ob, ob = Obj.cells #[.int .i64 0, .slice none 0 0] 27 := ⟨_, rfl⟩
  have x1 := Ext.alloc w o1
  have x2 := Ext.alloc (w.alloc o1) o2
  have x3 := Ext.alloc ((w.alloc o1).alloc o2) o3
  have h1 := heap_alloc_new w o1
  have h2 := heap_alloc_new (w.alloc o1) o2
  have h3 := heap_alloc_new ((w.alloc o1).alloc o2) o3
  have hs1 : (w.alloc o1).heap.size = w.heap.size + 1 := by simp only [World.alloc, Array.size_push]
  have hs2 : ((w.alloc o1).alloc o2).heap.size = w.heap.size + 1 + 1 := by simp only [World.alloc, Array.size_push]
  rw [hs1] at h2
  rw [hs2] at h3
  have h1 := (Below.block (Ext.trans x2 x3) _ (Array.getElem?_eq_some_iff.1 h1).1).trans h1
  have h2 := (Below.block x3 _ (Array.getElem?_eq_some_iff.1 h2).1).trans h2
  have x0 := (Ext.trans (Ext.trans x1 x2) x3)
  clear x1 x2 x3 hs1 hs2
  have H1 := Lib.hid h1
  have H2 := Lib.hid h2
  have H3 := Lib.hid h3
  clear h1 h2 h3
  have X0 := Lib.hid x0
  subst ho1
  subst ho2
  subst ho3
  have hA0 := Lib.hid (hA.below x0)
  have hC0 := Lib.hid (Sl.below HCB.out x0)
  have q1 : decide (f < 0) = false := decide_eq_false b1
  have q2 : decide ((m : Int) ≤ f) = false := decide_eq_false b2
  have q3 : decide (o < -1) = false := decide_eq_false b3
  have q4 : decide ((m : Int) ≤ o) = false := decide_eq_false b4
  have q5 : (o == f) = false := beq_eq_false_iff_ne.2 b5
  have q6 : decide (16384 < (r.length : Int)) = false := decide_eq_false (by omega)
  have HB := Lib.hid (And.intro b1 (And.intro b2 (And.intro b3 (And.intro b4 b5))))
  clear b1 b2 b3 b4 b5
  go_enter Try.func14, Try.ntmps14
  go_wp2_with fail
  generalize ((w.alloc _).alloc _).alloc _ = w0 at *
  have hct := check_any _ ⟨(m : Int), E⟩ rs w0 ⟨A, c, rfl, hA0.out⟩
  rw [HC0.out] at hct
  refine hct.mono ?_
  rintro e w1 ⟨rfl, y1⟩
  have X1 := Lib.hid y1
  have k1 := Lib.hid ((y1.block _ (Array.getElem?_eq_some_iff.1 H1.out).1).trans H1.out)
  have k2 := Lib.hid ((y1.block _ (Array.getElem?_eq_some_iff.1 H2.out).1).trans H2.out)
  have k3 := Lib.hid ((y1.block _ (Array.getElem?_eq_some_iff.1 H3.out).1).trans H3.out)
  have hA1 := Lib.hid (hA0.out.below y1)
  have hC1 := Lib.hid (Sl.below hC0.out y1)
  have m1 : w1.cell? ⟨w.heap.size, 0, none⟩ = some (.int .i64 (m : Int)) := by rw [cell_of_row _ _ _ _ _ _ k1.out]; rfl
  have m2 : w1.cell? ⟨w.heap.size + 1, 0, none⟩ = some (.int .i64 o) := by rw [cell_of_row _ _ _ _ _ _ k2.out]; rfl
  have m3 : w1.cell? ⟨w.heap.size + 1, 1, none⟩ = some (.slice C r.length d) := by rw [cell_of_row _ _ _ _ _ _ k2.out]; rfl
  have hz1 : w.heap.size + 1 + 1 < w1.heap.size := (Array.getElem?_eq_some_iff.1 k3.out).1
  clear hct y1 x0
  go_upto_region 6 with fail
  have ya := Ext.alloc w1 (.cells #[.slice none 0 0] 25)
  have ha := heap_alloc_new w1 (.cells #[.slice none 0 0] 25)
  have hsa : (w1.alloc (.cells #[.slice none 0 0] 25)).heap.size = w1.heap.size + 1 := by simp only [World.alloc, Array.size_push]
  generalize w1.alloc (.cells #[.slice none 0 0] 25) = wa at *
  have K1 := Lib.hid ((ya.block _ (Array.getElem?_eq_some_iff.1 k1.out).1).trans k1.out)
  have K2 := Lib.hid ((ya.block _ (Array.getElem?_eq_some_iff.1 k2.out).1).trans k2.out)
  have K3 := Lib.hid ((ya.block _ (Array.getElem?_eq_some_iff.1 k3.out).1).trans k3.out)
  have n1 : wa.cell? ⟨w.heap.size, 0, none⟩ = some (.int .i64 (m : Int)) := by rw [cell_of_row _ _ _ _ _ _ K1.out]; rfl
  have HA := Lib.hid ha
  have HSA := Lib.hid hsa
  have YA := Lib.hid ya
  have hAa := Lib.hid (hA1.out.below ya)
  have hCa := Lib.hid (Sl.below hC1.out ya)
  clear ya ha hsa m1 m2 m3 hA
  go_wp2_with fail
  go_loopw [50] (fun i wr => ∃ j : Nat, j ≤ m ∧ i = .int .i64 (j : Int) ∧ ∃ (Av : Option Addr) (cv : Nat) (qs : List Raw), wr.heap[w1.heap.size]? = some (.cells #[.slice Av (freshN f o r j).length cv] 25 (0, 0)) ∧
    wr.ownsRow (w1.heap.size + 1) 38 3 (.slice Av (freshN f o r j).length cv) (freshN f o r j).length (cellsE (freshN f o r j) qs) ∧ qs.length = (freshN f o r j).length ∧
    (∀ q ∈ qs, Bs wr q.1 q.2 r) ∧ Fr wr (w1.heap.size + 1) qs ∧ Ext w1 wr) (fun i _ => m - (intOf i).toNat)
  case atStart =>
    exact ⟨0, by omega, rfl, none, 0, [], HA.out, World.ownsRow_nil _ _ _ _, rfl, (fun q hq => by cases hq), (fun q hq => by cases hq), YA.out⟩
  case round =>
    obtain ⟨j, hj, rfl, Av, cv, qs, hrow, hown, hql, hqs, hfr, hxr⟩ := hrel
    by_cases hjl : j < m
    · have hrow0 := hrow
      obtain ⟨F, hF⟩ : ∃ F, F = freshN f o r j := ⟨_, rfl⟩
      have hFl : F.length ≤ j := by rw [hF]; exact freshN_len _ _ _ _
      rw [← hF] at hrow hown hql
      have HF := Lib.hid hF
      have HROW := Lib.hid hrow
      have HOWN := Lib.hid hown
      have HQS := Lib.hid hqs
      have HQL := Lib.hid hql
      have HFR := Lib.hid hfr
      have R2 := Lib.hid ((hxr.block _ (Array.getElem?_eq_some_iff.1 k2.out).1).trans k2.out)
      have g1 : wr.cell? ⟨w.heap.size + 1, 0, none⟩ = some (.int .i64 o) := by rw [cell_of_row _ _ _ _ _ _ R2.out]; rfl
      have g2 : wr.cell? ⟨w.heap.size + 1, 1, none⟩ = some (.slice C r.length d) := by rw [cell_of_row _ _ _ _ _ _ R2.out]; rfl
      clear hF hrow hrow0 hown hqs hql hfr
      have hcase : (hitB f o j = true ∧ ((((j : Int) == o) = true) ∨ (((j : Int) == o) = false ∧ (o == -1) = true ∧ ((j : Int) == f) = false ∧ ((j : Int) != f) = true))) ∨
          (hitB f o j = false ∧ ((((j : Int) == o) = false ∧ (o == -1) = true ∧ ((j : Int) == f) = true ∧ ((j : Int) != f) = false) ∨ (((j : Int) == o) = false ∧ (o == -1) = false))) := by
        unfold hitB
        by_cases c1 : (j : Int) = o
        · left; simp [c1]
        · by_cases c2 : o = -1
          · by_cases c3 : (j : Int) = f
            · right; simp [c2, c3]; first | done | omega
            · left; simp [c2, c3]; first | done | omega
          · right; simp [c1, c2]
      rcases hcase with ⟨hh, e1 | ⟨e1, e2, e3, e4⟩⟩ | ⟨hh, ⟨e1, e2, e3, e4⟩ | ⟨e1, e2⟩⟩
      · have HH := Lib.hid hh
        clear hh
        have ht0 : wr.cell? ⟨w1.heap.size, 0, none⟩ = some (.slice Av F.length cv) := by rw [cell_of_row _ _ _ _ _ _ HROW.out]; rfl
        have hob := HOWN.out
        have hrawr := Lib.hid (Sl.drew (Sl.below hC1.out hxr))
        have hcall := own_step f (j : Int) C d r wr.drew hrawr.out (by omega)
        have HCALL := Lib.hid hcall
        clear hcall
        go_wp2_with fail
        go_region_law (first
          | (refine step_calls rfl 23 #[.agg #[.int .i64 f, .int .i64 (j : Int), .slice C r.length d]] (by go_simp) _ HCALL.out ?_
             rintro _ u3 ⟨B, q, rfl, hB, hBb⟩ y2
             have z1 : u3.cell? ⟨w1.heap.size, 0, none⟩ = some (.slice Av F.length cv) := by rw [Below.cell y2 (World.block_lt_of_cell? wr _ ht0)]; exact ht0
             have z2 : u3.cell? ⟨w.heap.size + 1, 1, none⟩ = some (.slice C r.length d) := by rw [Below.cell y2 (World.block_lt_of_cell? wr _ g2)]; exact g2
             have z3 : (u3.alloc (.cells #[.int .i64 f, .int .i64 (j : Int), .slice B r.length q] 38)).cell? ⟨w1.heap.size, 0, none⟩ = some (.slice Av F.length cv) := cell_alloc z1
             have hbase : w1.heap.size + 1 ≤ (u3.alloc (.cells #[.int .i64 f, .int .i64 (j : Int), .slice B r.length q] 38)).heap.size := by have := y2.size; have : wr.drew.heap.size = wr.heap.size := rfl; have := World.block_lt_of_cell? wr _ ht0; simp only [World.alloc, Array.size_push]; dsimp only at this; omega
             have HBASE := Lib.hid hbase
             have Y2 := Lib.hid y2
             clear hbase
             have HBs := Lib.hid hB
             have HBb := Lib.hid hBb
             have hown3 := Lib.hid (World.ownsRow.kept (w := wr.drew) HOWN.out (below_grown (row := none) y2) (Classical.em _))
             clear y2 hB hBb)
          | (refine step_append_sl rfl (.tmp 67) (.tmp 74) 25 rfl (w1.heap.size + 1) 38 i0 _ 3 40 Try.underlying25 HI.out HZ0.out HZ1.out HZ2.out (by simp [Value.cells]) (by omega) (.slice Av F.length cv) F.length (cellsE F qs) rfl (hown3.out.alloc _) (some ⟨u3.heap.size, 0, none⟩) 1 1 (cellsE [⟨f, (j : Int), r⟩] [(B, q)]) rfl (env_one u3 f (j : Int) r B q) (cellsE_one _ _) (by unfold maxLen; omega) (by omega) HBASE.out ?_
             intro v' u5 hwn hgr hat
             obtain ⟨A', c', rfl, hsl, hge⟩ := Sl.of_own hwn
             have hsu : (u3.alloc (.cells #[.int .i64 f, .int .i64 (j : Int), .slice B r.length q] 38)).heap.size = u3.heap.size + 1 := by simp only [World.alloc, Array.size_push]
             have htb : w1.heap.size < wr.heap.size := World.block_lt_of_cell? wr _ ht0
             have hu3 : wr.heap.size ≤ u3.heap.size := Y2.out.size
             have hnb : ∀ k, k < w1.heap.size + 1 → some k ≠ (Value.slice Av F.length cv).ownBlock := fun k hk e => by have := (HOWN.out.lt k e.symm).1; omega
             have hkeep : ∀ k, k < w1.heap.size + 1 → u5.heap[k]? = wr.heap[k]? := fun k hk => by
               rw [hgr.block k (by omega) (hnb k hk), (Ext.alloc u3 _).block k (by omega)]
               exact Y2.out.block k (by show k < wr.heap.size; omega)
             have xr5 : Ext w1 u5 := Below.grown (Ext.trans (Ext.trans hxr (Ext.drew wr)) (Ext.trans Y2.out (Ext.alloc u3 _))) hgr (by omega) (fun k hk => by have := (HOWN.out.lt k hk).1; omega)
             have J1 := (hkeep w1.heap.size (by omega)).trans HROW.out
             have J2 := (hkeep (w.heap.size + 1) (by omega)).trans R2.out
             have z5 : u5.cell? ⟨w1.heap.size, 0, none⟩ = some (.slice Av F.length cv) := by rw [cell_of_row _ _ _ _ _ _ J1]; rfl
             have z6 := frozen_of_row u5 w1.heap.size 0 _ _ J1
             have z7 : u5.cell? ⟨w.heap.size + 1, 1, none⟩ = some (.slice C r.length d) := by rw [cell_of_row _ _ _ _ _ _ J2]; rfl
             have JJ1 := Lib.hid J1
             have HWN := Lib.hid hwn
             have HGR := Lib.hid hgr
             have HAT := Lib.hid hat
             have HKE := Lib.hid hkeep
             have XR5 := Lib.hid xr5
             have HSU := Lib.hid hsu
             have HGE := Lib.hid hge
             clear hwn hgr hat hkeep hnb hsl hge J1 J2 xr5 hsu)
          | fail)
        all_goals
          have hs : freshN f o r (j + 1) = F ++ [⟨f, (j : Int), r⟩] := by rw [freshN_succ, HH.out, ← HF.out]; rfl
          have HS := Lib.hid hs
          have hstep := put_step (World.block_lt_of_cell? wr _ ht0) HOWN.out HQL.out HQS.out HFR.out Y2.out HBs.out HBb.out HGR.out HWN.out JJ1.out XR5.out
          have HSTEP := Lib.hid hstep
          clear hs hstep
          go_wp2_with fail
          go_roundw
          case rel =>
            refine ⟨j + 1, by omega, by go_num, A', c', qs ++ [(B, q)], ?_⟩
            rw [HS.out]
            exact HSTEP.out
          case measure => simp [intOf]; omega
      · have HH := Lib.hid hh
        clear hh
        have ht0 : wr.cell? ⟨w1.heap.size, 0, none⟩ = some (.slice Av F.length cv) := by rw [cell_of_row _ _ _ _ _ _ HROW.out]; rfl
        have hob := HOWN.out
        have hrawr := Lib.hid (Sl.drew (Sl.below hC1.out hxr))
        have hcall := own_step f (j : Int) C d r wr.drew hrawr.out (by omega)
        have HCALL := Lib.hid hcall
        clear hcall
        go_wp2_with fail
        go_region_law (first
          | (refine step_calls rfl 23 #[.agg #[.int .i64 f, .int .i64 (j : Int), .slice C r.length d]] (by go_simp) _ HCALL.out ?_
             rintro _ u3 ⟨B, q, rfl, hB, hBb⟩ y2
             have z1 : u3.cell? ⟨w1.heap.size, 0, none⟩ = some (.slice Av F.length cv) := by rw [Below.cell y2 (World.block_lt_of_cell? wr _ ht0)]; exact ht0
             have z2 : u3.cell? ⟨w.heap.size + 1, 1, none⟩ = some (.slice C r.length d) := by rw [Below.cell y2 (World.block_lt_of_cell? wr _ g2)]; exact g2
             have z3 : (u3.alloc (.cells #[.int .i64 f, .int .i64 (j : Int), .slice B r.length q] 38)).cell? ⟨w1.heap.size, 0, none⟩ = some (.slice Av F.length cv) := cell_alloc z1
             have hbase : w1.heap.size + 1 ≤ (u3.alloc (.cells #[.int .i64 f, .int .i64 (j : Int), .slice B r.length q] 38)).heap.size := by have := y2.size; have : wr.drew.heap.size = wr.heap.size := rfl; have := World.block_lt_of_cell? wr _ ht0; simp only [World.alloc, Array.size_push]; dsimp only at this; omega
             have HBASE := Lib.hid hbase
             have Y2 := Lib.hid y2
             clear hbase
             have HBs := Lib.hid hB
             have HBb := Lib.hid hBb
             have hown3 := Lib.hid (World.ownsRow.kept (w := wr.drew) HOWN.out (below_grown (row := none) y2) (Classical.em _))
             clear y2 hB hBb)
          | (refine step_append_sl rfl (.tmp 67) (.tmp 74) 25 rfl (w1.heap.size + 1) 38 i0 _ 3 40 Try.underlying25 HI.out HZ0.out HZ1.out HZ2.out (by simp [Value.cells]) (by omega) (.slice Av F.length cv) F.length (cellsE F qs) rfl (hown3.out.alloc _) (some ⟨u3.heap.size, 0, none⟩) 1 1 (cellsE [⟨f, (j : Int), r⟩] [(B, q)]) rfl (env_one u3 f (j : Int) r B q) (cellsE_one _ _) (by unfold maxLen; omega) (by omega) HBASE.out ?_
             intro v' u5 hwn hgr hat
             obtain ⟨A', c', rfl, hsl, hge⟩ := Sl.of_own hwn
             have hsu : (u3.alloc (.cells #[.int .i64 f, .int .i64 (j : Int), .slice B r.length q] 38)).heap.size = u3.heap.size + 1 := by simp only [World.alloc, Array.size_push]
             have htb : w1.heap.size < wr.heap.size := World.block_lt_of_cell? wr _ ht0
             have hu3 : wr.heap.size ≤ u3.heap.size := Y2.out.size
             have hnb : ∀ k, k < w1.heap.size + 1 → some k ≠ (Value.slice Av F.length cv).ownBlock := fun k hk e => by have := (HOWN.out.lt k e.symm).1; omega
             have hkeep : ∀ k, k < w1.heap.size + 1 → u5.heap[k]? = wr.heap[k]? := fun k hk => by
               rw [hgr.block k (by omega) (hnb k hk), (Ext.alloc u3 _).block k (by omega)]
               exact Y2.out.block k (by show k < wr.heap.size; omega)
             have xr5 : Ext w1 u5 := Below.grown (Ext.trans (Ext.trans hxr (Ext.drew wr)) (Ext.trans Y2.out (Ext.alloc u3 _))) hgr (by omega) (fun k hk => by have := (HOWN.out.lt k hk).1; omega)
             have J1 := (hkeep w1.heap.size (by omega)).trans HROW.out
             have J2 := (hkeep (w.heap.size + 1) (by omega)).trans R2.out
             have z5 : u5.cell? ⟨w1.heap.size, 0, none⟩ = some (.slice Av F.length cv) := by rw [cell_of_row _ _ _ _ _ _ J1]; rfl
             have z6 := frozen_of_row u5 w1.heap.size 0 _ _ J1
             have z7 : u5.cell? ⟨w.heap.size + 1, 1, none⟩ = some (.slice C r.length d) := by rw [cell_of_row _ _ _ _ _ _ J2]; rfl
             have JJ1 := Lib.hid J1
             have HWN := Lib.hid hwn
             have HGR := Lib.hid hgr
             have HAT := Lib.hid hat
             have HKE := Lib.hid hkeep
             have XR5 := Lib.hid xr5
             have HSU := Lib.hid hsu
             have HGE := Lib.hid hge
             clear hwn hgr hat hkeep hnb hsl hge J1 J2 xr5 hsu)
          | fail)
        all_goals
          have hs : freshN f o r (j + 1) = F ++ [⟨f, (j : Int), r⟩] := by rw [freshN_succ, HH.out, ← HF.out]; rfl
          have HS := Lib.hid hs
          have hstep := put_step (World.block_lt_of_cell? wr _ ht0) HOWN.out HQL.out HQS.out HFR.out Y2.out HBs.out HBb.out HGR.out HWN.out JJ1.out XR5.out
          have HSTEP := Lib.hid hstep
          clear hs hstep
          go_wp2_with fail
          go_roundw
          case rel =>
            refine ⟨j + 1, by omega, by go_num, A', c', qs ++ [(B, q)], ?_⟩
            rw [HS.out]
            exact HSTEP.out
          case measure => simp [intOf]; omega
      · have hs : freshN f o r (j + 1) = F := by rw [freshN_succ, hh, ← HF.out]; simp
        have HS := Lib.hid hs
        clear hs hh
        go_wp2_with fail
        go_roundw
        case rel => exact ⟨j + 1, by omega, by go_num, Av, cv, qs, by rw [HS.out]; exact HROW.out, by rw [HS.out]; exact HOWN.out, by rw [HS.out]; exact HQL.out, HQS.out, HFR.out, hxr⟩
        case measure => simp [intOf]; omega
      · have hs : freshN f o r (j + 1) = F := by rw [freshN_succ, hh, ← HF.out]; simp
        have HS := Lib.hid hs
        clear hs hh
        go_wp2_with fail
        go_roundw
        case rel => exact ⟨j + 1, by omega, by go_num, Av, cv, qs, by rw [HS.out]; exact HROW.out, by rw [HS.out]; exact HOWN.out, by rw [HS.out]; exact HQL.out, HQS.out, HFR.out, hxr⟩
        case measure => simp [intOf]; omega
    · have hjm : j = m := by omega
      subst hjm
      have R1 := Lib.hid ((hxr.block _ (Array.getElem?_eq_some_iff.1 k1.out).1).trans k1.out)
      have R3 := Lib.hid ((hxr.block _ (Array.getElem?_eq_some_iff.1 k3.out).1).trans k3.out)
      have hAr := Lib.hid (hA1.out.below hxr)
      obtain ⟨A', c', hv, hsl, hge⟩ := Sl.of_own hown
      simp only [Value.slice.injEq, true_and] at hv
      obtain ⟨rfl, rfl⟩ := hv
      have hEF : Es wr Av cv (freshN f o r j) qs := ⟨hql, hsl, fun i h1 h2 => by rw [freshN_raw f o r j _ (List.getElem_mem h1)]; exact hqs _ (List.getElem_mem h2)⟩
      have hFl := freshN_len f o r j
      obtain ⟨F, hF⟩ : ∃ F, F = freshN f o r j := ⟨_, rfl⟩
      rw [← hF] at hrow hEF hFl
      have HF := Lib.hid hF
      have HROW := Lib.hid hrow
      have HEF := Lib.hid hEF
      have HFR := Lib.hid hfr
      have XR := Lib.hid hxr
      have g0 : wr.cell? ⟨w.heap.size, 0, none⟩ = some (.int .i64 (j : Int)) := by rw [cell_of_row _ _ _ _ _ _ R1.out]; rfl
      have g1 : wr.cell? ⟨w.heap.size, 1, none⟩ = some (.slice A E.length c) := by rw [cell_of_row _ _ _ _ _ _ R1.out]; rfl
      have g2 : wr.cell? ⟨w1.heap.size, 0, none⟩ = some (.slice Av F.length cv) := by rw [cell_of_row _ _ _ _ _ _ HROW.out]; rfl
      have g3 : wr.cell? ⟨w.heap.size + 1 + 1, 0, none⟩ = some (.int .i64 0) := by rw [cell_of_row _ _ _ _ _ _ R3.out]; rfl
      have g4 : wr.cell? ⟨w.heap.size + 1 + 1, 1, none⟩ = some (.slice none 0 0) := by rw [cell_of_row _ _ _ _ _ _ R3.out]; rfl
      have g5 := frozen_of_row wr (w.heap.size + 1 + 1) 0 _ _ R3.out
      have g6 := frozen_of_row wr (w.heap.size + 1 + 1) 1 _ _ R3.out
      have hlt : wr.heap.size > w.heap.size + 1 + 1 := (Array.getElem?_eq_some_iff.1 R3.out).1
      clear hF hrow hown hqs hql hfr hsl hge hEF hxr hjl
      by_cases hfull : 512 < E.length + F.length
      · have q7 : decide (512 < (E.length : Int) + (F.length : Int)) = true := decide_eq_true (by omega)
        have HFULL := Lib.hid hfull
        clear hfull
        go_wp2_with fail
        refine bodyPost_ret (results_ctt (fn := Try.f14) (p := 6) (q := 7) (u := 8) (ty := 27) rfl _ _ (w.heap.size + 1 + 1) _ rfl (net_load (cells2 (.int .i64 0) (.slice none 0 0) R3.out))) rfl ?_
        rw [← HF.out]
        exact .inl ⟨HFULL.out, rfl, Ext.set2 (Ext.trans (Ext.trans X0.out X1.out) XR.out) (by omega) _ _⟩
      · have q7 : decide (512 < (E.length : Int) + (F.length : Int)) = false := decide_eq_false (by omega)
        have HFULL := Lib.hid hfull
        clear hfull
        go_wp2_with fail
        have hts := Lib.hid (HFR.out.ext (Nat.le_trans (Nat.le_trans X0.out.size X1.out.size) (Nat.le_succ _)) (Ext.drew wr))
        have z0 : w.heap.size ≤ wr.drew.heap.size + 2 := by show w.heap.size ≤ wr.heap.size + 2; omega
        have hn1 : ¬ w.heap.size = w.heap.size + 1 + 1 := by omega
        have hn2 : ¬ w1.heap.size = w.heap.size + 1 + 1 := by omega
        have Z0 := Lib.hid z0
        obtain ⟨M, hM⟩ : ∃ M, M = E ++ F := ⟨_, rfl⟩
        have HM := Lib.hid hM
        clear hM
        clear z0
        go_region_held3 (fun u => u.cell? ⟨w.heap.size, 0, none⟩ = some (.int .i64 (j : Int)) ∧ u.cell? ⟨w.heap.size, 1, none⟩ = some (.slice A E.length c) ∧ u.cell? ⟨w1.heap.size, 0, none⟩ = some (.slice Av F.length cv)) (refine ⟨?_, ?_, ?_⟩ <;> first | with_reducible assumption | (with_reducible refine cell_drew ?_; with_reducible assumption) | ((with_reducible refine cell_set2 ?_ ?_) <;> (first | with_reducible assumption | (dsimp only; assumption)))) (first
          | (go_at_call 25
             have hcp := changed_put w1.heap.size w.heap.size (j : Int) A c E F rs Av cv qs wr.drew hAr.out.drew (by omega) HR.out HEF.out.drew (by omega) hts.out Z0.out g2
             rw [← HM.out] at hcp
             refine hcp.mono ?_
             clear hcp
             rintro e w5 ⟨B, q, ss, rfl, hE5, hB5, hfr5, y5⟩
             have z1 : w5.cell? ⟨w.heap.size, 0, none⟩ = some (.int .i64 (j : Int)) := by rw [Below.cell y5 (World.block_lt_of_cell? wr _ g0)]; exact g0
             have z2 : w5.cell? ⟨w.heap.size, 1, none⟩ = some (.slice A E.length c) := by rw [Below.cell y5 (World.block_lt_of_cell? wr _ g1)]; exact g1
             have z3 : w5.cell? ⟨w1.heap.size, 0, none⟩ = some (.slice Av F.length cv) := by rw [Below.cell y5 (World.block_lt_of_cell? wr _ g2)]; exact g2
             have J3 := (y5.block _ (Array.getElem?_eq_some_iff.1 R3.out).1).trans R3.out
             have z4 : w5.cell? ⟨w.heap.size + 1 + 1, 0, none⟩ = some (.int .i64 0) := by rw [cell_of_row _ _ _ _ _ _ J3]; rfl
             have z5 : w5.cell? ⟨w.heap.size + 1 + 1, 1, none⟩ = some (.slice none 0 0) := by rw [cell_of_row _ _ _ _ _ _ J3]; rfl
             have z6 := frozen_of_row w5 (w.heap.size + 1 + 1) 0 _ _ J3
             have z7 := frozen_of_row w5 (w.heap.size + 1 + 1) 1 _ _ J3
             have JJ3 := Lib.hid J3
             have HE5 := Lib.hid hE5
             have HB5 := Lib.hid hB5
             have HFR5 := Lib.hid hfr5
             have Y5 := Lib.hid y5
             clear J3 hE5 hB5 hfr5 y5)
          | fail)
        all_goals
          go_wp2_with fail
          refine bodyPost_ret (results_ctt (fn := Try.f14) (p := 6) (q := 7) (u := 8) (ty := 27) rfl _ _ (w.heap.size + 1 + 1) _ rfl (net_load (cells2 (.int .i64 (j : Int)) (.slice B M.length q) JJ3.out))) rfl ?_
          rw [← HF.out, ← HM.out]
          have hE5 := HE5.out
          have hf5 := HFR5.out
          have hb5 := HB5.out
          have hz0 := Z0.out
          have hd : wr.drew.heap.size = wr.heap.size := rfl
          have hko : ∀ q' ∈ ss, ∀ a, q'.1 = some a → a.block < w5.heap.size → ((w5.setCell ⟨w.heap.size + 1 + 1, 0, none⟩ (.int .i64 (j : Int))).setCell ⟨w.heap.size + 1 + 1, 1, none⟩ (.slice B M.length q)).heap[a.block]? = w5.heap[a.block]? := fun q' hq' a ha _ => other2 _ _ _ (hf5.ne hq' ha JJ3.out (by decide))
          exact .inr ⟨by have := HFULL.out; omega, B, q, ss, rfl, ⟨hE5.len, hE5.sl.keep (fun a ha _ => other2 _ _ _ (by have := hb5 a ha; omega)), fun i h1 h2 => Sl.keep (hE5.raw i h1 h2) (hko _ (List.getElem_mem h2))⟩, fun a ha => by have := hb5 a ha; omega, hf5.kept (Nat.le_refl _) hko, Ext.set2 (Ext.trans (Ext.trans (Ext.trans X0.out X1.out) XR.out) (Ext.trans (Ext.drew wr) Y5.out)) (by omega) _ _⟩
end Go.Proofs.Ytomdplbdndadcaa
