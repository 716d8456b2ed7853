import Derived.Test.YtomdplbdndadcaaTail
import Derived.Test.YtomdplbdndadcaaRegTwo
import Derived.Laws.ResultCell
/- The laying of a drawn region with a tail; small words. -/
namespace Go.Proofs.Ytomdplbdndadcaa
open Go.RowKit

theorem wanted_undef {o : Oper} {a : Act} {ops : Array Oper} {j : Nat} {b : Bool} {d : Tmp} (hg : o.guard = some (j, b)) (hs : slotOf ops j = some d) (hv : a.eval (.tmp d) = undef) : Region.wanted o (yielded ops a.tmps) = false := by
  unfold slotOf at hs
  have hy : yielded ops a.tmps j = none := by
    unfold yielded
    rw [hs, Option.bind_some]
    simp only [Act.eval, Array.getD_eq_getD_getElem?] at hv
    cases h : a.tmps[d]? with
    | none => rfl
    | some x => rw [h] at hv; simp at hv; rw [hv]; rfl
  simp [Region.wanted, hg, hy]
theorem rangeAt_ext {w u : World} {b o : Nat} {cs : List Value} (h : w.rangeAt b o cs) (hu : Ext w u) : u.rangeAt b o cs := fun j v hv => by
  have h1 := h j v hv
  exact (hu.cell (World.block_lt_of_cell? w _ h1)).trans h1

section
variable {P : Program} {ops : Array Oper} (F : List Fact) (wb : World) (a0 : Act)
theorem wp_region_layt (n : Nat) {id : Nat} {Q : Exit → Act → World → Prop} {w : World} (hm : P.follows .mixedOrders = true) (hB : headB ops n = true) (hT : tailB ops n = true) (hn : decide (n ≤ ops.size) = true)
    (hseq : Region.seqB .any ops (ops.toList.drop n).length n (Array.ofFn (n := ops.size) fun i => decide (i.val < n)) = true)
    (hsl : (ops.toList.take n).all (fun o => o.dst.all (· < a0.tmps.size)) = true) (hw : Ext wb w) (hob : Asks F wb a0 P ops 0 (ops.toList.take n))
    (hfin : ∀ (f : Nat → Value) w', Ext wb w' → (∀ i d, i < n → slotOf ops i = some d → (F.getD i Fact.any).holds (f i) w') → wpList P ops Q (ops.toList.drop n) (puts f 0 (ops.toList.take n) a0) w') : (Code.region id ops true).wp P Q a0 w := by
  have hn' := of_decide_eq_true hn
  have htk : ∀ (i : Nat) o, i < n → ops[i]? = some o → (ops.toList.take n)[i]? = some o := fun i o hi ho => by
    rw [List.getElem?_take, if_pos hi]; simpa using ho
  have hsl' : ∀ i d, i < n → slotOf ops i = some d → d < a0.tmps.size := by
    intro i d hi hd
    rw [slotOf] at hd
    cases ho : ops[i]? with
    | none => rw [ho] at hd; cases hd
    | some o =>
      rw [ho] at hd
      have h1 := List.all_eq_true.1 hsl o (List.mem_iff_getElem?.2 ⟨i, htk i o hi ho⟩)
      rw [show o.dst = some d from hd] at h1
      simpa using h1
  refine wp_region_facts_tail (fun i => (F.getD i Fact.any).holds) (fun w => Ext wb w) a0 n hm hB hT hn' hseq hsl' (fun i v w w' h hx => Fact.ext _ _ _ _ h hx) (fun _ _ h hx => Ext.trans h hx) (Ext.trans hw (Ext.drew w)) ?_ ?_
  · intro i o hi ho a w hc _ hdeps hrest
    have h := asks_get F wb a0 hob i o (htk i o hi ho)
    rw [Nat.zero_add] at h
    refine h a w hc (fun j d hj hd => hdeps j (by simpa using hj) d hd) (fun s hs => hrest s fun j oj hoj hdj => ?_)
    have h1 := List.all_eq_true.1 hs (oj, j) (List.mem_zipIdx_iff_getElem?.2 (by simpa using hoj))
    simp only [hdj, bne_self_eq_false, Bool.false_or, Bool.or_eq_true, beq_iff_eq] at h1
    rcases h1 with h1 | h1
    · exact .inl (by simpa using h1)
    · exact .inr h1
  · intro a' w' hc hd hsz hf hr
    have heq : a' = puts (fun i => match slotOf ops i with | some d => a'.tmps.getD d undef | none => undef) 0 (ops.toList.take n) a0 := by
      obtain ⟨h1, h2⟩ := puts_size (fun i => match slotOf ops i with | some d => a'.tmps.getD d undef | none => undef) (ops.toList.take n) 0 a0
      have ht : a'.tmps = (puts (fun i => match slotOf ops i with | some d => a'.tmps.getD d undef | none => undef) 0 (ops.toList.take n) a0).tmps := by
        refine Array.ext (by rw [h1, hsz]) fun s hs1 hs2 => ?_
        have hg : a'.tmps.getD s undef = (puts (fun i => match slotOf ops i with | some d => a'.tmps.getD d undef | none => undef) 0 (ops.toList.take n) a0).tmps.getD s undef := by
          by_cases hex : ∃ (i : Nat) (o : Oper), i < n ∧ ops[i]? = some o ∧ o.dst = some s
          · obtain ⟨i, o, hi, ho, hds⟩ := hex
            have hso : slotOf ops i = some s := by rw [slotOf, ho]; exact hds
            rw [puts_at _ s (ops.toList.take n) 0 a0 i o (htk i o hi ho) hds (hsl' i s hi hso), Nat.zero_add, hso]
            intro j o' hj hne hd'
            have hb := List.all_eq_true.1 hB (o, i) (List.mem_zipIdx_iff_getElem?.2 (htk i o hi ho))
            simp only [Bool.and_eq_true, List.all_eq_true] at hb
            have hb2 := hb.2 (o', j) (List.mem_zipIdx_iff_getElem?.2 hj)
            rw [hds, hd'] at hb2
            simp at hb2
            exact hne hb2.symm
          · have hno : ∀ o ∈ ops.toList.take n, o.dst ≠ some s := fun (o : Oper) ho hds => by
              obtain ⟨i, hi⟩ := List.mem_iff_getElem?.1 ho
              rw [List.getElem?_take] at hi
              split at hi
              · rename_i hin; exact hex ⟨i, o, hin, by simpa using hi, hds⟩
              · cases hi
            rw [puts_other _ s (ops.toList.take n) 0 a0 hno]
            refine hr s fun i hin hi => ?_
            rw [slotOf] at hi
            cases ho : ops[i]? with
            | none => rw [ho] at hi; cases hi
            | some o => rw [ho] at hi; exact hex ⟨i, o, hin, ho, hi⟩
        rw [Array.getD_eq_getD_getElem?, Array.getD_eq_getD_getElem?, Array.getElem?_eq_getElem hs1, Array.getElem?_eq_getElem hs2] at hg
        exact hg
      have hdd : a'.defers = (puts (fun i => match slotOf ops i with | some d => a'.tmps.getD d undef | none => undef) 0 (ops.toList.take n) a0).defers := by rw [h2, hd]
      cases a'
      generalize puts _ _ _ _ = b at *
      cases b
      simp only at ht hdd
      rw [ht, hdd]
    rw [heq]
    refine hfin _ w' hc fun i d hin hi => ?_
    rw [hi]
    exact hf i d hin hi
end

section
variable {P : Program} {o : Oper} {a : Act} {w : World} {ψ : Value → World → Prop}
theorem Y_value {v : Value} {w' : World} (h : (execOp a.eval o).run P w = .ok (.value v) w') (hψ : ψ v w') (hx : Ext w w') : Y P o a w ψ := by
  unfold Y Oper.wp
  rw [h]
  exact ⟨v, rfl, hψ, hx⟩
end
theorem Ext.alloc (w : World) (o : Obj) : Ext w (w.alloc o) := (Below.refl _ w).alloc (Nat.le_refl _) _
/-- cells of a block that the world shows -/
theorem cells3 {w : World} {g : Nat} {a b c : Value} {t : TypeId} (x y z : Value) (hg : w.heap[g]? = some (.cells #[a, b, c] t (0, 0))) :
    (((w.setCell ⟨g, 0, none⟩ x).setCell ⟨g, 1, none⟩ y).setCell ⟨g, 2, none⟩ z).heap[g]? = some (.cells #[x, y, z] t (0, 0)) := by
  have h1 := heap_setCell_same w g 0 _ t x hg
  have h2 := heap_setCell_same _ g 1 _ t y h1
  have h3 := heap_setCell_same _ g 2 _ t z h2
  simpa using h3
theorem cells2 {w : World} {g : Nat} {a b : Value} {t : TypeId} (x y : Value) (hg : w.heap[g]? = some (.cells #[a, b] t (0, 0))) :
    ((w.setCell ⟨g, 0, none⟩ x).setCell ⟨g, 1, none⟩ y).heap[g]? = some (.cells #[x, y] t (0, 0)) := by
  have h1 := heap_setCell_same w g 0 _ t x hg
  have h2 := heap_setCell_same _ g 1 _ t y h1
  simpa using h2
theorem other2 {w : World} {g : Nat} (x y : Value) (k : Nat) (h : k ≠ g) : ((w.setCell ⟨g, 0, none⟩ x).setCell ⟨g, 1, none⟩ y).heap[k]? = w.heap[k]? := by
  rw [heap_setCell_other _ _ _ _ h, heap_setCell_other _ _ _ _ h]
theorem other3 {w : World} {g : Nat} (x y z : Value) (k : Nat) (h : k ≠ g) :
    (((w.setCell ⟨g, 0, none⟩ x).setCell ⟨g, 1, none⟩ y).setCell ⟨g, 2, none⟩ z).heap[k]? = w.heap[k]? := by
  rw [heap_setCell_other _ _ _ _ h, heap_setCell_other _ _ _ _ h, heap_setCell_other _ _ _ _ h]
theorem Ext.set2 {a w : World} {g : Nat} (h : Ext a w) (hg : a.heap.size ≤ g) (x y : Value) : Ext a ((w.setCell ⟨g, 0, none⟩ x).setCell ⟨g, 1, none⟩ y) :=
  (Below.setCell h (p := ⟨g, 0, none⟩) hg x).setCell (p := ⟨g, 1, none⟩) hg y
theorem Ext.set3 {a w : World} {g : Nat} (h : Ext a w) (hg : a.heap.size ≤ g) (x y z : Value) :
    Ext a (((w.setCell ⟨g, 0, none⟩ x).setCell ⟨g, 1, none⟩ y).setCell ⟨g, 2, none⟩ z) :=
  ((Below.setCell h (p := ⟨g, 0, none⟩) hg x).setCell (p := ⟨g, 1, none⟩) hg y).setCell (p := ⟨g, 2, none⟩) hg z
end Go.Proofs.Ytomdplbdndadcaa
