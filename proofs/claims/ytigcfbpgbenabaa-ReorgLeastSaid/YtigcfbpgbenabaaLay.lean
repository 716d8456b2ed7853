import Derived.Test.YtigcfbpgbenabaaPl
import Derived.Test.YtigcfbpgbenabaaRegTwo
/- A drawn region whose operations leave only new blocks: each is asked for alone; the state behind it is laid out slot by slot. -/
namespace Go.Proofs.Ytigcfbpgbenabaa
open Go.RowKit

section
variable {P : Program} {ops : Array Oper} (F : List Fact) (wb : World) (a0 : Act)
theorem wp_region_lay {id : Nat} {Q : Exit → Act → World → Prop} {w : World} (hm : P.follows .mixedOrders = true) (hB : regionB ops = true)
    (hsl : ops.toList.all (fun o => o.dst.all (· < a0.tmps.size)) = true) (hw : Ext wb w) (hob : Asks F wb a0 P ops 0 ops.toList)
    (hfin : ∀ (f : Nat → Value) w', Ext wb w' → (∀ i d, slotOf ops i = some d → (F.getD i Fact.any).holds (f i) w') → Q .normal (puts f 0 ops.toList a0) w') : (Code.region id ops true).wp P Q a0 w := by
  have hsl' : ∀ i d, slotOf ops i = some d → d < a0.tmps.size := by
    intro i d hd
    rw [slotOf] at hd
    cases ho : ops[i]? with
    | none => rw [ho] at hd; cases hd
    | some o =>
      rw [ho] at hd
      have h1 := List.all_eq_true.1 hsl o (List.mem_iff_getElem?.2 ⟨i, by simpa using ho⟩)
      rw [show o.dst = some d from hd] at h1
      simpa using h1
  refine wp_region_asks F wb a0 hm hB hsl hw hob ?_
  intro a' w' hc hd hsz hf hr
  have heq : a' = puts (fun i => match slotOf ops i with | some d => a'.tmps.getD d undef | none => undef) 0 ops.toList a0 := by
    obtain ⟨h1, h2⟩ := puts_size (fun i => match slotOf ops i with | some d => a'.tmps.getD d undef | none => undef) ops.toList 0 a0
    have ht : a'.tmps = (puts (fun i => match slotOf ops i with | some d => a'.tmps.getD d undef | none => undef) 0 ops.toList a0).tmps := by
      refine Array.ext (by rw [h1, hsz]) fun s hs1 hs2 => ?_
      have hg : a'.tmps.getD s undef = (puts (fun i => match slotOf ops i with | some d => a'.tmps.getD d undef | none => undef) 0 ops.toList a0).tmps.getD s undef := by
        by_cases hex : ∃ (i : Nat) (o : Oper), ops[i]? = some o ∧ o.dst = some s
        · obtain ⟨i, o, ho, hds⟩ := hex
          have hso : slotOf ops i = some s := by rw [slotOf, ho]; exact hds
          rw [puts_at _ s ops.toList 0 a0 i o (by simpa using ho) hds (hsl' i s hso), Nat.zero_add, hso]
          intro j o' hj hne hd'
          have hb := List.all_eq_true.1 hB (o, i) (List.mem_zipIdx_iff_getElem?.2 (by simpa using ho))
          simp only [Bool.and_eq_true, List.all_eq_true] at hb
          have hb2 := hb.2 (o', j) (List.mem_zipIdx_iff_getElem?.2 (by simpa using hj))
          rw [hds, hd'] at hb2
          simp at hb2
          exact hne hb2.symm
        · have hno : ∀ o ∈ ops.toList, o.dst ≠ some s := fun (o : Oper) ho hds => by
            obtain ⟨i, hi⟩ := List.mem_iff_getElem?.1 ho
            exact hex ⟨i, o, by simpa using hi, hds⟩
          rw [puts_other _ s ops.toList 0 a0 hno]
          have := hr s (List.all_eq_true.2 fun o ho => by simpa using hno o ho)
          simpa [Act.eval] using this
      rw [Array.getD_eq_getD_getElem?, Array.getD_eq_getD_getElem?, Array.getElem?_eq_getElem hs1, Array.getElem?_eq_getElem hs2] at hg
      exact hg
    have hdd : a'.defers = (puts (fun i => match slotOf ops i with | some d => a'.tmps.getD d undef | none => undef) 0 ops.toList a0).defers := by rw [h2, hd]
    cases a'
    generalize puts _ _ _ _ = b at *
    cases b
    simp only at ht hdd
    rw [ht, hdd]
  rw [heq]
  refine hfin _ w' hc fun i d hi => ?_
  rw [hi]
  have := hf i d hi
  simpa [Act.eval] using this
end

theorem wanted_undef {o : Oper} {a : Act} {ops : Array Oper} {j : Nat} {b : Bool} {d : Tmp} (hg : o.guard = some (j, b)) (hs : slotOf ops j = some d) (hv : a.eval (.tmp d) = undef) : Region.wanted o (yielded ops a.tmps) = false := by
  unfold slotOf at hs
  have hy : yielded ops a.tmps j = none := by
    unfold yielded
    rw [hs, Option.bind_some]
    simp only [Act.eval, Array.getD_eq_getD_getElem?] at hv
    cases h : a.tmps[d]? with
    | none => rfl
    | some x => rw [h] at hv; simp at hv; rw [hv]; rfl
  simp [Region.wanted, hg, hy]
theorem rangeAt_ext {w u : World} {b o : Nat} {cs : List Value} (h : w.rangeAt b o cs) (hu : Ext w u) : u.rangeAt b o cs := fun j v hv => by
  have h1 := h j v hv
  exact (hu.cell (World.block_lt_of_cell? w _ h1)).trans h1

/-- a slice value that reads as the digests L -/
def IsD (L : List (List UInt8)) (v : Value) (w : World) : Prop := ∃ A c, v = .slice A L.length c ∧ Ds w A c L
theorem IsD.ext {L : List (List UInt8)} {v : Value} {w w' : World} (h : IsD L v w) (hx : Ext w w') : IsD L v w' := by
  obtain ⟨A, c, hv, hb⟩ := h
  exact ⟨A, c, hv, hb.below hx⟩
theorem IsD.own {base : Nat} {e : TypeId} {L : List (List UInt8)} {v : Value} {w : World} (h : w.ownsRow base e 32 v L.length (cellsD L)) (hL : ∀ d ∈ L, d.length = 32) : IsD L v w := by
  obtain ⟨A, c, hv, hs, _⟩ := Sl.of_own h
  exact ⟨A, c, hv, hs, hL⟩
def Fact.ds (L : List (List UInt8)) : Fact := ⟨IsD L, fun _ _ _ h hx => h.ext hx⟩
def Fact.plan (P : PV) : Fact := ⟨fun v w => IsPlan w v P, fun _ _ _ h hx => h.ext hx⟩
end Go.Proofs.Ytigcfbpgbenabaa
