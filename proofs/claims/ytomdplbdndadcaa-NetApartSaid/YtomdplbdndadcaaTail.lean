import Derived.Test.YtomdplbdndadcaaRegTwo
import Derived.StillTail
/- A drawn region whose last operations (a store into a block of its own, what follows) wait for all others: the others in any order, those in the text's. -/
namespace Go.Proofs.Ytomdplbdndadcaa
open Go.RowKit

theorem wpAny_more {P : Program} {md : Region.Mode} {ops : Array Oper} {Q : Exit → Act → World → Prop} : ∀ (fuel : Nat) (listed : Array Bool) (a : Act) (w : World), wpAny P md ops Q fuel listed a w → wpAny P md ops Q (fuel + 1) listed a w
  | 0, listed, a, w, h => ⟨fun _ => h.2, by rw [h.1]; simp⟩
  | fuel + 1, listed, a, w, h => ⟨h.1, fun i hi => wpOp_mono (fun a w h => wpAny_more fuel _ a w h) (h.2 i hi)⟩
theorem wpAny_le {P : Program} {md : Region.Mode} {ops : Array Oper} {Q : Exit → Act → World → Prop} {f g : Nat} (hfg : f ≤ g) {listed : Array Bool} {a : Act} {w : World} (h : wpAny P md ops Q f listed a w) : wpAny P md ops Q g listed a w := by
  obtain ⟨k, rfl⟩ := Nat.exists_eq_add_of_le hfg
  clear hfg
  induction k with
  | zero => exact h
  | succ k ih => exact wpAny_more _ _ _ _ ih

def headB (ops : Array Oper) (n : Nat) : Bool :=
  (ops.toList.take n).zipIdx.all fun (o, i) => o.dst.isSome && (depsOf o).all (· < i) && (ops.toList.take n).zipIdx.all fun (o', j) => i == j || o.dst != o'.dst
def tailB (ops : Array Oper) (n : Nat) : Bool := ops.toList.zipIdx.all fun (o, j) => decide (j < n) || (List.range n).all fun i => (depsOf o).contains i

section
variable {P : Program} {ops : Array Oper} (φ : Nat → Value → World → Prop) (C : World → Prop) (a0 : Act)
theorem wp_region_facts_tail (n : Nat) {id : Nat} {Q : Exit → Act → World → Prop} {w : World} (hm : P.follows .mixedOrders = true) (hB : headB ops n = true) (hT : tailB ops n = true) (hn : n ≤ ops.size)
    (hseq : Region.seqB .any ops (ops.toList.drop n).length n (Array.ofFn (n := ops.size) fun i => decide (i.val < n)) = true)
    (hsl : ∀ i d, i < n → slotOf ops i = some d → d < a0.tmps.size)
    (hφ : ∀ i v w w', φ i v w → Ext w w' → φ i v w') (hC : ∀ w w', C w → Ext w w' → C w') (hC0 : C w.drew)
    (hob : ∀ i o, i < n → ops[i]? = some o → Ob φ C a0 P ops i o)
    (hfin : ∀ a' w', C w' → a'.defers = a0.defers → a'.tmps.size = a0.tmps.size → (∀ i d, i < n → slotOf ops i = some d → φ i (a'.tmps.getD d undef) w') →
      (∀ s, (∀ i, i < n → slotOf ops i ≠ some s) → a'.tmps.getD s undef = a0.tmps.getD s undef) → wpList P ops Q (ops.toList.drop n) a' w') : (Code.region id ops true).wp P Q a0 w := by
  have hb : ∀ i o, i < n → ops[i]? = some o → o.dst.isSome = true ∧ (∀ j ∈ depsOf o, j < i) ∧ ∀ j o', j < n → ops[j]? = some o' → i ≠ j → o.dst ≠ o'.dst := by
    intro i o hi ho
    have hm1 : ∀ j o', j < n → ops[j]? = some o' → (o', j) ∈ (ops.toList.take n).zipIdx := fun j o' hj ho' => List.mem_zipIdx_iff_getElem?.2 (by
      show (ops.toList.take n)[j]? = some o'
      rw [List.getElem?_take, if_pos hj]; simpa using ho')
    have h1 := List.all_eq_true.1 hB (o, i) (hm1 i o hi ho)
    simp only [Bool.and_eq_true, List.all_eq_true, decide_eq_true_iff] at h1
    refine ⟨h1.1.1, h1.1.2, fun j o' hj ho' hne => ?_⟩
    have h2 := h1.2 (o', j) (hm1 j o' hj ho')
    simpa [hne] using h2
  have hwait : ∀ j o, n ≤ j → ops[j]? = some o → ∀ i, i < n → i ∈ depsOf o := by
    intro j o hj ho i hi
    have h1 := List.all_eq_true.1 hT (o, j) (List.mem_zipIdx_iff_getElem?.2 (by simpa using ho))
    simp only [Bool.or_eq_true, decide_eq_true_iff, List.all_eq_true, List.mem_range] at h1
    rcases h1 with h1 | h1
    · omega
    · simpa using h1 i hi
  have done : ∀ (listed : Array Bool) (a : Act) (w : World) (fuel : Nat), RInv (ops := ops) φ C a0 listed a w → (∀ j, n ≤ j → listed.getD j false = false) → (∀ i, i < n → listed.getD i true = true) → ops.size - n ≤ fuel → wpAny P .any ops Q fuel listed a w := by
    intro listed a w fuel h ht hall hf
    have hal : ∀ i, i < n → listed.getD i false = true := by
      intro i hi
      have h1 := hall i hi
      rw [Array.getD_eq_getD_getElem?, Array.getElem?_eq_getElem (by rw [h.size]; omega)] at h1 ⊢
      exact h1
    have hlist : listed = Array.ofFn (n := ops.size) fun i => decide (i.val < n) := by
      refine Array.ext (by rw [h.size, Array.size_ofFn]) fun i h1 h2 => ?_
      rw [Array.getElem_ofFn]
      rcases Nat.lt_or_ge i n with hi | hi
      · have := hal i hi
        rw [Array.getD_eq_getD_getElem?, Array.getElem?_eq_getElem h1] at this
        rw [decide_eq_true hi]; exact this
      · have := ht i hi
        rw [Array.getD_eq_getD_getElem?, Array.getElem?_eq_getElem h1] at this
        rw [decide_eq_false (by simpa using hi)]; exact this
    refine wpAny_le (f := (ops.toList.drop n).length) (by simpa using hf) ?_
    refine wpAny_of_seq (ops.toList.drop n) n listed a w (fun j => by rw [List.getElem?_drop]; simp) (by rw [hlist]; exact hseq) ?_
    exact hfin a w h.c h.defers h.tmps (fun i d hi hd => h.facts i d (hal i hi) hd) (fun s hs => h.rest s fun i hi => hs i (by
      rcases Nat.lt_or_ge i n with hx | hx
      · exact hx
      · rw [ht i hx] at hi; cases hi))
  have empty : ∀ (listed : Array Bool), listed.size = ops.size → Region.ready .any ops listed = [] → ∀ i, i < n → listed.getD i true = true := by
    intro listed hsz hr i
    induction i using Nat.strongRecOn with
    | _ i ih =>
      intro hin
      have hi : i < ops.size := by omega
      cases hl : listed.getD i true with
      | true => rfl
      | false =>
        have hmem : i ∈ Region.ready .any ops listed := by
          unfold Region.ready
          refine List.mem_filter.2 ⟨List.mem_range.2 hi, ?_⟩
          rw [hl, Array.getElem?_eq_getElem hi]
          simp only [Bool.not_false, Bool.true_and, Option.map_some, Option.getD_some]
          rw [Array.all_eq_true_iff_forall_mem]
          intro e he
          cases hbd : Region.binds .any e with
          | false => rfl
          | true =>
            have hlt := (hb i ops[i] hin (Array.getElem?_eq_getElem hi)).2.1 e.on (List.mem_map.2 ⟨e, List.mem_filter.2 ⟨by simpa using he, hbd⟩, rfl⟩)
            have h1 := ih e.on hlt (by omega)
            rw [Array.getD_eq_getD_getElem?, Array.getElem?_eq_getElem (by rw [hsz]; omega)] at h1 ⊢
            simpa using h1
        rw [hr] at hmem
        cases hmem
  have less : ∀ (p q : Nat → Bool) (l : List Nat), (∀ x ∈ l, p x = true → q x = true) → (∃ x ∈ l, q x = true ∧ p x = false) → l.countP p < l.countP q := by
    intro p q l
    induction l with
    | nil => rintro _ ⟨x, hx, _⟩; cases hx
    | cons y l ih =>
      intro h1 h2
      have hle : l.countP p ≤ l.countP q := List.countP_mono_left fun x hx hp => h1 x (List.mem_cons_of_mem _ hx) hp
      obtain ⟨x, hx, hq, hp⟩ := h2
      rw [List.countP_cons, List.countP_cons]
      rcases List.mem_cons.1 hx with rfl | hx
      · rw [hp, hq]; simp; omega
      · have := ih (fun x hx hp => h1 x (List.mem_cons_of_mem _ hx) hp) ⟨x, hx, hq, hp⟩
        have hy := h1 y (List.mem_cons_self ..)
        cases hpy : p y with
        | false => split <;> simp_all <;> omega
        | true => rw [hy hpy]; simp; omega
  have key : ∀ (fuel : Nat) (listed : Array Bool) (a : Act) (w : World), RInv (ops := ops) φ C a0 listed a w → (∀ j, n ≤ j → listed.getD j false = false) → (List.range n).countP (fun i => !listed.getD i true) + (ops.size - n) ≤ fuel → wpAny P .any ops Q fuel listed a w := by
    intro fuel
    induction fuel with
    | zero =>
      intro listed a w h ht hc
      refine done listed a w 0 h ht ?_ (by omega)
      intro i hi
      have := List.countP_eq_zero.1 (by omega : (List.range n).countP (fun i => !listed.getD i true) = 0) i (List.mem_range.2 hi)
      simpa using this
    | succ fuel ih =>
      intro listed a w h ht hc
      by_cases hall : ∀ i, i < n → listed.getD i true = true
      · exact done listed a w (fuel + 1) h ht hall (by omega)
      refine ⟨fun hr => absurd (empty listed h.size hr) hall, fun i hi => ?_⟩
      unfold Region.ready at hi
      obtain ⟨hir0, hi2⟩ := List.mem_filter.1 hi
      have hin := List.mem_range.1 hir0
      obtain ⟨o, ho⟩ : ∃ o, ops[i]? = some o := ⟨_, Array.getElem?_eq_getElem hin⟩
      rw [ho] at hi2
      simp only [Option.map_some, Option.getD_some, Bool.and_eq_true, Bool.not_eq_true'] at hi2
      obtain ⟨hnl, hdeps⟩ := hi2
      have hdl : ∀ j ∈ depsOf o, listed.getD j false = true := by
        intro j hj
        obtain ⟨e, he, rfl⟩ := List.mem_map.1 hj
        obtain ⟨he1, he2⟩ := List.mem_filter.1 he
        have := Array.all_eq_true_iff_forall_mem.1 hdeps e (by simpa using he1)
        rw [he2] at this
        simpa using this
      have hin2 : i < n := by
        rcases Nat.lt_or_ge i n with hx | hx
        · exact hx
        · exfalso
          refine hall fun k hk => ?_
          have := hdl k (hwait i o hx ho k hk)
          rw [Array.getD_eq_getD_getElem?, Array.getElem?_eq_getElem (by rw [h.size]; omega)] at this ⊢
          exact this
      have hir : i ∈ List.range n := List.mem_range.2 hin2
      obtain ⟨hds, hlt, hdist⟩ := hb i o hin2 ho
      obtain ⟨d, hd⟩ := Option.isSome_iff_exists.1 hds
      have hslot : slotOf ops i = some d := by rw [slotOf, ho]; exact hd
      have hdlt : d < a.tmps.size := by rw [h.tmps]; exact hsl i d hin2 hslot
      have hlf : listed.getD i false = false := by
        rw [Array.getD_eq_getD_getElem?, Array.getElem?_eq_getElem (by rw [h.size]; exact hin)] at hnl ⊢
        exact hnl
      have hoi := hob i o hin2 ho a w h.c h.defers (fun j hj d' hd' => h.facts j d' (hdl j hj) hd') (fun s hs => h.rest s fun j hj hjs => by
        obtain ⟨oj, hoj⟩ : ∃ oj, ops[j]? = some oj := by
          cases hh : ops[j]? with
          | none => rw [slotOf, hh] at hjs; cases hjs
          | some oj => exact ⟨oj, rfl⟩
        rcases hs j oj hoj (by rw [slotOf, hoj] at hjs; exact hjs) with hd1 | rfl
        · have := h.closed j oj hj hoj i hd1
          rw [this] at hlf; cases hlf
        · rw [hj] at hlf; cases hlf)
      have step : ∀ v w', φ i v w' → Ext w w' → wpAny P .any ops Q fuel (listed.setIfInBounds i true) (a.put o.dst v) w' := by
        intro v w' hv hext
        have hset : ∀ j b, (listed.setIfInBounds i true).getD j b = if j = i then true else listed.getD j b := by
          intro j b
          simp only [Array.getD_eq_getD_getElem?, Array.getElem?_setIfInBounds]
          by_cases hj : i = j
          · subst hj
            have : i < listed.size := by rw [h.size]; exact hin
            simp [this]
          · rw [if_neg hj, if_neg (fun e => hj e.symm)]
        refine ih _ _ _ ?_ (fun j hj => by rw [hset, if_neg (by omega)]; exact ht j hj) ?_
        · refine ⟨hC _ _ h.c hext, by simp [h.size], by rw [hd]; exact h.defers, by rw [hd]; simp [Act.put, h.tmps], ?_, ?_, ?_⟩
          · intro i' d' hi' hd'
            rw [hd, put_get a d d' v hdlt]
            rw [hset] at hi'
            by_cases hii : i' = i
            · subst hii
              rw [hslot] at hd'
              cases hd'
              rw [if_pos rfl]
              exact hv
            · rw [if_neg hii] at hi'
              obtain ⟨o', ho'⟩ : ∃ o', ops[i']? = some o' := by
                cases hh : ops[i']? with
                | none => rw [slotOf, hh] at hd'; cases hd'
                | some o' => exact ⟨o', rfl⟩
              have hne := hdist i' o' (by rcases Nat.lt_or_ge i' n with hx | hx; exact hx; rw [ht i' hx] at hi'; cases hi') ho' (fun e => hii e.symm)
              have hd2 : o'.dst = some d' := by rw [slotOf, ho'] at hd'; exact hd'
              rw [if_neg (fun e => hne (by rw [hd, hd2, e]))]
              exact hφ _ _ _ _ (h.facts i' d' hi' hd') hext
          · intro s hs
            have hsd : s ≠ d := fun e => hs i (by rw [hset, if_pos rfl]) (by rw [hslot, e])
            rw [hd, put_get a d s v hdlt, if_neg hsd]
            exact h.rest s fun i' hi' => hs i' (by rw [hset]; by_cases hx : i' = i <;> simp [hx, hi'])
          · intro j oj hj hoj e he
            rw [hset] at hj ⊢
            split
            · rfl
            · by_cases hji : j = i
              · subst hji
                rw [ho] at hoj
                cases hoj
                exact hdl e he
              · rw [if_neg hji] at hj
                exact h.closed j oj hj hoj e he
        · have := less (fun j => !(listed.setIfInBounds i true).getD j true) (fun j => !listed.getD j true) (List.range n) ?_ ?_
          · omega
          · intro j _ hj
            rw [hset] at hj
            by_cases hji : j = i
            · rw [if_pos hji] at hj; simp at hj
            · rw [if_neg hji] at hj; exact hj
          · exact ⟨i, hir, by rw [hnl]; rfl, by rw [hset, if_pos rfl]; rfl⟩
      unfold wpOp
      rw [ho]
      simp only
      split
      · rename_i hw
        rw [if_pos hw] at hoi
        exact .inl (wp_of_Y hoi step)
      · rename_i hw
        rw [if_neg hw] at hoi
        exact step undef w hoi (Ext.refl w)
  refine wp_region_any hm ?_
  refine key _ _ _ _ ⟨hC0, by simp, rfl, rfl, ?_, fun _ _ => rfl, ?_⟩ ?_ ?_
  · intro i d hi
    rw [Array.getD_eq_getD_getElem?, Array.getElem?_replicate] at hi
    split at hi <;> simp at hi
  · intro j oj hj
    rw [Array.getD_eq_getD_getElem?, Array.getElem?_replicate] at hj
    split at hj <;> simp at hj
  · intro j _
    rw [Array.getD_eq_getD_getElem?, Array.getElem?_replicate]
    split <;> rfl
  · have := List.countP_le_length (p := fun i => !(Array.replicate ops.size false).getD i true) (l := List.range n)
    rw [List.length_range] at this
    omega
end
end Go.Proofs.Ytomdplbdndadcaa
