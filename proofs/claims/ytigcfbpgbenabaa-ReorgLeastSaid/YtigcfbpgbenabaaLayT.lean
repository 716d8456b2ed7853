import Derived.Test.YtigcfbpgbenabaaTail
import Derived.Test.YtigcfbpgbenabaaRgQ
/- The laying of a drawn region with a tail; the facts that values may have. -/
namespace Go.Proofs.Ytigcfbpgbenabaa
open Go.RowKit

section
variable {P : Program} {ops : Array Oper} (F : List Fact) (wb : World) (a0 : Act)
theorem wp_region_layt (n : Nat) {id : Nat} {Q : Exit → Act → World → Prop} {w : World} (hm : P.follows .mixedOrders = true) (hB : headB ops n = true) (hT : tailB ops n = true) (hn : decide (n ≤ ops.size) = true)
    (hseq : Region.seqB .any ops (ops.toList.drop n).length n (Array.ofFn (n := ops.size) fun i => decide (i.val < n)) = true)
    (hsl : (ops.toList.take n).all (fun o => o.dst.all (· < a0.tmps.size)) = true) (hw : Ext wb w) (hob : Asks F wb a0 P ops 0 (ops.toList.take n))
    (hfin : ∀ (f : Nat → Value) w', Ext wb w' → (∀ i d, i < n → slotOf ops i = some d → (F.getD i Fact.any).holds (f i) w') → wpList P ops Q (ops.toList.drop n) (puts f 0 (ops.toList.take n) a0) w') : (Code.region id ops true).wp P Q a0 w := by
  have hn' := of_decide_eq_true hn
  have htk : ∀ (i : Nat) o, i < n → ops[i]? = some o → (ops.toList.take n)[i]? = some o := fun i o hi ho => by
    rw [List.getElem?_take, if_pos hi]; simpa using ho
  have hsl' : ∀ i d, i < n → slotOf ops i = some d → d < a0.tmps.size := by
    intro i d hi hd
    rw [slotOf] at hd
    cases ho : ops[i]? with
    | none => rw [ho] at hd; cases hd
    | some o =>
      rw [ho] at hd
      have h1 := List.all_eq_true.1 hsl o (List.mem_iff_getElem?.2 ⟨i, htk i o hi ho⟩)
      rw [show o.dst = some d from hd] at h1
      simpa using h1
  refine wp_region_facts_tail (fun i => (F.getD i Fact.any).holds) (fun w => Ext wb w) a0 n hm hB hT hn' hseq hsl' (fun i v w w' h hx => Fact.ext _ _ _ _ h hx) (fun _ _ h hx => Ext.trans h hx) (Ext.trans hw (Ext.drew w)) ?_ ?_
  · intro i o hi ho a w hc _ hdeps hrest
    have h := asks_get F wb a0 hob i o (htk i o hi ho)
    rw [Nat.zero_add] at h
    refine h a w hc (fun j d hj hd => hdeps j (by simpa using hj) d hd) (fun s hs => hrest s fun j oj hoj hdj => ?_)
    have h1 := List.all_eq_true.1 hs (oj, j) (List.mem_zipIdx_iff_getElem?.2 (by simpa using hoj))
    simp only [hdj, bne_self_eq_false, Bool.false_or, Bool.or_eq_true, beq_iff_eq] at h1
    rcases h1 with h1 | h1
    · exact .inl (by simpa using h1)
    · exact .inr h1
  · intro a' w' hc hd hsz hf hr
    have heq : a' = puts (fun i => match slotOf ops i with | some d => a'.tmps.getD d undef | none => undef) 0 (ops.toList.take n) a0 := by
      obtain ⟨h1, h2⟩ := puts_size (fun i => match slotOf ops i with | some d => a'.tmps.getD d undef | none => undef) (ops.toList.take n) 0 a0
      have ht : a'.tmps = (puts (fun i => match slotOf ops i with | some d => a'.tmps.getD d undef | none => undef) 0 (ops.toList.take n) a0).tmps := by
        refine Array.ext (by rw [h1, hsz]) fun s hs1 hs2 => ?_
        have hg : a'.tmps.getD s undef = (puts (fun i => match slotOf ops i with | some d => a'.tmps.getD d undef | none => undef) 0 (ops.toList.take n) a0).tmps.getD s undef := by
          by_cases hex : ∃ (i : Nat) (o : Oper), i < n ∧ ops[i]? = some o ∧ o.dst = some s
          · obtain ⟨i, o, hi, ho, hds⟩ := hex
            have hso : slotOf ops i = some s := by rw [slotOf, ho]; exact hds
            rw [puts_at _ s (ops.toList.take n) 0 a0 i o (htk i o hi ho) hds (hsl' i s hi hso), Nat.zero_add, hso]
            intro j o' hj hne hd'
            have hb := List.all_eq_true.1 hB (o, i) (List.mem_zipIdx_iff_getElem?.2 (htk i o hi ho))
            simp only [Bool.and_eq_true, List.all_eq_true] at hb
            have hb2 := hb.2 (o', j) (List.mem_zipIdx_iff_getElem?.2 hj)
            rw [hds, hd'] at hb2
            simp at hb2
            exact hne hb2.symm
          · have hno : ∀ o ∈ ops.toList.take n, o.dst ≠ some s := fun (o : Oper) ho hds => by
              obtain ⟨i, hi⟩ := List.mem_iff_getElem?.1 ho
              rw [List.getElem?_take] at hi
              split at hi
              · rename_i hin; exact hex ⟨i, o, hin, by simpa using hi, hds⟩
              · cases hi
            rw [puts_other _ s (ops.toList.take n) 0 a0 hno]
            refine hr s fun i hin hi => ?_
            rw [slotOf] at hi
            cases ho : ops[i]? with
            | none => rw [ho] at hi; cases hi
            | some o => rw [ho] at hi; exact hex ⟨i, o, hin, ho, hi⟩
        rw [Array.getD_eq_getD_getElem?, Array.getD_eq_getD_getElem?, Array.getElem?_eq_getElem hs1, Array.getElem?_eq_getElem hs2] at hg
        exact hg
      have hdd : a'.defers = (puts (fun i => match slotOf ops i with | some d => a'.tmps.getD d undef | none => undef) 0 (ops.toList.take n) a0).defers := by rw [h2, hd]
      cases a'
      generalize puts _ _ _ _ = b at *
      cases b
      simp only at ht hdd
      rw [ht, hdd]
    rw [heq]
    refine hfin _ w' hc fun i d hin hi => ?_
    rw [hi]
    exact hf i d hin hi
end

/-- a slice value that reads as the numbers l -/
def IsI (l : List Int) (v : Value) (w : World) : Prop := ∃ A c, v = .slice A l.length c ∧ Is w A c l
theorem IsI.ext {l : List Int} {v : Value} {w w' : World} (h : IsI l v w) (hx : Ext w w') : IsI l v w' := by
  obtain ⟨A, c, hv, hb⟩ := h
  exact ⟨A, c, hv, Sl.below hb hx⟩
def Fact.ints (l : List Int) : Fact := ⟨IsI l, fun _ _ _ h hx => h.ext hx⟩
def Fact.tupd (L : List (List UInt8)) (er : Int) : Fact := ⟨fun v w => ∃ x, v = .tuple #[x, .int .i64 er] ∧ IsD L x w, fun _ _ _ ⟨x, h, k⟩ hx => ⟨x, h, k.ext hx⟩⟩
def Fact.tupp (P : PV) (er : Int) : Fact := ⟨fun v w => ∃ x, v = .tuple #[x, .int .i64 er] ∧ IsPlan w x P, fun _ _ _ ⟨x, h, k⟩ hx => ⟨x, h, k.ext hx⟩⟩
/-- a new struct or cells -/
def Fact.cells (cs : Array Value) (t : TypeId) (b : Nat) : Fact := ⟨fun v w => ∃ g, v = .pointer (some ⟨g, 0, none⟩) ∧ b ≤ g ∧ w.heap[g]? = some (.cells cs t (0, 0)), fun _ _ _ ⟨g, h, hb, k⟩ hx => ⟨g, h, hb, (hx.block _ (Array.getElem?_eq_some_iff.1 k).1).trans k⟩⟩

section
variable {P : Program} {o : Oper} {a : Act} {w : World} {ψ : Value → World → Prop}
theorem Y_value {v : Value} {w' : World} (h : (execOp a.eval o).run P w = .ok (.value v) w') (hψ : ψ v w') (hx : Ext w w') : Y P o a w ψ := by
  unfold Y Oper.wp
  rw [h]
  exact ⟨v, rfl, hψ, hx⟩
end
theorem Is.new (w : World) (l : List Int) (t : TypeId) (n : Nat) (hn : n = l.length) (hl : l.length ≤ 1000) (cs : Array Value) (hc : cs = (l.map iv).toArray) : Is (w.alloc (.cells cs t)) (some ⟨w.heap.size, 0, none⟩) n l := by
  subst hn
  subst hc
  refine ⟨by simp, Nat.le_refl _, by simp [maxLen]; omega, (fun h => by cases h), ?_⟩
  rintro a ⟨⟩ j u hu
  rw [Addr.add_lit, Nat.zero_add, cell_of_row _ _ _ _ _ _ (heap_alloc_new _ _)]
  simpa using hu
def samePV (P Q : PV) : Bool := decide (P.k = Q.k) && (decide (P.u = Q.u) && decide (P.d = Q.d))
theorem samePV_refl (P : PV) : samePV P P = true := by simp [samePV]
theorem samePV_iff {P Q : PV} : samePV P Q = true ↔ P = Q := by
  cases P; cases Q; simp [samePV]
theorem kitplan_s (v : Value) (P : PV) (v2 : Value) (Q : PV) (w : World) (hv : IsPlan w v P) (hv2 : IsPlan w v2 Q) :
    Calls Try.prog 16 #[v, v2] w fun e w' => e = .returned (.bool (samePV P Q)) ∧ Ext w w' := kitplan_any v P v2 Q w hv hv2
theorem same_s (v : Value) (P : PV) (v2 : Value) (Q : PV) (w : World) (hv : IsPlan w v P) (hv2 : IsPlan w v2 Q) :
    Calls Try.prog 19 #[v, v2] w fun e w' => e = .returned (.bool (samePV P Q)) ∧ Ext w w' := same_any v P v2 Q w hv hv2
def sameD (L M : List (List UInt8)) : Bool := decide (L = M)
theorem sameD_refl (L : List (List UInt8)) : sameD L L = true := decide_eq_true rfl
theorem digests_s (A : Option Addr) (c : Nat) (L : List (List UInt8)) (B : Option Addr) (d : Nat) (M : List (List UInt8)) (w : World) (hA : Ds w A c L) (hB : Ds w B d M) :
    Calls Try.prog 13 #[.slice A L.length c, .slice B M.length d] w fun e w' => e = .returned (.bool (sameD L M)) ∧ Ext w w' := digests_any A c L B d M w hA hB
def depthP (P : PV) : Int := if checkP P = 0 then (P.u.length : Int) else 0
def sparesP (P : PV) (s : Int) : Bool := decide (checkP P = 0) && decide (s ≤ P.k)
theorem depth_s (v : Value) (P : PV) (w : World) (hv : IsPlan w v P) (hu : P.u.length ≤ 3000000000000) (hd : P.d.length ≤ 3000000000000) :
    Calls Try.prog 18 #[v] w fun e w' => e = .returned (.int .i64 (depthP P)) ∧ Ext w w' := depth_any v P w hv hu hd
theorem spares_s (v : Value) (P : PV) (s : Int) (w : World) (hv : IsPlan w v P) (hu : P.u.length ≤ 3000000000000) (hd : P.d.length ≤ 3000000000000) :
    Calls Try.prog 21 #[v, .int .i64 s] w fun e w' => e = .returned (.bool (sparesP P s)) ∧ Ext w w' := spares_any v P s w hv hu hd
theorem Ext.alloc (w : World) (o : Obj) : Ext w (w.alloc o) := (Below.refl _ w).alloc (Nat.le_refl _) _
theorem names_lit (l : List Int) (L : List (List UInt8)) (hL : L = l.map nd) (A : Option Addr) (c n : Nat) (w : World) (hn : n = l.length) (hA : Is w A c l) (hl : l.length ≤ 1000000) :
    Calls Try.prog 9 #[.slice A n c] w fun e w' => ∃ v, e = .returned v ∧ IsD L v w' ∧ Ext w w' := by
  subst hn
  subst hL
  exact (names_any A c l w hA hl).mono fun e w' ⟨v, he, ho, hx⟩ => ⟨v, he, IsD.own ho (fun d hd => by obtain ⟨z, _, rfl⟩ := List.mem_map.1 hd; exact nd_length z), hx⟩
end Go.Proofs.Ytigcfbpgbenabaa
