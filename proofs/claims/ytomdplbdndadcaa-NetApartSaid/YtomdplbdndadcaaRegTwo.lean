import Derived.Test.YtomdplbdndadcaaReg
import Derived.Orders
import Derived.Deep.MidRow
import Derived.RegionCalls
/- A region that draws its order, where a chain of calls also writes one block g: the world's state is told by how many of the chain are done. -/
namespace Go.Proofs.Ytomdplbdndadcaa
open Go.RowKit

theorem below_grown {w w' : World} {row : Option Nat} (hb : Below w.heap.size w w') : w.grownBy w' row := ⟨hb.os, hb.tape, hb.output, hb.size, fun k hk _ => hb.block k hk⟩
theorem Sl.lt {w : World} {A : Option Addr} {n c sz : Nat} {cs : List Value} (h : Sl w A n c sz cs) {a : Addr} (ha : A = some a) (hn : cs ≠ []) : a.block < w.heap.size := by
  cases cs with
  | nil => exact absurd rfl hn
  | cons u cs =>
    have := World.block_lt_of_cell? w _ (h.cell a ha 0 u rfl)
    rwa [blk_add] at this
theorem Sl.keep2 {w w' : World} {A : Option Addr} {n c sz : Nat} {cs : List Value} (h : Sl w A n c sz cs) (hk : ∀ a, A = some a → cs ≠ [] → w'.heap[a.block]? = w.heap[a.block]?) : Sl w' A n c sz cs :=
  ⟨h.len, h.le, h.max, h.nul, fun a ha j u hu => by
    have hn : cs ≠ [] := by rintro rfl; simp at hu
    rw [World.cell?_of_block (w := w) (by rw [blk_add]; exact hk a ha hn)]; exact h.cell a ha j u hu⟩


def Y2 (g : Nat) (P : Program) (o : Oper) (a : Act) (w : World) (ψ : Value → World → Prop) : Prop :=
  o.wp P a w (fun a' w' => ∃ v, a' = a.put o.dst v ∧ ψ v w' ∧ w.grownBy w' (some g)) (fun _ _ _ => False)

theorem wp_of_Y2 {g : Nat} {P : Program} {o : Oper} {a : Act} {w : World} {ψ : Value → World → Prop} {K : Act → World → Prop} {Q : Exit → Act → World → Prop} (h : Y2 g P o a w ψ) (hk : ∀ v w', ψ v w' → w.grownBy w' (some g) → K (a.put o.dst v) w') : o.wp P a w K Q := by
  unfold Y2 Oper.wp at *
  generalize (execOp a.eval o).run P w = r at *
  cases r with
  | ok n w' =>
    cases n <;> simp only [Oper.upon] at h ⊢
    case enter f args =>
      refine Calls.mono h fun e w'' he => ?_
      cases e with
      | returned v =>
        obtain ⟨v', h1, h2, h3⟩ := he
        show K (a.put o.dst v) w''
        rw [h1]; exact hk _ _ h2 h3
      | panicked c => exact he.elim
      | outgrown => obtain ⟨_, _, hf⟩ := he; exact hf.elim
    case row r args => exact Rows.mono h fun v w'' he => by obtain ⟨v', h1, h2, h3⟩ := he; rw [h1]; exact hk _ _ h2 h3
    all_goals first | exact h.elim | (obtain ⟨v', h1, h2, h3⟩ := h; rw [h1]; exact hk _ _ h2 h3)
  | halt x w' => cases x <;> simp only [Oper.upon] at h

theorem Y2_of_Y {g : Nat} {P : Program} {o : Oper} {a : Act} {w : World} {ψ : Value → World → Prop} {C : World → Prop} (h : Y P o a w ψ) (hC : ∀ w', Ext w w' → C w') : Y2 g P o a w (fun v w' => ψ v w' ∧ C w') :=
  wp_of_Y h fun v w' h1 h2 => ⟨v, rfl, ⟨h1, hC w' h2⟩, below_grown h2⟩
theorem Y2_calls {g : Nat} {P : Program} {o : Oper} {a : Act} {w : World} {ψ : Value → World → Prop} {f : FuncId} {args : Array Value} (h : (execOp a.eval o).run P w = .ok (.enter f args) w) (hc : Calls P f args w fun e w' => ∃ v, e = .returned v ∧ ψ v w' ∧ w.grownBy w' (some g)) : Y2 g P o a w ψ := by
  unfold Y2 Oper.wp
  rw [h]
  refine Calls.mono hc fun e w' he => ?_
  obtain ⟨v, rfl, h1, h2⟩ := he
  exact ⟨v, rfl, h1, h2⟩

/-- t comes ahead of i in every order -/
def reach (ops : Array Oper) : Nat → Nat → Nat → Bool
  | 0, _, _ => false
  | n + 1, i, t => match ops[i]? with | none => false | some o => (depsOf o).any fun e => e == t || reach ops n e t
def chainB (ops : Array Oper) (cs : List Nat) : Bool := cs.all (fun i => decide (i < ops.size)) && (cs.zip cs.tail).all fun p => reach ops 12 p.2 p.1
theorem chain_lt {ops : Array Oper} {cs : List Nat} (h : chainB ops cs = true) {k i : Nat} (hk : cs[k]? = some i) : i < ops.size := by
  unfold chainB at h
  simp only [Bool.and_eq_true, List.all_eq_true, decide_eq_true_iff] at h
  exact h.1 i (List.mem_of_getElem? hk)
theorem chain_reach {ops : Array Oper} {cs : List Nat} (h : chainB ops cs = true) {k i j : Nat} (hk : cs[k]? = some i) (hk1 : cs[k + 1]? = some j) : reach ops 12 j i = true := by
  unfold chainB at h
  simp only [Bool.and_eq_true, List.all_eq_true] at h
  refine h.2 (i, j) (List.mem_of_getElem? (i := k) ?_)
  rw [List.getElem?_zip_eq_some]
  exact ⟨hk, by rw [List.getElem?_tail]; exact hk1⟩
theorem reach_listed {ops : Array Oper} {listed : Array Bool} (hc : ∀ j oj, listed.getD j false = true → ops[j]? = some oj → ∀ e ∈ depsOf oj, listed.getD e false = true) :
    ∀ (n i t : Nat) (o : Oper), ops[i]? = some o → (∀ e ∈ depsOf o, listed.getD e false = true) → reach ops n i t = true → listed.getD t false = true := by
  intro n
  induction n with
  | zero => intro i t o _ _ h; cases h
  | succ n ih =>
    intro i t o ho hd h
    unfold reach at h
    rw [ho] at h
    obtain ⟨e, he, h1⟩ := List.any_eq_true.1 h
    have hle := hd e he
    rcases Bool.or_eq_true_iff.1 h1 with h2 | h2
    · rw [← eq_of_beq h2]; exact hle
    · cases hoe : ops[e]? with
      | none =>
        cases n with
        | zero => cases h2
        | succ n => unfold reach at h2; rw [hoe] at h2; cases h2
      | some oe => exact ih e t oe hoe (hc e oe hle hoe) h2

section
variable {P : Program} {ops : Array Oper} (g : Nat) (φ : Nat → Value → World → Prop) (S : Nat → World → Prop) (cs : List Nat) (a0 : Act)

structure RInv2 (listed : Array Bool) (a : Act) (w : World) : Prop where
  phase : ∃ j, j ≤ cs.length ∧ S j w ∧ (∀ k i, k < j → cs[k]? = some i → listed.getD i false = true) ∧ (∀ k i, j ≤ k → cs[k]? = some i → listed.getD i false = false)
  size : listed.size = ops.size
  defers : a.defers = a0.defers
  tmps : a.tmps.size = a0.tmps.size
  facts : ∀ i d, listed.getD i false = true → slotOf ops i = some d → φ i (a.tmps.getD d undef) w
  rest : ∀ s, (∀ i, listed.getD i false = true → slotOf ops i ≠ some s) → a.tmps.getD s undef = a0.tmps.getD s undef
  closed : ∀ j oj, listed.getD j false = true → ops[j]? = some oj → ∀ e ∈ depsOf oj, listed.getD e false = true

/-- what is asked of one operation -/
def Ob2 (P : Program) (ops : Array Oper) (i : Nat) (o : Oper) : Prop :=
  ∀ a w j, (∀ k, cs[k]? = some i → k = j) → S j w → a.defers = a0.defers → (∀ j ∈ depsOf o, ∀ d, slotOf ops j = some d → φ j (a.tmps.getD d undef) w) →
    (∀ s, (∀ j oj, ops[j]? = some oj → oj.dst = some s → i ∈ depsOf oj ∨ i = j) → a.tmps.getD s undef = a0.tmps.getD s undef) →
    if Region.wanted o (yielded ops a.tmps) then Y2 g P o a w (fun v w' => φ i v w' ∧ S (if cs.contains i then j + 1 else j) w') else φ i undef w ∧ S (if cs.contains i then j + 1 else j) w

theorem wp_region_facts2 {id : Nat} {Q : Exit → Act → World → Prop} {w : World} (hm : P.follows .mixedOrders = true) (hB : regionB ops = true)
    (hsl : ∀ i d, slotOf ops i = some d → d < a0.tmps.size)
    (hφ : ∀ i v w w', φ i v w → w.grownBy w' (some g) → φ i v w') (hcs : chainB ops cs = true) (hC0 : S 0 w.drew)
    (hob : ∀ i o, ops[i]? = some o → Ob2 g φ S cs a0 P ops i o)
    (hfin : ∀ a' w', S cs.length w' → a'.defers = a0.defers → a'.tmps.size = a0.tmps.size → (∀ i d, slotOf ops i = some d → φ i (a'.tmps.getD d undef) w') →
      (∀ s, (∀ i, slotOf ops i ≠ some s) → a'.tmps.getD s undef = a0.tmps.getD s undef) → Q .normal a' w') : (Code.region id ops true).wp P Q a0 w := by
  have hb : ∀ i o, ops[i]? = some o → o.dst.isSome = true ∧ (∀ j ∈ depsOf o, j < i) ∧ ∀ j o', ops[j]? = some o' → i ≠ j → o.dst ≠ o'.dst := by
    intro i o ho
    have h1 := List.all_eq_true.1 hB (o, i) (List.mem_zipIdx_iff_getElem?.2 (by simpa using ho))
    simp only [Bool.and_eq_true, List.all_eq_true, decide_eq_true_iff] at h1
    refine ⟨h1.1.1, h1.1.2, fun j o' ho' hne => ?_⟩
    have h2 := h1.2 (o', j) (List.mem_zipIdx_iff_getElem?.2 (by simpa using ho'))
    simpa [hne] using h2
  refine wp_region_any hm ?_
  have done : ∀ (listed : Array Bool) (a : Act) (w : World), RInv2 (ops := ops) φ S cs a0 listed a w → (∀ i, i < ops.size → listed.getD i true = true) → Q .normal a w := by
    intro listed a w h hall
    have hcl : ∀ i, i < ops.size → listed.getD i false = true := by
      intro i hi
      have h1 := hall i hi
      rw [Array.getD_eq_getD_getElem?, Array.getElem?_eq_getElem (by rw [h.size]; exact hi)] at h1 ⊢
      exact h1
    have hS : S cs.length w := by
      obtain ⟨j, h0, h1, h2, h3⟩ := h.phase
      have hge : cs.length ≤ j := by
        rcases Nat.lt_or_ge j cs.length with hlt | hge
        · have h4 := h3 j cs[j] (Nat.le_refl _) (List.getElem?_eq_getElem hlt)
          rw [hcl _ (chain_lt hcs (List.getElem?_eq_getElem hlt))] at h4
          cases h4
        · exact hge
      rw [Nat.le_antisymm hge h0]; exact h1
    refine hfin a w hS h.defers h.tmps (fun i d hd => h.facts i d ?_ hd) (fun s hs => h.rest s fun i _ => hs i)
    have hi : i < ops.size := by
      rcases Nat.lt_or_ge i ops.size with hi | hi
      · exact hi
      · rw [slotOf, Array.getElem?_eq_none hi] at hd; cases hd
    have h1 := hall i hi
    rw [Array.getD_eq_getD_getElem?, Array.getElem?_eq_getElem (by rw [h.size]; exact hi)] at h1 ⊢
    exact h1
  have empty : ∀ (listed : Array Bool), listed.size = ops.size → Region.ready .any ops listed = [] → ∀ i, i < ops.size → listed.getD i true = true := by
    intro listed hsz hr i
    induction i using Nat.strongRecOn with
    | _ i ih =>
      intro hi
      cases hl : listed.getD i true with
      | true => rfl
      | false =>
        have hmem : i ∈ Region.ready .any ops listed := by
          unfold Region.ready
          refine List.mem_filter.2 ⟨List.mem_range.2 hi, ?_⟩
          rw [hl, Array.getElem?_eq_getElem hi]
          simp only [Bool.not_false, Bool.true_and, Option.map_some, Option.getD_some]
          rw [Array.all_eq_true_iff_forall_mem]
          intro e he
          cases hbd : Region.binds .any e with
          | false => rfl
          | true =>
            have hlt := (hb i ops[i] (Array.getElem?_eq_getElem hi)).2.1 e.on (List.mem_map.2 ⟨e, List.mem_filter.2 ⟨by simpa using he, hbd⟩, rfl⟩)
            have h1 := ih e.on hlt (by omega)
            rw [Array.getD_eq_getD_getElem?, Array.getElem?_eq_getElem (by rw [hsz]; omega)] at h1 ⊢
            simpa using h1
        rw [hr] at hmem
        cases hmem
  have less : ∀ (p q : Nat → Bool) (l : List Nat), (∀ x ∈ l, p x = true → q x = true) → (∃ x ∈ l, q x = true ∧ p x = false) → l.countP p < l.countP q := by
    intro p q l
    induction l with
    | nil => rintro _ ⟨x, hx, _⟩; cases hx
    | cons y l ih =>
      intro h1 h2
      have hle : l.countP p ≤ l.countP q := List.countP_mono_left fun x hx hp => h1 x (List.mem_cons_of_mem _ hx) hp
      obtain ⟨x, hx, hq, hp⟩ := h2
      rw [List.countP_cons, List.countP_cons]
      rcases List.mem_cons.1 hx with rfl | hx
      · rw [hp, hq]; simp; omega
      · have := ih (fun x hx hp => h1 x (List.mem_cons_of_mem _ hx) hp) ⟨x, hx, hq, hp⟩
        have hy := h1 y (List.mem_cons_self ..)
        cases hpy : p y with
        | false => split <;> simp_all <;> omega
        | true => rw [hy hpy]; simp; omega
  have key : ∀ (fuel : Nat) (listed : Array Bool) (a : Act) (w : World), RInv2 (ops := ops) φ S cs a0 listed a w → (List.range ops.size).countP (fun i => !listed.getD i true) ≤ fuel → wpAny P .any ops Q fuel listed a w := by
    intro fuel
    induction fuel with
    | zero =>
      intro listed a w h hc
      have hall : ∀ i, i < ops.size → listed.getD i true = true := by
        intro i hi
        have := List.countP_eq_zero.1 (Nat.le_zero.1 hc) i (List.mem_range.2 hi)
        simpa using this
      refine ⟨?_, done listed a w h hall⟩
      unfold Region.ready
      rw [List.filter_eq_nil_iff]
      intro i hi
      rw [hall i (List.mem_range.1 hi)]
      simp
    | succ fuel ih =>
      intro listed a w h hc
      refine ⟨fun hr => done listed a w h (empty listed h.size hr), fun i hi => ?_⟩
      unfold Region.ready at hi
      obtain ⟨hir, hi2⟩ := List.mem_filter.1 hi
      have hin := List.mem_range.1 hir
      obtain ⟨o, ho⟩ : ∃ o, ops[i]? = some o := ⟨_, Array.getElem?_eq_getElem hin⟩
      rw [ho] at hi2
      simp only [Option.map_some, Option.getD_some, Bool.and_eq_true, Bool.not_eq_true'] at hi2
      obtain ⟨hnl, hdeps⟩ := hi2
      obtain ⟨hds, hlt, hdist⟩ := hb i o ho
      obtain ⟨d, hd⟩ := Option.isSome_iff_exists.1 hds
      have hslot : slotOf ops i = some d := by rw [slotOf, ho]; exact hd
      have hdlt : d < a.tmps.size := by rw [h.tmps]; exact hsl i d hslot
      have hdl : ∀ j ∈ depsOf o, listed.getD j false = true := by
        intro j hj
        obtain ⟨e, he, rfl⟩ := List.mem_map.1 hj
        obtain ⟨he1, he2⟩ := List.mem_filter.1 he
        have := Array.all_eq_true_iff_forall_mem.1 hdeps e (by simpa using he1)
        rw [he2] at this
        simpa using this
      have hlf : listed.getD i false = false := by
        rw [Array.getD_eq_getD_getElem?, Array.getElem?_eq_getElem (by rw [h.size]; exact hin)] at hnl ⊢
        exact hnl
      obtain ⟨ph, hp0, hp1, hp2, hp3⟩ := h.phase
      have hpos : ∀ k, cs[k]? = some i → k = ph := by
        intro k hk
        rcases Nat.lt_trichotomy k ph with hlt' | he | hgt
        · rw [hp2 k i hlt' hk] at hlf; cases hlf
        · exact he
        · have hkl := (List.getElem?_eq_some_iff.1 hk).1
          have hk1 : cs[k - 1]? = some (cs[k - 1]'(by omega)) := List.getElem?_eq_getElem (by omega)
          have hr := chain_reach hcs (k := k - 1) hk1 (by rw [show k - 1 + 1 = k by omega]; exact hk)
          have h5 := reach_listed (fun j oj hj hoj e he => h.closed j oj hj hoj e he) _ i _ o ho hdl hr
          rw [hp3 (k - 1) _ (by omega) hk1] at h5
          cases h5
      have hoi := hob i o ho a w ph hpos hp1 h.defers (fun j hj d' hd' => h.facts j d' (hdl j hj) hd') (fun s hs => h.rest s fun j hj hjs => by
        obtain ⟨oj, hoj⟩ : ∃ oj, ops[j]? = some oj := by
          cases hh : ops[j]? with
          | none => rw [slotOf, hh] at hjs; cases hjs
          | some oj => exact ⟨oj, rfl⟩
        rcases hs j oj hoj (by rw [slotOf, hoj] at hjs; exact hjs) with hd1 | rfl
        · have := h.closed j oj hj hoj i hd1
          rw [this] at hlf; cases hlf
        · rw [hj] at hlf; cases hlf)
      have step : ∀ v w', φ i v w' → S (if cs.contains i then ph + 1 else ph) w' → w.grownBy w' (some g) → wpAny P .any ops Q fuel (listed.setIfInBounds i true) (a.put o.dst v) w' := by
        intro v w' hv hSv hext
        have hset : ∀ j b, (listed.setIfInBounds i true).getD j b = if j = i then true else listed.getD j b := by
          intro j b
          simp only [Array.getD_eq_getD_getElem?, Array.getElem?_setIfInBounds]
          by_cases hj : i = j
          · subst hj
            have : i < listed.size := by rw [h.size]; exact hin
            simp [this]
          · rw [if_neg hj, if_neg (fun e => hj e.symm)]
        refine ih _ _ _ ?_ ?_
        · have hph : ∃ j, j ≤ cs.length ∧ S j w' ∧ (∀ k i', k < j → cs[k]? = some i' → (listed.setIfInBounds i true).getD i' false = true) ∧ (∀ k i', j ≤ k → cs[k]? = some i' → (listed.setIfInBounds i true).getD i' false = false) := by
            by_cases hci : cs.contains i = true
            · rw [if_pos hci] at hSv
              obtain ⟨k, hkl, hk⟩ := List.mem_iff_getElem.1 (by simpa using hci : i ∈ cs)
              have hk' : cs[k]? = some i := by rw [List.getElem?_eq_getElem hkl, hk]
              have hkp := hpos k hk'
              refine ⟨ph + 1, by omega, hSv, ?_, ?_⟩
              · intro k' i' hlt' hk2
                rw [hset]
                rcases Nat.lt_or_ge k' ph with h6 | h6
                · rw [hp2 k' i' h6 hk2]; simp
                · have : k' = k := by omega
                  subst this
                  rw [hk'] at hk2; cases hk2
                  rw [if_pos rfl]
              · intro k' i' hge' hk2
                rw [hset, if_neg, hp3 k' i' (by omega) hk2]
                rintro rfl
                have := hpos k' hk2
                omega
            · rw [if_neg hci] at hSv
              have hni : ∀ (k' i' : Nat), cs[k']? = some i' → i' ≠ i := by
                rintro k' i' hk2 rfl
                exact hci (by simpa using List.mem_of_getElem? hk2)
              refine ⟨ph, hp0, hSv, ?_, ?_⟩
              · intro k' i' hlt' hk2
                rw [hset, if_neg (hni k' i' hk2)]; exact hp2 k' i' hlt' hk2
              · intro k' i' hge' hk2
                rw [hset, if_neg (hni k' i' hk2)]; exact hp3 k' i' hge' hk2
          refine ⟨hph, by simp [h.size], by rw [hd]; exact h.defers, by rw [hd]; simp [Act.put, h.tmps], ?_, ?_, ?_⟩
          · intro i' d' hi' hd'
            rw [hd, put_get a d d' v hdlt]
            rw [hset] at hi'
            by_cases hii : i' = i
            · subst hii
              rw [hslot] at hd'
              cases hd'
              rw [if_pos rfl]
              exact hv
            · rw [if_neg hii] at hi'
              obtain ⟨o', ho'⟩ : ∃ o', ops[i']? = some o' := by
                cases hh : ops[i']? with
                | none => rw [slotOf, hh] at hd'; cases hd'
                | some o' => exact ⟨o', rfl⟩
              have hne := hdist i' o' ho' (fun e => hii e.symm)
              have hd2 : o'.dst = some d' := by rw [slotOf, ho'] at hd'; exact hd'
              rw [if_neg (fun e => hne (by rw [hd, hd2, e]))]
              exact hφ _ _ _ _ (h.facts i' d' hi' hd') hext
          · intro s hs
            have hsd : s ≠ d := fun e => hs i (by rw [hset, if_pos rfl]) (by rw [hslot, e])
            rw [hd, put_get a d s v hdlt, if_neg hsd]
            exact h.rest s fun i' hi' => hs i' (by rw [hset]; by_cases hx : i' = i <;> simp [hx, hi'])
          · intro j oj hj hoj e he
            rw [hset] at hj ⊢
            split
            · rfl
            · by_cases hji : j = i
              · subst hji
                rw [ho] at hoj
                cases hoj
                exact hdl e he
              · rw [if_neg hji] at hj
                exact h.closed j oj hj hoj e he
        · have := less (fun j => !(listed.setIfInBounds i true).getD j true) (fun j => !listed.getD j true) (List.range ops.size) ?_ ?_
          · omega
          · intro j _ hj
            rw [hset] at hj
            by_cases hji : j = i
            · rw [if_pos hji] at hj; simp at hj
            · rw [if_neg hji] at hj; exact hj
          · exact ⟨i, hir, by rw [hnl]; rfl, by rw [hset, if_pos rfl]; rfl⟩
      unfold wpOp
      rw [ho]
      simp only
      split
      · rename_i hw
        rw [if_pos hw] at hoi
        exact .inl (wp_of_Y2 hoi fun v w' h1 h2 => step v w' h1.1 h1.2 h2)
      · rename_i hw
        rw [if_neg hw] at hoi
        exact step undef w hoi.1 hoi.2 (World.grownBy.refl w _)
  have hempty : ∀ i, (Array.replicate ops.size false).getD i false = false := by
    intro i
    rw [Array.getD_eq_getD_getElem?, Array.getElem?_replicate]
    split <;> rfl
  refine key _ _ _ _ ⟨⟨0, Nat.zero_le _, hC0, fun k _ hk => absurd hk (Nat.not_lt_zero _), fun k i _ _ => hempty i⟩, by simp, rfl, rfl, ?_, fun _ _ => rfl, ?_⟩ ?_
  · intro i d hi
    rw [Array.getD_eq_getD_getElem?, Array.getElem?_replicate] at hi
    split at hi <;> simp at hi
  · intro j oj hj
    rw [Array.getD_eq_getD_getElem?, Array.getElem?_replicate] at hj
    split at hj <;> simp at hj
  · exact Nat.le_trans (List.countP_le_length) (by simp)
end

/-- reads as bytes, outside block g -/
def IsG (g : Nat) (l : List UInt8) (v : Value) (w : World) : Prop := ∃ A c, v = .slice A l.length c ∧ Bs w A c l ∧ ∀ a, A = some a → l ≠ [] → a.block ≠ g
theorem IsG.keep {g : Nat} {l : List UInt8} {v : Value} {w w' : World} (h : IsG g l v w) (hx : w.grownBy w' (some g)) : IsG g l v w' := by
  obtain ⟨A, c, hv, hb, hn⟩ := h
  refine ⟨A, c, hv, Sl.keep2 hb fun a ha hc => ?_, hn⟩
  have hl : l ≠ [] := fun e => hc (by rw [e]; rfl)
  exact hx.block _ (Sl.lt hb ha hc) (by simpa using hn a ha hl)
theorem IsG.isB {g : Nat} {l : List UInt8} {v : Value} {w : World} (h : IsG g l v w) : IsB l v w := by
  obtain ⟨A, c, hv, hb, _⟩ := h
  exact ⟨A, c, hv, hb⟩
structure FactG (g : Nat) where
  holds : Value → World → Prop
  ext : ∀ v w w', holds v w → w.grownBy w' (some g) → holds v w'
def FactG.val {g : Nat} (x : Value) : FactG g := ⟨fun v _ => v = x, fun _ _ _ h _ => h⟩
def FactG.bytes {g : Nat} (l : List UInt8) : FactG g := ⟨IsG g l, fun _ _ _ h hx => h.keep hx⟩
def FactG.any {g : Nat} : FactG g := ⟨fun _ _ => True, fun _ _ _ _ _ => trivial⟩

/-- the operations' values put into their slots, one after another -/
def puts (f : Nat → Value) : Nat → List Oper → Act → Act
  | _, [], a => a
  | k, o :: l, a => puts f (k + 1) l (a.put o.dst (f k))
theorem puts_size (f : Nat → Value) : ∀ (l : List Oper) (k : Nat) (a : Act), (puts f k l a).tmps.size = a.tmps.size ∧ (puts f k l a).defers = a.defers
  | [], _, _ => ⟨rfl, rfl⟩
  | o :: l, k, a => by
    obtain ⟨h1, h2⟩ := puts_size f l (k + 1) (a.put o.dst (f k))
    unfold puts
    rw [h1, h2]
    cases o.dst <;> simp [Act.put]
theorem puts_other (f : Nat → Value) (s : Tmp) : ∀ (l : List Oper) (k : Nat) (a : Act), (∀ o ∈ l, o.dst ≠ some s) → (puts f k l a).tmps.getD s undef = a.tmps.getD s undef
  | [], _, _, _ => rfl
  | o :: l, k, a, h => by
    unfold puts
    rw [puts_other f s l (k + 1) _ fun o ho => h o (List.mem_cons_of_mem _ ho)]
    have h1 := h o (List.mem_cons_self ..)
    cases hd : o.dst with
    | none => rfl
    | some d =>
      rw [hd] at h1
      simp only [Act.put, Array.getD_eq_getD_getElem?, Array.getElem?_setIfInBounds]
      rw [if_neg (fun e => h1 (by rw [e]))]
theorem puts_at (f : Nat → Value) (s : Tmp) : ∀ (l : List Oper) (k : Nat) (a : Act) (i : Nat) (o : Oper), l[i]? = some o → o.dst = some s → s < a.tmps.size → (∀ j o', l[j]? = some o' → j ≠ i → o'.dst ≠ some s) → (puts f k l a).tmps.getD s undef = f (k + i)
  | [], _, _, _, _, h, _, _, _ => by simp at h
  | x :: l, k, a, 0, o, h, hd, hs, hn => by
    simp at h
    subst h
    unfold puts
    rw [puts_other f s l (k + 1) _ ?_, hd, put_get _ _ _ _ hs, if_pos rfl]; rfl
    intro o' ho'
    obtain ⟨j, hj⟩ := List.mem_iff_getElem?.1 ho'
    exact hn (j + 1) o' (by simpa using hj) (by omega)
  | x :: l, k, a, i + 1, o, h, hd, hs, hn => by
    unfold puts
    rw [puts_at f s l (k + 1) _ i o (by simpa using h) hd (by cases x.dst <;> simp [Act.put, hs]) fun j o' hj hne => hn (j + 1) o' (by simpa using hj) (by omega)]
    congr 1
    omega

section
variable {P : Program} {ops : Array Oper} (g : Nat) (F : List (FactG g)) (S : Nat → World → Prop) (cs : List Nat) (a0 : Act)
/-- one operation out of the chain, or of it: its dependencies hold, the other slots read are as they were -/
def Ask2 (P : Program) (ops : Array Oper) (i : Nat) (o : Oper) : Prop :=
  if cs.contains i then
    ∀ a w, S (cs.idxOf i) w → (∀ j d, (depsOf o).contains j = true → slotOf ops j = some d → (F.getD j FactG.any).holds (a.eval (.tmp d)) w) → (∀ s, restB ops i s = true → a.eval (.tmp s) = a0.eval (.tmp s)) →
      if Region.wanted o (yielded ops a.tmps) then Y2 g P o a w (fun v w' => (F.getD i FactG.any).holds v w' ∧ S (cs.idxOf i + 1) w') else (F.getD i FactG.any).holds undef w ∧ S (cs.idxOf i + 1) w
  else
    ∀ a w j, S j w → (∀ j d, (depsOf o).contains j = true → slotOf ops j = some d → (F.getD j FactG.any).holds (a.eval (.tmp d)) w) → (∀ s, restB ops i s = true → a.eval (.tmp s) = a0.eval (.tmp s)) →
      if Region.wanted o (yielded ops a.tmps) then Y P o a w (F.getD i FactG.any).holds else (F.getD i FactG.any).holds undef w
def Asks2 (P : Program) (ops : Array Oper) : Nat → List Oper → Prop
  | _, [] => True
  | k, o :: l => Ask2 g F S cs a0 P ops k o ∧ Asks2 P ops (k + 1) l
theorem asks2_get {l : List Oper} : ∀ {k : Nat}, Asks2 g F S cs a0 P ops k l → ∀ i o, l[i]? = some o → Ask2 g F S cs a0 P ops (k + i) o := by
  induction l with
  | nil => intro k _ i o h; simp at h
  | cons x l ih =>
    intro k h i o ho
    cases i with
    | zero => simp at ho; subst ho; exact h.1
    | succ i =>
      have := ih h.2 i o (by simpa using ho)
      rwa [show k + 1 + i = k + (i + 1) from by omega] at this

theorem wp_region_asks2 {id : Nat} {Q : Exit → Act → World → Prop} {w : World} (hm : P.follows .mixedOrders = true) (hB : regionB ops = true) (hcs : chainB ops cs = true)
    (hsl : ops.toList.all (fun o => o.dst.all (· < a0.tmps.size)) = true) (hS : ∀ j w w', S j w → Ext w w' → S j w') (hw : S 0 w) (hob : Asks2 g F S cs a0 P ops 0 ops.toList)
    (hfin : ∀ (f : Nat → Value) w', S cs.length w' → (∀ i d, slotOf ops i = some d → (F.getD i FactG.any).holds (f i) w') → Q .normal (puts f 0 ops.toList a0) w') : (Code.region id ops true).wp P Q a0 w := by
  have hsl' : ∀ i d, slotOf ops i = some d → d < a0.tmps.size := by
    intro i d hd
    rw [slotOf] at hd
    cases ho : ops[i]? with
    | none => rw [ho] at hd; cases hd
    | some o =>
      rw [ho] at hd
      have h1 := List.all_eq_true.1 hsl o (List.mem_iff_getElem?.2 ⟨i, by simpa using ho⟩)
      rw [show o.dst = some d from hd] at h1
      simpa using h1
  have hrestB : ∀ (i s : Nat) (t : Prop), restB ops i s = true → ((∀ j oj, ops[j]? = some oj → oj.dst = some s → i ∈ depsOf oj ∨ i = j) → t) → t := by
    intro i s t hs k
    refine k fun j oj hoj hdj => ?_
    have h1 := List.all_eq_true.1 hs (oj, j) (List.mem_zipIdx_iff_getElem?.2 (by simpa using hoj))
    simp only [hdj, bne_self_eq_false, Bool.false_or, Bool.or_eq_true, beq_iff_eq] at h1
    rcases h1 with h1 | h1
    · exact .inl (by simpa using h1)
    · exact .inr h1
  refine wp_region_facts2 g (fun i => (F.getD i FactG.any).holds) S cs a0 hm hB hsl' (fun i v w w' h hx => FactG.ext _ _ _ _ h hx) hcs (hS _ _ _ hw (Ext.drew w)) ?_ ?_
  · intro i o ho a w j hpos hSj _ hdeps hrest
    have h := asks2_get g F S cs a0 hob i o (by simpa using ho)
    rw [Nat.zero_add] at h
    unfold Ask2 at h
    by_cases hc : cs.contains i = true
    · rw [if_pos hc] at h ⊢
      have hlt : cs.idxOf i < cs.length := List.idxOf_lt_length_iff.2 (by simpa using hc)
      have hj : cs.idxOf i = j := hpos _ (by rw [List.getElem?_eq_getElem hlt, List.getElem_idxOf])
      rw [hj] at h
      exact h a w hSj (fun j d hj hd => hdeps j (by simpa using hj) d hd) (fun s hs => hrestB i s _ hs (hrest s))
    · rw [if_neg hc] at h ⊢
      have h2 := h a w j hSj (fun j d hj hd => hdeps j (by simpa using hj) d hd) (fun s hs => hrestB i s _ hs (hrest s))
      split
      · rename_i hw
        rw [if_pos hw] at h2
        exact Y2_of_Y h2 fun w' hx => hS _ _ _ hSj hx
      · rename_i hw
        rw [if_neg hw] at h2
        exact ⟨h2, hSj⟩
  · intro a' w' hc hd hsz hf hr
    have heq : a' = puts (fun i => match slotOf ops i with | some d => a'.tmps.getD d undef | none => undef) 0 ops.toList a0 := by
      obtain ⟨h1, h2⟩ := puts_size (fun i => match slotOf ops i with | some d => a'.tmps.getD d undef | none => undef) ops.toList 0 a0
      have ht : a'.tmps = (puts (fun i => match slotOf ops i with | some d => a'.tmps.getD d undef | none => undef) 0 ops.toList a0).tmps := by
        refine Array.ext (by rw [h1, hsz]) fun s hs1 hs2 => ?_
        have hg : a'.tmps.getD s undef = (puts (fun i => match slotOf ops i with | some d => a'.tmps.getD d undef | none => undef) 0 ops.toList a0).tmps.getD s undef := by
          by_cases hex : ∃ (i : Nat) (o : Oper), ops[i]? = some o ∧ o.dst = some s
          · obtain ⟨i, o, ho, hds⟩ := hex
            have hso : slotOf ops i = some s := by rw [slotOf, ho]; exact hds
            rw [puts_at _ s ops.toList 0 a0 i o (by simpa using ho) hds (hsl' i s hso), Nat.zero_add, hso]
            intro j o' hj hne hd'
            have hb := List.all_eq_true.1 hB (o, i) (List.mem_zipIdx_iff_getElem?.2 (by simpa using ho))
            simp only [Bool.and_eq_true, List.all_eq_true] at hb
            have hb2 := hb.2 (o', j) (List.mem_zipIdx_iff_getElem?.2 (by simpa using hj))
            rw [hds, hd'] at hb2
            simp at hb2
            exact hne hb2.symm
          · have hno : ∀ o ∈ ops.toList, o.dst ≠ some s := fun (o : Oper) ho hds => by
              obtain ⟨i, hi⟩ := List.mem_iff_getElem?.1 ho
              exact hex ⟨i, o, by simpa using hi, hds⟩
            rw [puts_other _ s ops.toList 0 a0 hno]
            refine hr s fun i hi => ?_
            rw [slotOf] at hi
            cases ho : ops[i]? with
            | none => rw [ho] at hi; cases hi
            | some o => rw [ho] at hi; exact hex ⟨i, o, ho, hi⟩
        rw [Array.getD_eq_getD_getElem?, Array.getD_eq_getD_getElem?, Array.getElem?_eq_getElem hs1, Array.getElem?_eq_getElem hs2] at hg
        exact hg
      have hdd : a'.defers = (puts (fun i => match slotOf ops i with | some d => a'.tmps.getD d undef | none => undef) 0 ops.toList a0).defers := by rw [h2, hd]
      cases a'
      generalize puts _ _ _ _ = b at *
      cases b
      simp only at ht hdd
      rw [ht, hdd]
    rw [heq]
    refine hfin _ w' hc fun i d hi => ?_
    rw [hi]
    exact hf i d hi

/-- two ways through a region, told by c; both leave G -/
theorem wp_region_two (c : Prop) (F2 : List (FactG g)) (G : (Nat → Value) → Prop) {id : Nat} {Q : Exit → Act → World → Prop} {w : World} (hm : P.follows .mixedOrders = true) (hB : regionB ops = true) (hcs : chainB ops cs = true)
    (hsl : ops.toList.all (fun o => o.dst.all (· < a0.tmps.size)) = true) (hS : ∀ j w w', S j w → Ext w w' → S j w') (hw : S 0 w) (h1 : c → Asks2 g F S cs a0 P ops 0 ops.toList) (h2 : ¬ c → Asks2 g F2 S cs a0 P ops 0 ops.toList)
    (hG1 : c → ∀ (f : Nat → Value) w', (∀ i d, slotOf ops i = some d → (F.getD i FactG.any).holds (f i) w') → G f)
    (hG2 : ¬ c → ∀ (f : Nat → Value) w', (∀ i d, slotOf ops i = some d → (F2.getD i FactG.any).holds (f i) w') → G f)
    (hfin : ∀ (f : Nat → Value) w', S cs.length w' → G f → Q .normal (puts f 0 ops.toList a0) w') : (Code.region id ops true).wp P Q a0 w := by
  by_cases hc : c
  · exact wp_region_asks2 g F S cs a0 hm hB hcs hsl hS hw (h1 hc) fun f w' hs hf => hfin f w' hs (hG1 hc f w' hf)
  · exact wp_region_asks2 g F2 S cs a0 hm hB hcs hsl hS hw (h2 hc) fun f w' hs hf => hfin f w' hs (hG2 hc f w' hf)
theorem own_G {g : Nat} {l : List UInt8} {v : Value} {u u' : World} {e : TypeId} (ho : u'.ownsRow u.heap.size e 1 v l.length (l.map bc)) (hg : g < u.heap.size) : IsG g l v u' := by
  obtain ⟨A, c, hv, hs, hge⟩ := Sl.of_own ho
  exact ⟨A, c, hv, hs, fun a ha _ => by have := hge a ha; omega⟩
end
theorem Y_load_row {P : Program} {o : Oper} {a : Act} {w : World} {ψ : Value → World → Prop} (ty : TypeId) (x : Operand) (ho : o.op = .load ty x) (g : Nat) (hx : a.eval x = .pointer (some ⟨g, 0, none⟩)) (t : TypeId) (cs : Array Value) (fr : Nat × Nat) (d : TypeDesc)
    (hg : w.heap[g]? = some (.cells cs t fr)) (hu : P.underlying ty = some d) (hd : (match d with | .struct _ | .array _ _ => true | _ => false) = true) (hi : (P.info? ty).map (·.size) = some cs.size) (hψ : ψ (.agg cs) w) : Y P o a w ψ := by
  unfold Y
  first | exact .inl (wp_load_row ty x ho g hx t cs fr d hg hu hd hi ⟨_, rfl, hψ, Ext.refl w⟩) | exact wp_load_row ty x ho g hx t cs fr d hg hu hd hi ⟨_, rfl, hψ, Ext.refl w⟩


theorem any_append {P : Program} {md : Region.Mode} {ops : Array Oper} {Q : Exit → Act → World → Prop} {fuel : Nat} {listed : Array Bool} {a : Act} {w : World} (i : Nat) (o : Oper) (hr : Region.ready md ops listed = [i]) (ho : ops[i]? = some o) (hgd : o.guard = none)
    (s x : Operand) (t : TypeId) (hop : o.op = .call { callee := .builtin .append, args := #[s, x], argTypes := #[t, t] }) (v u v' : Value) (w' : World) (hs : a.eval s = v) (hx : a.eval x = u)
    (hrun : (Builtin.append_ #[t, t] o.type #[v, u]).run P w = .ok v' w') (h : wpAny P md ops Q fuel (listed.setIfInBounds i true) (a.put o.dst v') w') : wpAny P md ops Q (fuel + 1) listed a w := by
  refine wpAny_ready (rs := [i]) hr (by simp) ?_
  refine AllReady.cons ho (fun K hK => ?_) AllReady.nil
  simp only [Region.wanted, hgd, if_true]
  unfold Oper.wp execOp
  simp only [hop, resolve, invoke, builtin, Sem.run_bind, Sem.run_pure, Result.andThen_ok, List.map_toArray, List.map_cons, List.map_nil, hs, hx, hrun]
  exact hK _ _ h


theorem Y_load_mid {P : Program} {o : Oper} {a : Act} {w : World} {ψ : Value → World → Prop} (ty : TypeId) (x : Operand) (ho : o.op = .load ty x) (b off : Nat) (hx : a.eval x = .pointer (some ⟨b, off, none⟩)) (cs : List Value) (d : TypeDesc)
    (hc : w.rangeAt b off cs) (hu : P.underlying ty = some d) (hd : d.isRow = true) (hi : (P.info? ty).map (·.size) = some cs.length) (hψ : ψ (.agg cs.toArray) w) : Y P o a w ψ := by
  unfold Y
  exact wp_load_mid ty x ho b off hx cs d hc hu hd hi ⟨_, rfl, hψ, Ext.refl w⟩
end Go.Proofs.Ytomdplbdndadcaa
