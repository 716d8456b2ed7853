import Derived.Test.YtomdplbdndadcaaMem
import Derived.Orders
/- A region that draws its order, whose operations only read and make memory: each operation is asked for alone, with what those before it have left; the order does not matter. -/
namespace Go.Proofs.Ytomdplbdndadcaa
open Go.RowKit

/-- w' is w and new blocks -/
abbrev Ext (w w' : World) : Prop := Below w.heap.size w w'
theorem Ext.refl (w : World) : Ext w w := Below.refl _ w
theorem Ext.trans {a b c : World} (h : Ext a b) (k : Ext b c) : Ext a c := Below.trans h (k.mono h.size)
theorem Ext.drew (w : World) : Ext w w.drew := (Below.refl _ w).drew

def Y (P : Program) (o : Oper) (a : Act) (w : World) (ψ : Value → World → Prop) : Prop :=
  o.wp P a w (fun a' w' => ∃ v, a' = a.put o.dst v ∧ ψ v w' ∧ Ext w w') (fun _ _ _ => False)

theorem wp_of_Y {P : Program} {o : Oper} {a : Act} {w : World} {ψ : Value → World → Prop} {K : Act → World → Prop} {Q : Exit → Act → World → Prop} (h : Y P o a w ψ) (hk : ∀ v w', ψ v w' → Ext w w' → K (a.put o.dst v) w') : o.wp P a w K Q := by
  unfold Y Oper.wp at *
  generalize (execOp a.eval o).run P w = r at *
  cases r with
  | ok n w' =>
    cases n <;> simp only [Oper.upon] at h ⊢
    case enter f args =>
      refine Calls.mono h fun e w'' he => ?_
      cases e with
      | returned v =>
        obtain ⟨v', h1, h2, h3⟩ := he
        show K (a.put o.dst v) w''
        rw [h1]; exact hk _ _ h2 h3
      | panicked c => exact he.elim
      | outgrown => obtain ⟨_, _, hf⟩ := he; exact hf.elim
    case row r args => exact Rows.mono h fun v w'' he => by obtain ⟨v', h1, h2, h3⟩ := he; rw [h1]; exact hk _ _ h2 h3
    all_goals first | exact h.elim | (obtain ⟨v', h1, h2, h3⟩ := h; rw [h1]; exact hk _ _ h2 h3)
  | halt x w' => cases x <;> simp only [Oper.upon] at h


def slotOf (ops : Array Oper) (i : Nat) : Option Tmp := (ops[i]?).bind (·.dst)
/-- what comes ahead of an operation, whatever the order -/
def depsOf (o : Oper) : List Nat := (o.after.toList.filter fun e => Region.binds .any e).map (·.on)

/-- each operation writes a slot of its own, and waits only for those above it in the text -/
def regionB (ops : Array Oper) : Bool :=
  ops.toList.zipIdx.all fun (o, i) => o.dst.isSome && (depsOf o).all (· < i) && ops.toList.zipIdx.all fun (o', j) => i == j || o.dst != o'.dst

theorem put_get (a : Act) (d s : Tmp) (v : Value) (hd : d < a.tmps.size) : (a.put (some d) v).tmps.getD s undef = if s = d then v else a.tmps.getD s undef := by
  simp only [Act.put, Array.getD_eq_getD_getElem?, Array.getElem?_setIfInBounds]
  by_cases h : d = s
  · subst h; simp [hd]
  · rw [if_neg h, if_neg (fun e => h e.symm)]

section
variable {P : Program} {ops : Array Oper} (φ : Nat → Value → World → Prop) (C : World → Prop) (a0 : Act)

structure RInv (listed : Array Bool) (a : Act) (w : World) : Prop where
  c : C w
  size : listed.size = ops.size
  defers : a.defers = a0.defers
  tmps : a.tmps.size = a0.tmps.size
  facts : ∀ i d, listed.getD i false = true → slotOf ops i = some d → φ i (a.tmps.getD d undef) w
  rest : ∀ s, (∀ i, listed.getD i false = true → slotOf ops i ≠ some s) → a.tmps.getD s undef = a0.tmps.getD s undef
  closed : ∀ j oj, listed.getD j false = true → ops[j]? = some oj → ∀ e ∈ depsOf oj, listed.getD e false = true

/-- what is asked of one operation -/
def Ob (P : Program) (ops : Array Oper) (i : Nat) (o : Oper) : Prop :=
  ∀ a w, C w → a.defers = a0.defers → (∀ j ∈ depsOf o, ∀ d, slotOf ops j = some d → φ j (a.tmps.getD d undef) w) →
    (∀ s, (∀ j oj, ops[j]? = some oj → oj.dst = some s → i ∈ depsOf oj ∨ i = j) → a.tmps.getD s undef = a0.tmps.getD s undef) →
    if Region.wanted o (yielded ops a.tmps) then Y P o a w (φ i) else φ i undef w

theorem wp_region_facts {id : Nat} {Q : Exit → Act → World → Prop} {w : World} (hm : P.follows .mixedOrders = true) (hB : regionB ops = true)
    (hsl : ∀ i d, slotOf ops i = some d → d < a0.tmps.size)
    (hφ : ∀ i v w w', φ i v w → Ext w w' → φ i v w') (hC : ∀ w w', C w → Ext w w' → C w') (hC0 : C w.drew)
    (hob : ∀ i o, ops[i]? = some o → Ob φ C a0 P ops i o)
    (hfin : ∀ a' w', C w' → a'.defers = a0.defers → a'.tmps.size = a0.tmps.size → (∀ i d, slotOf ops i = some d → φ i (a'.tmps.getD d undef) w') →
      (∀ s, (∀ i, slotOf ops i ≠ some s) → a'.tmps.getD s undef = a0.tmps.getD s undef) → Q .normal a' w') : (Code.region id ops true).wp P Q a0 w := by
  have hb : ∀ i o, ops[i]? = some o → o.dst.isSome = true ∧ (∀ j ∈ depsOf o, j < i) ∧ ∀ j o', ops[j]? = some o' → i ≠ j → o.dst ≠ o'.dst := by
    intro i o ho
    have h1 := List.all_eq_true.1 hB (o, i) (List.mem_zipIdx_iff_getElem?.2 (by simpa using ho))
    simp only [Bool.and_eq_true, List.all_eq_true, decide_eq_true_iff] at h1
    refine ⟨h1.1.1, h1.1.2, fun j o' ho' hne => ?_⟩
    have h2 := h1.2 (o', j) (List.mem_zipIdx_iff_getElem?.2 (by simpa using ho'))
    simpa [hne] using h2
  refine wp_region_any hm ?_
  have done : ∀ (listed : Array Bool) (a : Act) (w : World), RInv (ops := ops) φ C a0 listed a w → (∀ i, i < ops.size → listed.getD i true = true) → Q .normal a w := by
    intro listed a w h hall
    refine hfin a w h.c h.defers h.tmps (fun i d hd => h.facts i d ?_ hd) (fun s hs => h.rest s fun i _ => hs i)
    have hi : i < ops.size := by
      rcases Nat.lt_or_ge i ops.size with hi | hi
      · exact hi
      · rw [slotOf, Array.getElem?_eq_none hi] at hd; cases hd
    have h1 := hall i hi
    rw [Array.getD_eq_getD_getElem?, Array.getElem?_eq_getElem (by rw [h.size]; exact hi)] at h1 ⊢
    exact h1
  have empty : ∀ (listed : Array Bool), listed.size = ops.size → Region.ready .any ops listed = [] → ∀ i, i < ops.size → listed.getD i true = true := by
    intro listed hsz hr i
    induction i using Nat.strongRecOn with
    | _ i ih =>
      intro hi
      cases hl : listed.getD i true with
      | true => rfl
      | false =>
        have hmem : i ∈ Region.ready .any ops listed := by
          unfold Region.ready
          refine List.mem_filter.2 ⟨List.mem_range.2 hi, ?_⟩
          rw [hl, Array.getElem?_eq_getElem hi]
          simp only [Bool.not_false, Bool.true_and, Option.map_some, Option.getD_some]
          rw [Array.all_eq_true_iff_forall_mem]
          intro e he
          cases hbd : Region.binds .any e with
          | false => rfl
          | true =>
            have hlt := (hb i ops[i] (Array.getElem?_eq_getElem hi)).2.1 e.on (List.mem_map.2 ⟨e, List.mem_filter.2 ⟨by simpa using he, hbd⟩, rfl⟩)
            have h1 := ih e.on hlt (by omega)
            rw [Array.getD_eq_getD_getElem?, Array.getElem?_eq_getElem (by rw [hsz]; omega)] at h1 ⊢
            simpa using h1
        rw [hr] at hmem
        cases hmem
  have less : ∀ (p q : Nat → Bool) (l : List Nat), (∀ x ∈ l, p x = true → q x = true) → (∃ x ∈ l, q x = true ∧ p x = false) → l.countP p < l.countP q := by
    intro p q l
    induction l with
    | nil => rintro _ ⟨x, hx, _⟩; cases hx
    | cons y l ih =>
      intro h1 h2
      have hle : l.countP p ≤ l.countP q := List.countP_mono_left fun x hx hp => h1 x (List.mem_cons_of_mem _ hx) hp
      obtain ⟨x, hx, hq, hp⟩ := h2
      rw [List.countP_cons, List.countP_cons]
      rcases List.mem_cons.1 hx with rfl | hx
      · rw [hp, hq]; simp; omega
      · have := ih (fun x hx hp => h1 x (List.mem_cons_of_mem _ hx) hp) ⟨x, hx, hq, hp⟩
        have hy := h1 y (List.mem_cons_self ..)
        cases hpy : p y with
        | false => split <;> simp_all <;> omega
        | true => rw [hy hpy]; simp; omega
  have key : ∀ (fuel : Nat) (listed : Array Bool) (a : Act) (w : World), RInv (ops := ops) φ C a0 listed a w → (List.range ops.size).countP (fun i => !listed.getD i true) ≤ fuel → wpAny P .any ops Q fuel listed a w := by
    intro fuel
    induction fuel with
    | zero =>
      intro listed a w h hc
      have hall : ∀ i, i < ops.size → listed.getD i true = true := by
        intro i hi
        have := List.countP_eq_zero.1 (Nat.le_zero.1 hc) i (List.mem_range.2 hi)
        simpa using this
      refine ⟨?_, done listed a w h hall⟩
      unfold Region.ready
      rw [List.filter_eq_nil_iff]
      intro i hi
      rw [hall i (List.mem_range.1 hi)]
      simp
    | succ fuel ih =>
      intro listed a w h hc
      refine ⟨fun hr => done listed a w h (empty listed h.size hr), fun i hi => ?_⟩
      unfold Region.ready at hi
      obtain ⟨hir, hi2⟩ := List.mem_filter.1 hi
      have hin := List.mem_range.1 hir
      obtain ⟨o, ho⟩ : ∃ o, ops[i]? = some o := ⟨_, Array.getElem?_eq_getElem hin⟩
      rw [ho] at hi2
      simp only [Option.map_some, Option.getD_some, Bool.and_eq_true, Bool.not_eq_true'] at hi2
      obtain ⟨hnl, hdeps⟩ := hi2
      obtain ⟨hds, hlt, hdist⟩ := hb i o ho
      obtain ⟨d, hd⟩ := Option.isSome_iff_exists.1 hds
      have hslot : slotOf ops i = some d := by rw [slotOf, ho]; exact hd
      have hdlt : d < a.tmps.size := by rw [h.tmps]; exact hsl i d hslot
      have hdl : ∀ j ∈ depsOf o, listed.getD j false = true := by
        intro j hj
        obtain ⟨e, he, rfl⟩ := List.mem_map.1 hj
        obtain ⟨he1, he2⟩ := List.mem_filter.1 he
        have := Array.all_eq_true_iff_forall_mem.1 hdeps e (by simpa using he1)
        rw [he2] at this
        simpa using this
      have hlf : listed.getD i false = false := by
        rw [Array.getD_eq_getD_getElem?, Array.getElem?_eq_getElem (by rw [h.size]; exact hin)] at hnl ⊢
        exact hnl
      have hoi := hob i o ho a w h.c h.defers (fun j hj d' hd' => h.facts j d' (hdl j hj) hd') (fun s hs => h.rest s fun j hj hjs => by
        obtain ⟨oj, hoj⟩ : ∃ oj, ops[j]? = some oj := by
          cases hh : ops[j]? with
          | none => rw [slotOf, hh] at hjs; cases hjs
          | some oj => exact ⟨oj, rfl⟩
        rcases hs j oj hoj (by rw [slotOf, hoj] at hjs; exact hjs) with hd1 | rfl
        · have := h.closed j oj hj hoj i hd1
          rw [this] at hlf; cases hlf
        · rw [hj] at hlf; cases hlf)
      have step : ∀ v w', φ i v w' → Ext w w' → wpAny P .any ops Q fuel (listed.setIfInBounds i true) (a.put o.dst v) w' := by
        intro v w' hv hext
        have hset : ∀ j b, (listed.setIfInBounds i true).getD j b = if j = i then true else listed.getD j b := by
          intro j b
          simp only [Array.getD_eq_getD_getElem?, Array.getElem?_setIfInBounds]
          by_cases hj : i = j
          · subst hj
            have : i < listed.size := by rw [h.size]; exact hin
            simp [this]
          · rw [if_neg hj, if_neg (fun e => hj e.symm)]
        refine ih _ _ _ ?_ ?_
        · refine ⟨hC _ _ h.c hext, by simp [h.size], by rw [hd]; exact h.defers, by rw [hd]; simp [Act.put, h.tmps], ?_, ?_, ?_⟩
          · intro i' d' hi' hd'
            rw [hd, put_get a d d' v hdlt]
            rw [hset] at hi'
            by_cases hii : i' = i
            · subst hii
              rw [hslot] at hd'
              cases hd'
              rw [if_pos rfl]
              exact hv
            · rw [if_neg hii] at hi'
              obtain ⟨o', ho'⟩ : ∃ o', ops[i']? = some o' := by
                cases hh : ops[i']? with
                | none => rw [slotOf, hh] at hd'; cases hd'
                | some o' => exact ⟨o', rfl⟩
              have hne := hdist i' o' ho' (fun e => hii e.symm)
              have hd2 : o'.dst = some d' := by rw [slotOf, ho'] at hd'; exact hd'
              rw [if_neg (fun e => hne (by rw [hd, hd2, e]))]
              exact hφ _ _ _ _ (h.facts i' d' hi' hd') hext
          · intro s hs
            have hsd : s ≠ d := fun e => hs i (by rw [hset, if_pos rfl]) (by rw [hslot, e])
            rw [hd, put_get a d s v hdlt, if_neg hsd]
            exact h.rest s fun i' hi' => hs i' (by rw [hset]; by_cases hx : i' = i <;> simp [hx, hi'])
          · intro j oj hj hoj e he
            rw [hset] at hj ⊢
            split
            · rfl
            · by_cases hji : j = i
              · subst hji
                rw [ho] at hoj
                cases hoj
                exact hdl e he
              · rw [if_neg hji] at hj
                exact h.closed j oj hj hoj e he
        · have := less (fun j => !(listed.setIfInBounds i true).getD j true) (fun j => !listed.getD j true) (List.range ops.size) ?_ ?_
          · omega
          · intro j _ hj
            rw [hset] at hj
            by_cases hji : j = i
            · rw [if_pos hji] at hj; simp at hj
            · rw [if_neg hji] at hj; exact hj
          · exact ⟨i, hir, by rw [hnl]; rfl, by rw [hset, if_pos rfl]; rfl⟩
      unfold wpOp
      rw [ho]
      simp only
      split
      · rename_i hw
        rw [if_pos hw] at hoi
        exact .inl (wp_of_Y hoi step)
      · rename_i hw
        rw [if_neg hw] at hoi
        exact step undef w hoi (Ext.refl w)
  refine key _ _ _ _ ⟨hC0, by simp, rfl, rfl, ?_, fun _ _ => rfl, ?_⟩ ?_
  · intro i d hi
    rw [Array.getD_eq_getD_getElem?, Array.getElem?_replicate] at hi
    split at hi <;> simp at hi
  · intro j oj hj
    rw [Array.getD_eq_getD_getElem?, Array.getElem?_replicate] at hj
    split at hj <;> simp at hj
  · exact Nat.le_trans (List.countP_le_length) (by simp)
end

section
variable {P : Program} {o : Oper} {a : Act} {w : World} {ψ : Value → World → Prop}
theorem Y_val {v : Value} (h : (execOp a.eval o).run P w = .ok (.value v) w) (hψ : ψ v w) : Y P o a w ψ := by
  unfold Y Oper.wp
  rw [h]
  exact ⟨v, rfl, hψ, Ext.refl w⟩
theorem Y_copy {x : Operand} (ho : o.op = .move x ∨ o.op = .assign x) (hψ : ψ (a.eval x) w) : Y P o a w ψ := by
  refine Y_val (v := a.eval x) ?_ hψ
  rcases ho with ho | ho <;> simp [execOp, ho]
theorem Y_pick {c x y : Operand} {b : Bool} (ho : o.op = .pick c x y) (hc : a.eval c = .bool b) (hψ : ψ (if b then a.eval x else a.eval y) w) : Y P o a w ψ := by
  refine Y_val (v := if b then a.eval x else a.eval y) ?_ hψ
  cases b <;> simp [execOp, ho, hc, asBool]
theorem Y_calls {f : FuncId} {args : Array Value} (h : (execOp a.eval o).run P w = .ok (.enter f args) w) (hc : Calls P f args w fun e w' => ∃ v, e = .returned v ∧ ψ v w' ∧ Ext w w') : Y P o a w ψ := by
  unfold Y Oper.wp
  rw [h]
  refine Calls.mono hc fun e w' he => ?_
  obtain ⟨v, rfl, h1, h2⟩ := he
  exact ⟨v, rfl, h1, h2⟩
theorem wanted_none {ops : Array Oper} (hg : o.guard = none) : Region.wanted o (yielded ops a.tmps) = true := by simp [Region.wanted, hg]
theorem wanted_some {ops : Array Oper} {j : Nat} {b c : Bool} {d : Tmp} (hg : o.guard = some (j, b)) (hs : slotOf ops j = some d) (hv : a.tmps.getD d undef = .bool c) : Region.wanted o (yielded ops a.tmps) = (c == b) := by
  have hd : a.tmps[d]? = some (.bool c) := by
    rw [Array.getD_eq_getD_getElem?] at hv
    cases h : a.tmps[d]? with
    | none => rw [h] at hv; cases hv
    | some x => rw [h] at hv; simpa using hv
  unfold slotOf at hs
  simp [Region.wanted, hg, yielded, hs, hd]
end

/-- reads as bytes -/
def IsB (l : List UInt8) (v : Value) (w : World) : Prop := ∃ A c, v = .slice A l.length c ∧ Bs w A c l
theorem IsB.ext {l : List UInt8} {v : Value} {w w' : World} (h : IsB l v w) (hx : Ext w w') : IsB l v w' := by
  obtain ⟨A, c, hv, hb⟩ := h
  exact ⟨A, c, hv, Sl.below hb hx⟩
theorem IsB.own {base : Nat} {e : TypeId} {l : List UInt8} {v : Value} {w : World} (h : w.ownsRow base e 1 v l.length (l.map bc)) : IsB l v w := by
  obtain ⟨A, c, hv, hs, _⟩ := Sl.of_own h
  exact ⟨A, c, hv, hs⟩
theorem IsB.calls {P : Program} {f : FuncId} {args : Array Value} {w : World} {e : TypeId} {l : List UInt8} (h : Calls P f args w fun en w' => ∃ v, en = .returned v ∧ w'.ownsRow w.heap.size e 1 v l.length (l.map bc) ∧ Below w.heap.size w w') :
    Calls P f args w fun en w' => ∃ v, en = .returned v ∧ IsB l v w' ∧ Ext w w' :=
  h.mono fun _ _ ⟨v, he, ho, hb⟩ => ⟨v, he, IsB.own ho, hb⟩
theorem Y_str {P : Program} {o : Oper} {a : Act} {w : World} {ψ : Value → World → Prop} {src dst e : TypeId} {x : Operand} {l : List UInt8} (ho : o.op = .convert src dst x) (hx : IsB l (a.eval x) w)
    (hs : P.underlying src = some (.slice e)) (he : P.underlying e = some (.int .u8)) (hd : P.underlying dst = some .string) (hψ : ψ (.string ⟨l.toArray⟩) w) : Y P o a w ψ := by
  obtain ⟨A, c, hv, hb⟩ := hx
  refine Y_val (v := .string ⟨l.toArray⟩) ?_ hψ
  simp [execOp, ho, hv, run_str hb src dst e hs he hd, Result.andThen]

/-- what is known of a value, and stays so while blocks are made -/
structure Fact where
  holds : Value → World → Prop
  ext : ∀ v w w', holds v w → Ext w w' → holds v w'
def Fact.val (x : Value) : Fact := ⟨fun v _ => v = x, fun _ _ _ h _ => h⟩
def Fact.bytes (l : List UInt8) : Fact := ⟨IsB l, fun _ _ _ h hx => h.ext hx⟩
def Fact.any : Fact := ⟨fun _ _ => True, fun _ _ _ _ _ => trivial⟩

/-- no operation but i, or one that waits for i, writes slot s -/
def restB (ops : Array Oper) (i s : Nat) : Bool := ops.toList.zipIdx.all fun (o, j) => o.dst != some s || (depsOf o).contains i || i == j

section
variable {P : Program} {ops : Array Oper} (F : List Fact) (wb : World) (a0 : Act)
/-- one operation: its dependencies hold, the other slots read are as they were -/
def Ask (P : Program) (ops : Array Oper) (i : Nat) (o : Oper) : Prop :=
  ∀ a w, Ext wb w → (∀ j d, (depsOf o).contains j = true → slotOf ops j = some d → (F.getD j Fact.any).holds (a.eval (.tmp d)) w) → (∀ s, restB ops i s = true → a.eval (.tmp s) = a0.eval (.tmp s)) →
    if Region.wanted o (yielded ops a.tmps) then Y P o a w (F.getD i Fact.any).holds else (F.getD i Fact.any).holds undef w
def Asks (P : Program) (ops : Array Oper) : Nat → List Oper → Prop
  | _, [] => True
  | k, o :: l => Ask F wb a0 P ops k o ∧ Asks P ops (k + 1) l
theorem asks_get {l : List Oper} : ∀ {k : Nat}, Asks F wb a0 P ops k l → ∀ i o, l[i]? = some o → Ask F wb a0 P ops (k + i) o := by
  induction l with
  | nil => intro k _ i o h; simp at h
  | cons x l ih =>
    intro k h i o ho
    cases i with
    | zero => simp at ho; subst ho; exact h.1
    | succ i =>
      have := ih h.2 i o (by simpa using ho)
      rwa [show k + 1 + i = k + (i + 1) from by omega] at this

theorem wp_region_asks {id : Nat} {Q : Exit → Act → World → Prop} {w : World} (hm : P.follows .mixedOrders = true) (hB : regionB ops = true)
    (hsl : ops.toList.all (fun o => o.dst.all (· < a0.tmps.size)) = true) (hw : Ext wb w) (hob : Asks F wb a0 P ops 0 ops.toList)
    (hfin : ∀ a' w', Ext wb w' → a'.defers = a0.defers → a'.tmps.size = a0.tmps.size → (∀ i d, slotOf ops i = some d → (F.getD i Fact.any).holds (a'.eval (.tmp d)) w') →
      (∀ s, ops.toList.all (fun o => o.dst != some s) = true → a'.eval (.tmp s) = a0.eval (.tmp s)) → Q .normal a' w') : (Code.region id ops true).wp P Q a0 w := by
  refine wp_region_facts (fun i => (F.getD i Fact.any).holds) (fun w => Ext wb w) a0 hm hB ?_ (fun i v w w' h hx => Fact.ext _ _ _ _ h hx) (fun _ _ h hx => Ext.trans h hx) (Ext.trans hw (Ext.drew w)) ?_ ?_
  · intro i d hd
    rw [slotOf] at hd
    cases ho : ops[i]? with
    | none => rw [ho] at hd; cases hd
    | some o =>
      rw [ho] at hd
      have h1 := List.all_eq_true.1 hsl o (List.mem_iff_getElem?.2 ⟨i, by simpa using ho⟩)
      rw [show o.dst = some d from hd] at h1
      simpa using h1
  · intro i o ho a w hc _ hdeps hrest
    have h := asks_get F wb a0 hob i o (by simpa using ho)
    rw [Nat.zero_add] at h
    refine h a w hc (fun j d hj hd => hdeps j (by simpa using hj) d hd) (fun s hs => hrest s fun j oj hoj hdj => ?_)
    have h1 := List.all_eq_true.1 hs (oj, j) (List.mem_zipIdx_iff_getElem?.2 (by simpa using hoj))
    simp only [hdj, bne_self_eq_false, Bool.false_or, Bool.or_eq_true, beq_iff_eq] at h1
    rcases h1 with h1 | h1
    · exact .inl (by simpa using h1)
    · exact .inr h1
  · intro a' w' hc hd hsz hf hr
    refine hfin a' w' hc hd hsz hf fun s hs => hr s fun i hi => ?_
    rw [slotOf] at hi
    cases ho : ops[i]? with
    | none => rw [ho] at hi; cases hi
    | some o =>
      rw [ho] at hi
      have h1 := List.all_eq_true.1 hs o (List.mem_iff_getElem?.2 ⟨i, by simpa using ho⟩)
      rw [show o.dst = some s from hi] at h1
      simp at h1
end
end Go.Proofs.Ytomdplbdndadcaa
