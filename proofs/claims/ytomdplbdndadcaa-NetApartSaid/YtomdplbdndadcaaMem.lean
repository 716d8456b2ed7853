import Derived.WalkKit
import Derived.WalkLawsBesides
import Derived.Maps.AppendAt
import Derived.Deep.AppendLies
import Derived.Deep.Draws
import Derived.OwnWalk
import Derived.Lib.Hide
/- Words on memory that all walks of this seat share: a slice that reads as a list, and stays readable while other blocks change. -/
namespace Go.Proofs.Ytomdplbdndadcaa
open Go.RowKit

theorem blk_add (a : Addr) (n : Nat) : (a.add n).block = a.block := by unfold Addr.add; split <;> rfl
theorem add_add (a : Addr) (i j : Nat) : (a.add i).add j = a.add (i + j) := by
  unfold Addr.add
  by_cases hi : i = 0 <;> by_cases hj : j = 0 <;> simp [hi, hj, Nat.add_assoc]

/-- A byte as the value of one cell. -/
def bc (b : UInt8) : Value := .int .u8 (b.toNat : Int)

/-- The slice value '.slice A n c' reads as the cells cs (sz cells an element). -/
structure Sl (w : World) (A : Option Addr) (n c sz : Nat) (cs : List Value) : Prop where
  len : cs.length = n * sz
  le : n ≤ c
  max : c ≤ maxLen
  nul : A = none → n = 0 ∧ c = 0
  cell : ∀ a, A = some a → ∀ j u, cs[j]? = some u → w.cell? (a.add j) = some u

section
variable {w w' : World} {A : Option Addr} {n c sz : Nat} {cs : List Value}
theorem Sl.nil (w : World) (sz : Nat) : Sl w none 0 0 sz [] := ⟨by simp, Nat.le_refl _, by simp [maxLen], fun _ => ⟨rfl, rfl⟩, (fun _ h => by cases h)⟩
theorem Sl.keep (h : Sl w A n c sz cs) (hk : ∀ a, A = some a → a.block < w.heap.size → w'.heap[a.block]? = w.heap[a.block]?) : Sl w' A n c sz cs :=
  ⟨h.len, h.le, h.max, h.nul, fun a ha j u hu => by
    have h1 := h.cell a ha j u hu
    have h2 := World.block_lt_of_cell? w _ h1
    rw [blk_add] at h2
    rw [World.cell?_of_block (w := w) (by rw [blk_add]; exact hk a ha h2)]; exact h1⟩
theorem Sl.below (h : Sl w A n c sz cs) (hb : Below w.heap.size w w') : Sl w' A n c sz cs := h.keep fun _ _ hl => hb.block _ hl
theorem Sl.grown {row : Option Nat} (h : Sl w A n c sz cs) (hg : w.grownBy w' row) (hr : ∀ a, A = some a → some a.block ≠ row) : Sl w' A n c sz cs :=
  h.keep fun a ha hl => hg.block _ hl (hr a ha)
theorem Sl.alloc (h : Sl w A n c sz cs) (o : Obj) : Sl (w.alloc o) A n c sz cs := h.keep fun _ _ hl => Below.heap_alloc w o _ hl
theorem Sl.drewN (h : Sl w A n c sz cs) (k : Nat) : Sl (w.drewN k) A n c sz cs := h.keep fun _ _ _ => rfl
theorem Sl.drew (h : Sl w A n c sz cs) : Sl w.drew A n c sz cs := h.keep fun _ _ _ => rfl
theorem Sl.setCell (h : Sl w A n c sz cs) (p : Addr) (u : Value) (hp : ∀ a, A = some a → a.block ≠ p.block) : Sl (w.setCell p u) A n c sz cs :=
  h.keep fun a ha _ => Below.heap_setCell w p u _ (hp a ha)
/-- an own row reads -/
theorem Sl.of_own {base : Nat} {e : TypeId} {v : Value} (h : w.ownsRow base e sz v n cs) : ∃ A c, v = .slice A n c ∧ Sl w A n c sz cs ∧ ∀ a, A = some a → base ≤ a.block := by
  obtain ⟨h1, h2⟩ := h
  rcases h2 with ⟨rfl, rfl⟩ | ⟨g, cap, cur, rfl, hb, hg, hnc, hcm, hcs, htake⟩
  · have : cs = [] := List.eq_nil_of_length_eq_zero (by simpa using h1)
    subst this
    exact ⟨none, 0, rfl, Sl.nil _ _, fun _ h => by cases h⟩
  · have hh : w.ownsRow base e sz (.slice (some ⟨g, 0, none⟩) n cap) n cs := ⟨h1, .inr ⟨g, cap, cur, rfl, hb, hg, hnc, hcm, hcs, htake⟩⟩
    refine ⟨some ⟨g, 0, none⟩, cap, rfl, ⟨h1, hnc, hcm, (fun h => by cases h), ?_⟩, ?_⟩
    · rintro a ⟨⟩; exact hh.cells (g := g) rfl
    · rintro a ⟨⟩; exact hb
/-- a cut of what reads -/
theorem Sl.cut (h : Sl w A n c sz cs) {lo hi : Nat} (h1 : lo ≤ hi) (h2 : hi ≤ n) :
    Sl w (if c = lo then A else A.map (·.add (lo * sz))) (hi - lo) (c - lo) sz ((cs.take (hi * sz)).drop (lo * sz)) := by
  have hle := h.le
  refine ⟨?_, by omega, by have := h.max; omega, ?_, ?_⟩
  · have h3 : hi * sz ≤ n * sz := Nat.mul_le_mul_right _ h2
    rw [List.length_drop, List.length_take, h.len, Nat.sub_mul]
    omega
  · intro hn
    split at hn
    · have := h.nul hn; omega
    · cases A with
      | none => have := h.nul rfl; omega
      | some a => simp at hn
  · intro a ha j u hu
    have hj : j < ((cs.take (hi * sz)).drop (lo * sz)).length := by
      rcases Nat.lt_or_ge j ((cs.take (hi * sz)).drop (lo * sz)).length with h | h
      · exact h
      · rw [List.getElem?_eq_none h] at hu; cases hu
    have hlen := h.len
    split at ha
    · rename_i hc
      have : lo = hi := by omega
      subst this
      simp at hj
    · cases A with
      | none => simp at ha
      | some b =>
        simp at ha
        subst ha
        rw [add_add]
        refine h.cell b rfl _ u ?_
        rw [List.getElem?_drop, List.getElem?_take] at hu
        split at hu
        · exact hu
        · cases hu
end

/-- Bytes: the slice value '.slice A l.length c' reads as the bytes l. -/
def Bs (w : World) (A : Option Addr) (c : Nat) (l : List UInt8) : Prop := Sl w A l.length c 1 (l.map bc)

theorem bytes_one (l : List UInt8) : ∀ u ∈ l.map bc, u.oneCell' = true := by
  intro u hu
  obtain ⟨b, _, rfl⟩ := List.mem_map.1 hu
  rfl

section
variable {P : Program} (w : World)
theorem run_append_none (base : Nat) (t ty e : TypeId) (i : TypeInfo) (size : Nat) (ht : P.underlying t = some (.slice e)) (hi : P.info? e = some i)
    (v : Value) (n : Nat) (xs : List Value) (hown : w.ownsRow base e size v n xs) (c : Nat) : (Builtin.append_ #[t, t] ty #[v, .slice none 0 c]).run P w = .ok v w := by
  rcases hown.2 with ⟨rfl, rfl⟩ | ⟨g, cap, cur, rfl, _, _, hnc, _⟩
  · simp [Builtin.append_, run_underlying ht, sizeOf, typeInfo, hi, Builtin.lenOf, Builtin.firstCells]
  · simp [Builtin.append_, run_underlying ht, sizeOf, typeInfo, hi, Builtin.lenOf, Builtin.firstCells, hnc, storeCells]

/-- append onto a row of the call's own, of whatever reads. -/
theorem run_append_sl (base : Nat) (t ty e : TypeId) (i : TypeInfo) (z : Value) (size bytes : Nat) (ht : P.underlying t = some (.slice e)) (hi : P.info? e = some i) (hz : i.zero = some z)
    (hsize : i.size = size) (hby : i.bytes = bytes) (hzs : z.cells.size = size) (hsz : 0 < size)
    (v : Value) (n : Nat) (xs : List Value) (hown : w.ownsRow base e size v n xs)
    (A : Option Addr) (m c : Nat) (news : List Value) (hr : Sl w A m c size news) (h1 : ∀ u ∈ news, u.oneCell' = true)
    (h63 : n + m ≤ maxLen) (hbytes : (n + m) * bytes ≤ 140737488355328) (hbase : base ≤ w.heap.size) :
    ∃ v' w', (Builtin.append_ #[t, t] ty #[v, .slice A m c]).run P w = .ok v' w' ∧ w'.ownsRow base e size v' (n + m) (xs ++ news) ∧ w.grownBy w' v.ownBlock ∧
      (v'.ownBlock = v.ownBlock ∨ v'.ownBlock = some w.heap.size) := by
  cases A with
  | none =>
    obtain ⟨rfl, rfl⟩ := hr.nul rfl
    have hn : news = [] := List.eq_nil_of_length_eq_zero (by simpa using hr.len)
    subst hn
    exact ⟨v, w, run_append_none w base t ty e i size ht hi v n xs hown 0, by simpa using hown, World.grownBy.refl w _, .inl rfl⟩
  | some ad =>
    obtain ⟨v', w', hrun, h2, h3, _, h5⟩ := run_append_own_at (P := P) w base t ty e i z size bytes ht hi hz hsize hby hzs hsz v n xs hown ad m c news hr.len (hr.cell ad rfl) h1 h63 hbytes hbase
    exact ⟨v', w', hrun, h2, h3, h5⟩

theorem wpList_append_sl {ops : Array Oper} {rest : List Oper} {o : Oper} {a : Act} {Q : Exit → Act → World → Prop} (hgd : o.guard = none) (s x : Operand) (t : TypeId)
    (ho : o.op = .call { callee := .builtin .append, args := #[s, x], argTypes := #[t, t] })
    (base : Nat) (e : TypeId) (i : TypeInfo) (z : Value) (size bytes : Nat) (ht : P.underlying t = some (.slice e)) (hi : P.info? e = some i) (hz : i.zero = some z)
    (hsize : i.size = size) (hby : i.bytes = bytes) (hzs : z.cells.size = size) (hsz : 0 < size)
    (v : Value) (n : Nat) (xs : List Value) (hs : a.eval s = v) (hown : w.ownsRow base e size v n xs)
    (A : Option Addr) (m c : Nat) (news : List Value) (hx : a.eval x = .slice A m c) (hr : Sl w A m c size news) (h1 : ∀ u ∈ news, u.oneCell' = true)
    (h63 : n + m ≤ maxLen) (hbytes : (n + m) * bytes ≤ 140737488355328) (hbase : base ≤ w.heap.size)
    (h : ∀ v' w', w'.ownsRow base e size v' (n + m) (xs ++ news) → w.grownBy w' v.ownBlock → (v'.ownBlock = v.ownBlock ∨ v'.ownBlock = some w.heap.size) → wpList P ops Q rest (a.put o.dst v') w') : wpList P ops Q (o :: rest) a w :=
  wpList_plain hgd fun _ hK => by
    obtain ⟨v', w', hrun, h2, h3, h4⟩ := run_append_sl (P := P) w base t o.type e i z size bytes ht hi hz hsize hby hzs hsz v n xs hown A m c news hr h1 h63 hbytes hbase
    unfold Oper.wp execOp
    simp only [ho, resolve, invoke, builtin, Sem.run_bind, Sem.run_pure, Result.andThen_ok, List.map_toArray, List.map_cons, List.map_nil, hs, hx, hrun]
    exact hK _ _ (h v' w' h2 h3 h4)
end

/-- one new cell reads -/
theorem Sl.one (w : World) (x : Value) (t : TypeId) : Sl (w.alloc (.cells #[x] t)) (some ⟨w.heap.size, 0, none⟩) 1 1 1 [x] :=
  ⟨rfl, Nat.le_refl _, by simp [maxLen], (fun h => by cases h), (by rintro a ⟨⟩; exact cell_one_new w x t)⟩

section
variable {P : Program} {w : World}
/-- string(b) -/
theorem run_str {A : Option Addr} {c : Nat} {l : List UInt8} (h : Bs w A c l) (src dst e : TypeId) (hs : P.underlying src = some (.slice e)) (he : P.underlying e = some (.int .u8)) (hd : P.underlying dst = some .string) :
    (convert src dst (.slice A l.length c)).run P w = .ok (.string ⟨l.toArray⟩) w := by
  cases A with
  | none =>
    obtain ⟨h0, rfl⟩ := h.nul rfl
    have : l = [] := List.eq_nil_of_length_eq_zero h0
    subst this
    exact run_convert_bytes_nil w src e hs he 0 0 dst hd
  | some a =>
    refine run_convert_bytes_back w src dst e a c l hs he hd ?_
    intro j hj
    exact h.cell a rfl j (bc l[j]) (by simp [hj])
end
end Go.Proofs.Ytomdplbdndadcaa
