import Derived.Test.YtigcfbpgbenabaaMem
import Derived.Test.YtigcfbpgbenabaaDig
import Derived.Test.YtigcfbpgbenabaaReg
import Derived.Deep.MidRow
import Derived.WalkKit
import Derived.Lib.Hide
import Derived.Test.YtigcfbpgbenabaaProg
/- Slices whose elements are digests: 32 cells each. -/
namespace Go.Proofs.Ytigcfbpgbenabaa
open Go.RowKit

def cellsD (L : List (List UInt8)) : List Value := L.flatMap (·.map bc)
theorem cellsD_cons (d : List UInt8) (L : List (List UInt8)) : cellsD (d :: L) = d.map bc ++ cellsD L := by simp [cellsD]
theorem cellsD_append (L M : List (List UInt8)) : cellsD (L ++ M) = cellsD L ++ cellsD M := by simp [cellsD]
theorem cellsD_length : ∀ {L : List (List UInt8)}, (∀ d ∈ L, d.length = 32) → (cellsD L).length = L.length * 32
  | [], _ => rfl
  | d :: L, h => by
    rw [cellsD_cons, List.length_append, List.length_map, h d (List.mem_cons_self ..), cellsD_length (fun e he => h e (List.mem_cons_of_mem _ he)), List.length_cons, Nat.add_mul]
    omega
theorem cellsD_take : ∀ {L : List (List UInt8)} (k : Nat), (∀ d ∈ L, d.length = 32) → cellsD (L.take k) = (cellsD L).take (k * 32)
  | [], k, _ => by simp [cellsD]
  | d :: L, 0, _ => by simp [cellsD]
  | d :: L, k + 1, h => by
    have hd : (d.map bc).length = 32 := by simpa using h d (List.mem_cons_self ..)
    have e : (k + 1) * 32 = (d.map bc).length + k * 32 := by omega
    rw [List.take_succ_cons, cellsD_cons, cellsD_cons, e, List.take_length_add_append, cellsD_take k (fun e he => h e (List.mem_cons_of_mem _ he))]
theorem cellsD_drop : ∀ {L : List (List UInt8)} (k : Nat), (∀ d ∈ L, d.length = 32) → cellsD (L.drop k) = (cellsD L).drop (k * 32)
  | [], k, _ => by simp [cellsD]
  | d :: L, 0, _ => by simp
  | d :: L, k + 1, h => by
    have hd : (d.map bc).length = 32 := by simpa using h d (List.mem_cons_self ..)
    have e : (k + 1) * 32 = (d.map bc).length + k * 32 := by omega
    rw [List.drop_succ_cons, cellsD_cons, e, List.drop_length_add_append, cellsD_drop k (fun e he => h e (List.mem_cons_of_mem _ he))]
theorem cellsD_get {L : List (List UInt8)} (h : ∀ d ∈ L, d.length = 32) {i : Nat} (hi : i < L.length) {j : Nat} {u : Value} (hu : (L[i].map bc)[j]? = some u) : (cellsD L)[i * 32 + j]? = some u := by
  have h1 := cellsD_drop i h
  rw [List.drop_eq_getElem_cons hi, cellsD_cons] at h1
  have hj : j < (L[i].map bc).length := (List.getElem?_eq_some_iff.1 hu).1
  rw [← List.getElem?_drop, ← h1, List.getElem?_append_left hj]
  exact hu
theorem cellsD_one (L : List (List UInt8)) : ∀ u ∈ cellsD L, u.oneCell' = true := by
  intro u hu
  obtain ⟨d, _, hd⟩ := List.mem_flatMap.1 hu
  exact bytes_one d u hd

/-- the slice value '.slice A L.length c' reads as the digests L -/
structure Ds (w : World) (A : Option Addr) (c : Nat) (L : List (List UInt8)) : Prop where
  sl : Sl w A L.length c 32 (cellsD L)
  ok : ∀ d ∈ L, d.length = 32

section
variable {w w' : World} {A : Option Addr} {c : Nat} {L : List (List UInt8)}
theorem Ds.keep (h : Ds w A c L) (hk : ∀ a, A = some a → a.block < w.heap.size → w'.heap[a.block]? = w.heap[a.block]?) : Ds w' A c L := ⟨h.sl.keep hk, h.ok⟩
theorem Ds.below (h : Ds w A c L) (hb : Below w.heap.size w w') : Ds w' A c L := ⟨h.sl.below hb, h.ok⟩
theorem Ds.drew (h : Ds w A c L) : Ds w.drew A c L := ⟨h.sl.drew, h.ok⟩
theorem Ds.alloc (h : Ds w A c L) (o : Obj) : Ds (w.alloc o) A c L := ⟨h.sl.alloc o, h.ok⟩
theorem Ds.nil (w : World) : Ds w none 0 [] := ⟨Sl.nil _ _, fun _ h => by cases h⟩
/-- where the elements lie -/
theorem Ds.range (h : Ds w A c L) (h0 : 0 < L.length) : ∃ b o, A = some ⟨b, o, none⟩ ∧ ∀ i (hi : i < L.length), w.rangeAt b (o + i * 32) (L[i].map bc) := by
  cases A with
  | none => have := (h.sl.nul rfl).1; omega
  | some a =>
    have hg : ∀ i (hi : i < L.length) j u, (L[i].map bc)[j]? = some u → w.cell? (a.add (i * 32 + j)) = some u := fun i hi j u hu => h.sl.cell a rfl (i * 32 + j) u (cellsD_get h.ok hi hu)
    have hl0 := h.ok L[0] (List.getElem_mem h0)
    have hs := World.cell?_spot (hg 0 h0 0 (bc (L[0][0]'(by omega))) (by rw [List.getElem?_map, List.getElem?_eq_getElem (by omega)]; rfl))
    obtain ⟨b, o, s⟩ := a
    have : s = none := by simpa [Addr.add] using hs
    subst this
    refine ⟨b, o, rfl, fun i hi j u hu => ?_⟩
    have := hg i hi j u hu
    rw [Addr.add_mid] at this
    rwa [Nat.add_assoc]
/-- a cut -/
theorem Ds.cut (h : Ds w A c L) {lo hi : Nat} (h1 : lo ≤ hi) (h2 : hi ≤ L.length) : Ds w (if c = lo then A else A.map (·.add (lo * 32))) (c - lo) ((L.take hi).drop lo) := by
  refine ⟨?_, fun d hd => h.ok d (List.mem_of_mem_take (List.mem_of_mem_drop hd))⟩
  have h3 := h.sl.cut h1 h2
  have hlen : ((L.take hi).drop lo).length = hi - lo := by simp; omega
  rw [hlen, cellsD_drop lo (fun d hd => h.ok d (List.mem_of_mem_take hd)), cellsD_take hi h.ok]
  exact h3
end

theorem dig_info : (Try.prog.info? 49).map (fun i => (i.size, i.bytes)) = some (32, 32) := by kernel_rfl
/-- a load of an element -/
theorem load_dig {w : World} {b o : Nat} {d : List UInt8} (hd : d.length = 32) (h : w.rangeAt b o (d.map bc)) : (Instr.loadAt 49 (.pointer (some ⟨b, o, none⟩))).run Try.prog w = .ok (.agg (dg d)) w :=
  run_loadAt_mid w b o 49 (d.map bc) _ h Try.underlying49 rfl (by rw [List.length_map, hd]; kernel_rfl)
theorem dig_eq {a b : List UInt8} (ha : a.length = 32) (hb : b.length = 32) (w : World) : (Op.equalIn 10000 49 (.agg (dg a)) (.agg (dg b))).run Try.prog w = .ok (a == b) w :=
  dg_eql Try.underlying49 Try.underlying5 (by kernel_rfl) (by kernel_rfl) (by kernel_rfl) (by kernel_rfl) (of_decide_eq_true (by kernel_rfl)) ha hb w
end Go.Proofs.Ytigcfbpgbenabaa
