import Derived.Test.YtigcfbpgbenabaaMem
import Derived.DeepKeys5
/- Arrays of bytes as values: how they read as keys, and how they compare. -/
namespace Go.Proofs.Ytigcfbpgbenabaa
open Go.RowKit

/-- an array of bytes, as cells -/
def dg (l : List UInt8) : Array Value := (l.map bc).toArray
theorem dg_size (l : List UInt8) : (dg l).size = l.length := by simp [dg]
theorem dg_list (l : List UInt8) : (dg l).toList = l.map bc := by simp [dg]
theorem dg_one (l : List UInt8) : (dg l).all (·.oneCell') = true := by
  rw [← Array.all_toList, dg_list, List.all_eq_true]
  exact bytes_one l
theorem dg_inj {a b : List UInt8} (h : dg a = dg b) : a = b := by
  have h1 : a.map bc = b.map bc := by rw [← dg_list, ← dg_list, h]
  have hi : ∀ x y : UInt8, bc x = bc y → x = y := by
    intro x y hxy
    simp only [bc, Value.int.injEq, true_and] at hxy
    rw [← UInt8.toNat_inj]; omega
  induction a generalizing b with
  | nil => cases b with
    | nil => rfl
    | cons y b => simp at h1
  | cons x a ih => cases b with
    | nil => simp at h1
    | cons y b =>
      simp only [List.map_cons, List.cons.injEq] at h1
      rw [hi x y h1.1, ih (b := b) (by rw [dg, dg, h1.2]) h1.2]

theorem wf_byte (b : UInt8) : (Lit.int .u8 (b.toNat : Int)).wf = true := by
  have := b.toNat_lt
  exact WalkArith.wf_u8 (by omega)

theorem mapM_of {α β : Type} (f : α → Option β) (h : α → β) : ∀ (L : List α), (∀ x ∈ L, f x = some (h x)) → L.mapM f = some (L.map h)
  | [], _ => rfl
  | x :: L, hx => by
    rw [List.mapM_cons, hx x (List.mem_cons_self ..), mapM_of f h L (fun y hy => hx y (List.mem_cons_of_mem _ hy))]
    rfl
theorem flat_one {α β : Type} (h : α → β) : ∀ L : List α, (L.map fun x => [h x]).flatten = L.map h
  | [] => rfl
  | x :: L => by simp [flat_one h L]
theorem range_get {β : Type} (g : UInt8 → β) (l : List UInt8) : (List.range l.length).map (fun i => g (l.getD i 0)) = l.map g := by
  apply List.ext_getElem
  · simp
  · intro i h1 h2
    have : i < l.length := by simpa using h1
    simp [List.getD, this]

section
variable {P : Program} {t e : TypeId} {N : Nat}
theorem dg_key (ht : P.underlying t = some (.array N e)) (he : P.underlying e = some (.int .u8)) (hct : P.cellsOf t = N) (hce : P.cellsOf e = 1) (hk : P.keyType t = true) (hs : 0 < P.types.size) {l : List UInt8} (hl : l.length = N) :
    keyOf P t (.agg (dg l)) = some (.string l) := by
  obtain ⟨s, hss⟩ : ∃ s, P.types.size = s + 1 := ⟨P.types.size - 1, by omega⟩
  have hf : Value.formed P t (.agg (dg l)) = true := by simp [Value.formed, ht, hct, dg_size, hl]
  have hL : P.keyLits (P.types.size + 1) t (dg l).toList = some (l.map fun b => Lit.int .u8 (b.toNat : Int)) := by
    rw [hss, dg_list]
    have hm := mapM_of (fun i => P.keyLits (s + 1) e (((l.map bc).drop (i * P.cellsOf e)).take (P.cellsOf e))) (fun i => [Lit.int .u8 ((l.getD i 0).toNat : Int)]) (List.range N) (by
      intro i hi
      have hi : i < l.length := by rw [hl]; exact List.mem_range.1 hi
      have e1 : ((l.map bc).drop (i * P.cellsOf e)).take (P.cellsOf e) = [bc (l.getD i 0)] := by
        rw [hce, Nat.mul_one, List.drop_eq_getElem_cons (by simpa using hi)]
        simp [List.getD, hi]
      rw [e1]
      simp only [Program.keyLits, he, bc]
      rw [if_pos ⟨trivial, wf_byte _⟩])
    have hu : P.keyLits (s + 1 + 1) t (l.map bc) = if (l.map bc).length = P.cellsOf t then ((List.range N).mapM fun i => P.keyLits (s + 1) e (((l.map bc).drop (i * P.cellsOf e)).take (P.cellsOf e))).map List.flatten else none := by
      rw [Program.keyLits]
      exact ht
    rw [hu, if_pos (by rw [List.length_map, hl, hct]), hm, Option.map_some, flat_one, ← hl, range_get (fun b => Lit.int .u8 (b.toNat : Int))]
  have hb : keyBytes (l.map fun b => Lit.int .u8 (b.toNat : Int)) = l := by
    clear hL hf hl
    induction l with
    | nil => rfl
    | cons b l ih =>
      rw [List.map_cons, keyBytes, List.flatMap_cons]
      rw [keyBytes] at ih
      rw [ih]
      have : Lit.keyBytes (.int .u8 (b.toNat : Int)) = [b] := by
        simp only [Lit.keyBytes, IntKind.bits, bytesBE, bytesLE]
        have := b.toNat_lt
        simp
        rw [← UInt8.toNat_inj]
        simp [UInt8.toNat_ofNat']
        omega
      rw [this]; rfl
  unfold keyOf
  rw [ht]
  simp only [hk, hf, Bool.and_self, if_true]
  rw [show (Value.agg (dg l)).cells = dg l from rfl, hL, Option.map_some, hb]

/-- two arrays of bytes compare as their lists do -/
theorem dg_eql (ht : P.underlying t = some (.array N e)) (he : P.underlying e = some (.int .u8)) (hct : P.cellsOf t = N) (hce : P.cellsOf e = 1) (hk : P.keyType t = true) (hkm : P.keyTypeAt 3 t = true) (hs : 0 < P.types.size)
    {a b : List UInt8} (ha : a.length = N) (hb : b.length = N) (w : World) :
    (Op.equalIn 10000 t (.agg (dg a)) (.agg (dg b))).run P w = .ok (a == b) w := by
  obtain ⟨r, hr, hiff⟩ := run_equal_deep (P := P) w (m := 3) (by omega) (k := t) hkm (by rw [ht]) (dg_key ht he hct hce hk hs ha) (dg_key ht he hct hce hk hs hb)
  have : r = (a == b) := by
    rw [Bool.eq_iff_iff, hiff, beq_iff_eq, Lit.string.injEq]
  rw [← this]
  exact hr
end
end Go.Proofs.Ytigcfbpgbenabaa
