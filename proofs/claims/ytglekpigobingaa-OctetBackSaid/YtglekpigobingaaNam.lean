import Derived.Test.YtglekpigobingaaOctJ
import Derived.Test.YtglekpigobingaaOctF
import Derived.Test.YtglekpigobingaaReg
import Derived.Test.YtglekpigobingaaNil
import Derived.Laws.CopyOwn
namespace Go.Proofs.Ytglekpigobingaa
open Go.RowKit

theorem Rdr.keep2 {w w' : World} {g : Nat} {A : Option Addr} {c : Nat} {bs : List UInt8} {p e : Nat} (h : Rdr w g A c bs p e) {row : Option Nat} (hg : w.grownBy w' row) (h1 : some g ≠ row) (h2 : ∀ a, A = some a → a.block < w.heap.size → some a.block ≠ row) : Rdr w' g A c bs p e :=
  ⟨(hg.block g h.lt h1).trans h.blk, h.bytes.keep (fun a ha hl => hg.block _ hl (h2 a ha hl)), h.le, h.ne⟩
theorem Rdr.ext {w w' : World} {g : Nat} {A : Option Addr} {c : Nat} {bs : List UInt8} {p e : Nat} (h : Rdr w g A c bs p e) (hx : Ext w w') : Rdr w' g A c bs p e := h.keep2 (below_grown (row := none) hx) (by simp) (fun _ _ _ => by simp)

theorem wpList_load_row_g {P : Program} {ops : Array Oper} {rest : List Oper} {o : Oper} {a : Act} {w : World} {Q : Exit → Act → World → Prop} (hw : Region.wanted o (yielded ops a.tmps) = true) (ty : TypeId) (x : Operand) (ho : o.op = .load ty x)
    (g : Nat) (hx : a.eval x = .pointer (some ⟨g, 0, none⟩)) (t : TypeId) (cs : Array Value) (fr : Nat × Nat) (d : TypeDesc) (hg : w.heap[g]? = some (.cells cs t fr))
    (hu : P.underlying ty = some d) (hd : (match d with | .struct _ | .array _ _ => true | _ => false) = true) (hi : (P.info? ty).map (·.size) = some cs.size)
    (h : wpList P ops Q rest (a.put o.dst (.agg cs)) w) : wpList P ops Q (o :: rest) a w := by
  simp only [wpList, hw, if_true]
  first | exact .inl (wp_load_row ty x ho g hx t cs fr d hg hu hd hi h) | exact wp_load_row ty x ho g hx t cs fr d hg hu hd hi h

def nb : List UInt8 := [5, 1, 2, 3, 4, 5, 6, 7, 8, 1, 97, 9]
theorem nb1 : numR ⟨nb, 0, 0⟩ = (⟨nb, 1, 0⟩, 5) := by kernel_rfl
theorem nb2 : wordR ⟨nb, 1, 0⟩ (ksize 8) = (⟨nb, 9, 0⟩, 578437695752307201) := by kernel_rfl
theorem nb3 : blockR ⟨nb, 9, 0⟩ = (⟨nb, 11, 0⟩, [97]) := by kernel_rfl
theorem nb4 : endR ⟨nb, 11, 0⟩ = 4 := by kernel_rfl
theorem ns1 : digR ⟨[], 0, 0⟩ = (⟨[], 0, 5⟩, List.replicate 32 0) := by kernel_rfl
theorem ns2 : endR ⟨[], 0, 5⟩ = 5 := by kernel_rfl
theorem wd1 : word (ksize 2) 258 = [2, 1] := by kernel_rfl
theorem wd2 : (word (ksize 0) 1).length = 1 := by kernel_rfl
theorem wd3 : (word (ksize 99) 1).length = 8 := by kernel_rfl

set_option maxHeartbeats 2000000 in
theorem names_walk (w : World) : Calls Try.prog 6 #[] w fun e w' => e = .returned (.bool true) ∧ Below w.heap.size w w' := by
  go_enter Try.func6, Try.ntmps6
  go_wp2_with fail
  refine (read_any _ 12 nb _ (Bs.lit w nb 5 (by simp [nb])) (by simp [nb])).mono ?_
  rintro e w1 ⟨g1, A1, c1, rfl, hg1, h1, hA1, hb1⟩
  have x1 : Ext w w1 := ((Below.refl _ w).alloc (Nat.le_refl _) _).trans (hb1.mono (by simp))
  simp only [World.size_alloc] at hg1 hA1
  clear hb1
  go_wp2_with fail
  refine (rnum_any g1 A1 c1 ⟨nb, 0, 0⟩ _ h1).mono ?_
  rw [nb1]
  rintro e w2 ⟨rfl, h2, hgr2⟩
  have x2 : Ext w w2 := x1.grown hgr2 x1.size (fun k hk => by simp at hk; omega)
  go_wp2_with fail
  refine (rword_any g1 A1 c1 ⟨nb, 1, 0⟩ 8 _ h2).mono ?_
  rw [nb2]
  rintro e w3 ⟨rfl, h3, hgr3⟩
  have x3 : Ext w w3 := x2.grown hgr3 x2.size (fun k hk => by simp at hk; omega)
  go_wp2_with fail
  refine (rblock_any g1 A1 c1 ⟨nb, 9, 0⟩ _ h3 (by simp [nb])).mono ?_
  rw [nb3]
  rintro e w4 ⟨A4, c4, rfl, h4, hgr4, hb4, hge4⟩
  have x4 : Ext w w4 := x3.grown hgr4 x3.size (fun k hk => by simp at hk; omega)
  go_wp2_with fail
  refine (left_any g1 A1 c1 nb 11 0 _ h4).mono ?_
  rw [show nb.length - 11 = 1 from rfl]
  rintro e w' ⟨rfl, n1, rfl⟩
  go_wp2_with fail
  refine (rend_any g1 A1 c1 ⟨nb, 11, 0⟩ _ (h4.drewN n1)).mono ?_
  rw [nb4]
  rintro e w' ⟨rfl, n2, rfl⟩
  go_wp2_with fail
  refine (read_any none 0 [] _ (Sl.nil _ _) (by simp)).mono ?_
  rintro e w5 ⟨g2, A2, c2, rfl, hg2, h5, hA2, hb5⟩
  have x45 : Ext w4 w5 := ⟨hb5.os, hb5.tape, hb5.output, hb5.size, hb5.block⟩
  have h1a := h4.ext x45
  have hb5' : Bs w5 A4 c4 [97] := Sl.below hb4 x45
  have hlt4 : ∀ a, A4 = some a → a.block < w4.heap.size := fun a ha => hb4.lt ha (by simp)
  have hlt1 : ∀ a, A1 = some a → a.block < w4.heap.size := fun a ha => h4.bytes.lt ha (by simp [nb])
  have x5 : Ext w w5 := x4.trans x45
  have l1 := h4.lt
  have hg12 : g1 ≠ g2 := by simp at hg2; omega
  clear hb5 hb4
  obtain ⟨D, hD⟩ : ∃ D, D = dg (List.replicate 32 0) := ⟨_, rfl⟩
  have HD := Lib.hid hD
  clear hD
  go_wp2_with fail
  refine (rdigest_any g2 A2 c2 ⟨[], 0, 0⟩ _ h5).mono ?_
  rw [ns1]
  simp only [← HD.out]
  rintro e w6 ⟨rfl, h6, hgr6⟩
  simp only [World.heap_drewN] at hg2
  have h1b := h1a.keep2 hgr6 (by simp; omega) (fun a ha _ => by have := hlt1 a ha; simp; omega)
  have hb6 : Bs w6 A4 c4 [97] := hb5'.keep fun a ha hl => hgr6.block _ hl (by have := hlt4 a ha; simp; omega)
  have x6 : Ext w w6 := x5.grown hgr6 x5.size (fun k hk => by have := x4.size; simp at hk; omega)
  have hds : D.size = 32 := by rw [HD.out, dg_size]; simp
  have hda : D.all (·.oneCell') = true := by rw [HD.out]; exact dg_one _
  have HDS := Lib.hid hds
  have HDA := Lib.hid hda
  clear hds hda
  go_wp2_with (refine wpList_store_row rfl 38 _ _ rfl w6.heap.size D rfl rfl _ _ (heap_alloc_new _ _) (by rw [HDS.out]; kernel_rfl) (by rw [HDS.out]; rfl) HDA.out ?_)
  have hblk7 := setRow_heap (w6.alloc (.cells #[.int .u8 0, .int .u8 0, .int .u8 0, .int .u8 0, .int .u8 0, .int .u8 0, .int .u8 0, .int .u8 0, .int .u8 0, .int .u8 0, .int .u8 0, .int .u8 0, .int .u8 0, .int .u8 0, .int .u8 0, .int .u8 0, .int .u8 0, .int .u8 0, .int .u8 0, .int .u8 0, .int .u8 0, .int .u8 0, .int .u8 0, .int .u8 0, .int .u8 0, .int .u8 0, .int .u8 0, .int .u8 0, .int .u8 0, .int .u8 0, .int .u8 0, .int .u8 0] 38)) w6.heap.size _ D 38 _ (heap_alloc_new _ _)
  have x67 : Ext w6 ((w6.alloc (.cells #[.int .u8 0, .int .u8 0, .int .u8 0, .int .u8 0, .int .u8 0, .int .u8 0, .int .u8 0, .int .u8 0, .int .u8 0, .int .u8 0, .int .u8 0, .int .u8 0, .int .u8 0, .int .u8 0, .int .u8 0, .int .u8 0, .int .u8 0, .int .u8 0, .int .u8 0, .int .u8 0, .int .u8 0, .int .u8 0, .int .u8 0, .int .u8 0, .int .u8 0, .int .u8 0, .int .u8 0, .int .u8 0, .int .u8 0, .int .u8 0, .int .u8 0, .int .u8 0] 38)).setRow w6.heap.size D) := below_setRow ((Below.refl _ w6).alloc (Nat.le_refl _) _) (Nat.le_refl _) D
  generalize (w6.alloc (.cells #[.int .u8 0, .int .u8 0, .int .u8 0, .int .u8 0, .int .u8 0, .int .u8 0, .int .u8 0, .int .u8 0, .int .u8 0, .int .u8 0, .int .u8 0, .int .u8 0, .int .u8 0, .int .u8 0, .int .u8 0, .int .u8 0, .int .u8 0, .int .u8 0, .int .u8 0, .int .u8 0, .int .u8 0, .int .u8 0, .int .u8 0, .int .u8 0, .int .u8 0, .int .u8 0, .int .u8 0, .int .u8 0, .int .u8 0, .int .u8 0, .int .u8 0, .int .u8 0] 38)).setRow w6.heap.size D = w7 at *
  have x7 : Ext w w7 := Ext.trans x6 x67
  have x78 : ∀ w8, Ext w7 w8 → Ext w6 w8 := fun w8 h => Ext.trans x67 h
  refine (lives_any _).mono ?_
  rintro e w8 ⟨rfl, x8⟩
  have x68 := x78 w8 x8
  have hb8 := run_str (Sl.below hb6 x68) 24 9 5 Try.underlying24 Try.underlying5 Try.underlying9
  simp only [List.length_cons, List.length_nil, Nat.zero_add] at hb8
  have h18 := h1b.ext x68
  have h28 := h6.ext x68
  have hblk8 : w8.heap[w6.heap.size]? = some (.cells D 38 (0, 0)) := (x8.block _ (Array.getElem?_eq_some_iff.1 hblk7).1).trans hblk7
  have HB := Lib.hid hblk8
  have heq : ∀ W : World, (Op.equalIn 10000 38 (.agg D) (.agg #[.int .u8 0, .int .u8 0, .int .u8 0, .int .u8 0, .int .u8 0, .int .u8 0, .int .u8 0, .int .u8 0, .int .u8 0, .int .u8 0, .int .u8 0, .int .u8 0, .int .u8 0, .int .u8 0, .int .u8 0, .int .u8 0, .int .u8 0, .int .u8 0, .int .u8 0, .int .u8 0, .int .u8 0, .int .u8 0, .int .u8 0, .int .u8 0, .int .u8 0, .int .u8 0, .int .u8 0, .int .u8 0, .int .u8 0, .int .u8 0, .int .u8 0, .int .u8 0])).run Try.prog W = .ok true W := by
    intro W
    rw [zero32, HD.out, dig_eq (by simp) (by simp), beq_self_eq_true]
  clear hblk7 hblk8 x78
  go_wp2_with fail
  refine (err_any g1 A1 c1 _ _ _ _ h18).mono ?_
  rintro e w' ⟨rfl, rfl⟩
  go_wp2_with (refine wpList_load_row_g (by first | rfl | simp [Region.wanted, yielded]) 38 _ rfl _ rfl _ _ _ _ HB.out Try.underlying38 rfl (by rw [HDS.out]; kernel_rfl) ?_)
  refine (err_any g2 A2 c2 _ _ _ _ h28).mono ?_
  rintro e w' ⟨rfl, rfl⟩
  go_wp2_with fail
  refine (rend_any g2 A2 c2 ⟨[], 0, 5⟩ _ h28).mono ?_
  rw [ns2]
  rintro e w' ⟨rfl, n3, rfl⟩
  go_wp2_with fail
  have xw : Ext w8 ((w8.drewN n3).alloc (.cells ([9].map bc).toArray 5)) := ((Below.refl _ w8).grown (grown_drewN w8 n3 none) (Nat.le_refl _) (by simp)).alloc (Nat.le_refl _) _
  refine (oword_any _ 1 [9] 258 2 _ (Bs.lit (w8.drewN n3) [9] 5 (by simp)) (by omega) (by simp)).mono ?_
  rw [wd1]
  rintro e w9 ⟨v9, rfl, hown9, hx9⟩
  have x89 : Ext w8 w9 := Ext.trans xw hx9
  obtain ⟨A9, c9, rfl, _, he9, _⟩ := str_of hown9
  simp only [List.length_cons, List.length_nil, Nat.zero_add, List.cons_append, List.nil_append] at he9
  clear hown9 hx9 xw
  go_wp2_with fail
  refine (oword_any none 0 [] 1 0 _ (Sl.nil _ _) (by omega) (by simp)).mono ?_
  rw [List.nil_append]
  rintro e w10 ⟨v10, rfl, hown10, hx10⟩
  obtain ⟨A10, c10, rfl, _⟩ := str_of hown10
  rw [wd2]
  clear hown10
  go_wp2_with fail
  refine (oword_any none 0 [] 1 99 _ (Sl.nil _ _) (by omega) (by simp)).mono ?_
  rw [List.nil_append]
  rintro e w11 ⟨v11, rfl, hown11, hx11⟩
  obtain ⟨A11, c11, rfl, _⟩ := str_of hown11
  rw [wd3]
  clear hown11
  have hfin : Below w.heap.size w w11 := Ext.trans (Ext.trans (Ext.trans (Ext.trans x6 x68) x89) hx10) hx11
  go_wp2_with fail
  go_ret
  exact ⟨rfl, hfin⟩
end Go.Proofs.Ytglekpigobingaa
