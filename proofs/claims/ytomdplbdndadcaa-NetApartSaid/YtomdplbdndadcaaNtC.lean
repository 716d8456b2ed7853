import Derived.Test.YtomdplbdndadcaaNtB
namespace Go.Proofs.Ytomdplbdndadcaa
open Go.RowKit

theorem own_row {w : World} {base sz : Nat} {e : TypeId} {B : Option Addr} {n d : Nat} {cs : List Value} (h : w.ownsRow base e sz (.slice B n d) n cs) : ∀ a, B = some a → ∃ cur, w.heap[a.block]? = some (.cells cur e (0, 0)) := by
  intro a ha
  rcases h.2 with ⟨hv, _⟩ | ⟨g, cap, cur, hv, _, hg, _⟩
  · rw [ha] at hv; simp at hv
  · rw [ha] at hv
    simp only [Value.slice.injEq, Option.some.injEq] at hv
    rw [hv.1]
    exact ⟨cur, hg⟩
/-- a copy with bytes of its own -/
theorem own_any (f t : Int) (A : Option Addr) (c : Nat) (l : List UInt8) (w : World) (hA : Bs w A c l) (hl : l.length ≤ 100000000000000) :
    Calls Try.prog 23 #[.agg #[.int .i64 f, .int .i64 t, .slice A l.length c]] w fun e w' => ∃ B d, e = .returned (.agg #[.int .i64 f, .int .i64 t, .slice B l.length d]) ∧ Bs w' B d l ∧ (∀ a, B = some a → w.heap.size ≤ a.block ∧ ∃ cur, w'.heap[a.block]? = some (.cells cur 5 (0, 0))) ∧ Ext w w' := by
  obtain ⟨i0, hi0, hz0, hz1, hz2⟩ := info_parts u8_info
  obtain ⟨o1, ho1⟩ : ∃ o, o = Obj.cells #[.int .i64 f, .int .i64 t, .slice A l.length c] 38 := ⟨_, rfl⟩
  obtain ⟨o2, ho2⟩ : ∃ o, o = Obj.cells #[.int .i64 0, .int .i64 0, .slice none 0 0] 38 := ⟨_, rfl⟩
  have h1 := heap_alloc_new w o1
  have h2 := heap_alloc_new (w.alloc o1) o2
  have x1 := Ext.alloc w o1
  have x2 := Ext.alloc (w.alloc o1) o2
  have h1 := (x2.block _ (Array.getElem?_eq_some_iff.1 h1).1).trans h1
  rw [show (w.alloc o1).heap.size = w.heap.size + 1 by simp only [World.alloc, Array.size_push]] at h2
  have x0 := Ext.trans x1 x2
  have hs0 : ((w.alloc o1).alloc o2).heap.size = w.heap.size + 1 + 1 := by simp only [World.alloc, Array.size_push]
  have hA0 : Bs ((w.alloc o1).alloc o2) A c l := Sl.below hA x0
  clear x1 x2
  subst ho1
  subst ho2
  have H1 := Lib.hid h1
  have H2 := Lib.hid h2
  have HS := Lib.hid hs0
  clear h1 h2 hs0
  go_enter Try.func23, Try.ntmps23
  go_wp2_with (first
    | (at_builtin
       obtain ⟨w0, hw0⟩ : ∃ w0, w0 = (w.alloc (.cells #[.int .i64 f, .int .i64 t, .slice A l.length c] 38)).alloc (.cells #[.int .i64 0, .int .i64 0, .slice none 0 0] 38) := ⟨_, rfl⟩
       rw [← hw0] at H1 H2 HS x0 hA0 ⊢
       clear hw0
       rw [← HS.out]
       refine wpList_append_sl _ rfl (.tmp 3) (.tmp 5) 32 rfl w0.heap.size 5 i0 _ 1 1 Try.underlying32 hi0 hz0 hz1 hz2 (by simp [Value.cells]) (by omega) (.slice (some ⟨w0.heap.size, 0, none⟩) 0 0) 0 [] rfl (World.ownsRow_lit w0 #[] 0 (Nat.le_refl _) (by simp [maxLen]) (by simp)) A l.length c (l.map bc) rfl (Sl.alloc hA0 _) (bytes_one l) (by unfold maxLen; omega) (by omega) (by simp) ?_
       intro v' w2 hown2 hg2 hat2
       have x2 : Ext w0 w2 := ((Below.refl _ w0).alloc (Nat.le_refl _) _).grown hg2 (by simp) (by simp [Value.ownBlock])
       rw [Nat.zero_add, List.nil_append] at hown2
       obtain ⟨B, d, rfl, hB, hge⟩ := Sl.of_own hown2
       have hrw := own_row hown2
       have HRW := Lib.hid hrw
       clear hrw
       have k1 := Lib.hid ((x2.block _ (Array.getElem?_eq_some_iff.1 H1.out).1).trans H1.out)
       have k2 := Lib.hid ((x2.block _ (Array.getElem?_eq_some_iff.1 H2.out).1).trans H2.out)
       have m0 : w2.cell? ⟨w.heap.size, 0, none⟩ = some (.int .i64 f) := by rw [cell_of_row _ _ _ _ _ _ k1.out]; rfl
       have m1 : w2.cell? ⟨w.heap.size, 1, none⟩ = some (.int .i64 t) := by rw [cell_of_row _ _ _ _ _ _ k1.out]; rfl
       have m2 : w2.cell? ⟨w.heap.size, 2, none⟩ = some (.slice A l.length c) := by rw [cell_of_row _ _ _ _ _ _ k1.out]; rfl
       have n2 := frozen_of_row w2 w.heap.size 2 _ _ k1.out
       have q0 : w2.cell? ⟨w.heap.size + 1, 0, none⟩ = some (.int .i64 0) := by rw [cell_of_row _ _ _ _ _ _ k2.out]; rfl
       have q1 : w2.cell? ⟨w.heap.size + 1, 1, none⟩ = some (.int .i64 0) := by rw [cell_of_row _ _ _ _ _ _ k2.out]; rfl
       have q2 : w2.cell? ⟨w.heap.size + 1, 2, none⟩ = some (.slice none 0 0) := by rw [cell_of_row _ _ _ _ _ _ k2.out]; rfl
       have s0 := frozen_of_row w2 (w.heap.size + 1) 0 _ _ k2.out
       have s1 := frozen_of_row w2 (w.heap.size + 1) 1 _ _ k2.out
       have s2 := frozen_of_row w2 (w.heap.size + 1) 2 _ _ k2.out))
  have hk2 : (w2.setCell ⟨w.heap.size, 2, none⟩ (.slice B l.length d)).heap[w.heap.size + 1]? = _ := (heap_setCell_other w2 ⟨w.heap.size, 2, none⟩ (w.heap.size + 1) _ (by show w.heap.size + 1 ≠ w.heap.size; omega)).trans k2.out
  have hk3 := cells3 (.int .i64 f) (.int .i64 t) (.slice B l.length d) hk2
  have hsz : w0.heap.size = w.heap.size + 1 + 1 := HS.out
  have xw : Ext w (w2.setCell ⟨w.heap.size, 2, none⟩ (.slice B l.length d)) := Below.setCell (Ext.trans x0 x2) (p := ⟨w.heap.size, 2, none⟩) (Nat.le_refl _) _
  refine bodyPost_ret (results_cell1 rfl _ _ (w.heap.size + 1) _ rfl (env_load hk3)) rfl ?_
  refine ⟨B, d, rfl, Sl.keep hB (fun a ha _ => ?_), fun a ha => ⟨by have := hge a ha; omega, ?_⟩, xw.set3 (by omega) _ _ _⟩
  · have hb := hge a ha
    rw [other3 _ _ _ _ (by omega), heap_setCell_other w2 ⟨w.heap.size, 2, none⟩ a.block _ (by show a.block ≠ w.heap.size; omega)]
  · have hb := hge a ha
    obtain ⟨cur, hcur⟩ := HRW.out a ha
    refine ⟨cur, ?_⟩
    rw [other3 _ _ _ _ (by omega), heap_setCell_other w2 ⟨w.heap.size, 2, none⟩ a.block _ (by show a.block ≠ w.heap.size; omega)]
    exact hcur

theorem pick_any (n m : Int) (w : World) (h1 : -9223372036854775808 ≤ n) (h2 : n ≤ 9223372036854775807) (h3 : 1 ≤ m) (h4 : m ≤ 1000000) :
    Calls Try.prog 10 #[.int .i64 n, .int .i64 m] w fun e w' => e = .returned (.int .i64 (n % m)) ∧ w' = w := by
  have hm := Int.emod_nonneg n (show m ≠ 0 by omega)
  have hm2 := Int.emod_lt_of_pos n (show 0 < m by omega)
  have ht : (0 ≤ n.tmod m ∧ n.tmod m = n % m) ∨ (n.tmod m < 0 ∧ -m < n.tmod m ∧ n.tmod m + m = n % m) := by
    rcases (show n < 0 ∨ 0 ≤ n by omega) with h | h
    · have e : n = -(-n) := by omega
      have e2 : n.tmod m = -((-n) % m) := by
        rw [e, Int.neg_tmod, Int.tmod_eq_emod_of_nonneg (by omega), Int.neg_neg]
      have a1 := Int.emod_nonneg (-n) (show m ≠ 0 by omega)
      have a2 := Int.emod_lt_of_pos (-n) (show 0 < m by omega)
      by_cases hz : (-n) % m = 0
      · left
        have : n % m = 0 := Int.emod_eq_zero_of_dvd (Int.dvd_neg.1 (Int.dvd_of_emod_eq_zero hz))
        omega
      · right
        refine ⟨by omega, by omega, ?_⟩
        have e3 : n % m = m - (-n) % m := by
          have h5 : (-n) % m + m * ((-n) / m) = -n := Int.emod_add_mul_ediv (-n) m
          have h6 : n = (m - (-n) % m) + m * (-((-n) / m) - 1) := by
            have : m * (-((-n) / m) - 1) = -(m * ((-n) / m)) - m := by rw [Int.mul_sub, Int.mul_neg, Int.mul_one]
            omega
          conv => lhs; rw [h6]
          rw [Int.add_mul_emod_self_left, Int.emod_eq_of_lt (by omega) (by omega)]
        omega
    · left
      exact ⟨by rw [Int.tmod_eq_emod_of_nonneg h]; exact hm, Int.tmod_eq_emod_of_nonneg h⟩
  have hm1 : ¬ m < 1 := by omega
  rcases ht with ⟨ha, hb⟩ | ⟨ha, hb, hc⟩
  · have HB := Lib.hid hb
    have hw2 : IntKind.i64.wrap (n.tmod m) = n.tmod m := by rw [IntKind.wrap_i64]; omega
    rw [← HB.out]
    clear hb hm hm2
    go_enter Try.func10, Try.ntmps10
    go_wp2_with fail
    go_ret
    exact ⟨rfl, rfl⟩
  · have hw : IntKind.i64.wrap (n.tmod m + m) = n % m := by rw [IntKind.wrap_i64]; omega
    have hw2 : IntKind.i64.wrap (n.tmod m) = n.tmod m := by rw [IntKind.wrap_i64]; omega
    clear hc hm hm2
    go_enter Try.func10, Try.ntmps10
    go_wp2_with fail
    go_ret
    exact ⟨rfl, rfl⟩
end Go.Proofs.Ytomdplbdndadcaa
