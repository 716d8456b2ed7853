import Derived.Test.YtglekpigobingaaOctE
namespace Go.Proofs.Ytglekpigobingaa
open Go.RowKit

/-- a literal of bytes -/
theorem Bs.lit (w : World) (l : List UInt8) (t : TypeId) (hl : l.length ≤ 140737488355000) : Bs (w.alloc (.cells (l.map bc).toArray t)) (some ⟨w.heap.size, 0, none⟩) l.length l := by
  refine ⟨by simp, Nat.le_refl _, by unfold maxLen; omega, (fun h => by cases h), ?_⟩
  rintro a ⟨⟩ j u hu
  rw [Addr.add_lit, Nat.zero_add, cell_of_row _ _ _ _ _ _ (heap_alloc_new _ _)]
  simpa using hu
theorem str_of {w : World} {base : Nat} {v : Value} {l : List UInt8} (h : w.ownsRow base 5 1 v l.length (l.map bc)) :
    ∃ A c, v = .slice A l.length c ∧ Bs w A c l ∧ (convert 24 9 (.slice A l.length c)).run Try.prog w = .ok (.string ⟨l.toArray⟩) w ∧ ∀ a, A = some a → base ≤ a.block := by
  obtain ⟨A, c, hv, hs, hge⟩ := Sl.of_own h
  exact ⟨A, c, hv, hs, run_str hs 24 9 5 Try.underlying24 Try.underlying5 Try.underlying9, hge⟩
theorem below_row {w w' : World} {row : Option Nat} {B : Nat} (hg : w.grownBy w' row) (hB : B ≤ w.heap.size) (hr : ∀ k, row = some k → B ≤ k) : Below B w w' := (Below.refl B w).grown hg hB hr

theorem num300 : num 300 = [129, 44] := by decide +kernel
theorem num128 : num 128 = [128, 128] := by decide +kernel
def r0 : R := ⟨[128, 127], 0, 0⟩
def s0 : R := ⟨[2, 97], 0, 0⟩
theorem r0num : numR r0 = (⟨[128, 127], 0, 4⟩, 0) := by kernel_rfl
theorem s0blk : blockR s0 = (⟨[2, 97], 0, 5⟩, []) := by kernel_rfl

set_option maxHeartbeats 1000000 in
theorem lives_any (w : World) : Calls Try.prog 8 #[] w fun e w' => e = .returned (.bool true) ∧ Below w.heap.size w w' := by
  go_enter Try.func8, Try.ntmps8
  go_wp2_with fail
  refine (read_any _ 2 [128, 127] _ (Bs.lit w [128, 127] 5 (by simp)) (by simp)).mono ?_
  rintro e w1 ⟨g1, A1, c1, rfl, hg1, h1, hA1, hb1⟩
  have b1 : Below w.heap.size w w1 := ((Below.refl _ w).alloc (Nat.le_refl _) _).trans (hb1.mono (by simp))
  have hz1 := hb1.size
  simp only [World.size_alloc] at hg1 hA1 hz1
  clear hb1
  go_wp2_with fail
  refine (read_any _ 2 [2, 97] _ (Bs.lit w1 [2, 97] 5 (by simp)) (by simp)).mono ?_
  rintro e w2 ⟨g2, A2, c2, rfl, hg2, h2, hA2, hb2⟩
  have h1a := (h1.keep (World.grownBy_alloc w1 (.cells ([2, 97].map bc).toArray 5) none) (by simp) (fun _ _ => by simp)).keep (below_grown (row := none) hb2) (by simp) (fun _ _ => by simp)
  have b2 : Below w.heap.size w w2 := (b1.alloc b1.size _).trans (hb2.mono (by have := b1.size; simp; omega))
  have hz2 := hb2.size
  simp only [World.size_alloc] at hg2 hA2 hz2
  have l1 := h1.lt
  have hg12 : g1 ≠ g2 := by omega
  clear hb2
  go_wp2_with fail
  refine (number_any none 0 [] 300 _ (Sl.nil _ _) (by omega) (by simp)).mono ?_
  rw [List.nil_append, num300]
  rintro e w3 ⟨v3, rfl, hown3, hb3⟩
  obtain ⟨A3, c3, rfl, hs3, he3, _⟩ := str_of hown3
  simp only [List.length_cons, List.length_nil, Nat.zero_add] at he3
  have h1b := h1a.keep (below_grown (row := none) hb3) (by simp) (fun _ _ => by simp)
  have h2b := h2.keep (below_grown (row := none) hb3) (by simp) (fun _ _ => by simp)
  have b3 : Below w.heap.size w w3 := b2.trans (hb3.mono (by omega))
  clear hown3 hs3
  go_wp2_with fail
  refine (number_any none 0 [] 128 _ (Sl.nil _ _) (by omega) (by simp)).mono ?_
  rw [List.nil_append, num128]
  rintro e w4 ⟨v4, rfl, hown4, hb4⟩
  obtain ⟨A4, c4, rfl, hs4, he4, _⟩ := str_of hown4
  simp only [List.length_cons, List.length_nil, Nat.zero_add] at he4
  have h1c := h1b.keep (below_grown (row := none) hb4) (by simp) (fun _ _ => by simp)
  have h2c := h2b.keep (below_grown (row := none) hb4) (by simp) (fun _ _ => by simp)
  have b4 : Below w.heap.size w w4 := b3.trans (hb4.mono (by have := hb3.size; omega))
  clear hown4 hs4
  go_wp2_with fail
  refine (rnum_any g1 A1 c1 r0 _ h1c).mono ?_
  rw [r0num]
  rintro e w5 ⟨rfl, h1d, hg5⟩
  have h2d := h2c.keep hg5 (by simp; omega) (fun a ha => by have := hA2 a ha; simp; omega)
  have b5 : Below w.heap.size w w5 := b4.grown hg5 (by have := b4.size; omega) (fun k hk => by simp at hk; omega)
  go_wp2_with fail
  refine (err_any g1 A1 c1 _ _ _ _ h1d).mono ?_
  rintro e w' ⟨rfl, rfl⟩
  go_wp2_with fail
  refine (rblock_any g2 A2 c2 s0 _ h2d (by simp [s0])).mono ?_
  rw [s0blk]
  rintro e w6 ⟨A6, c6, rfl, h2e, hg6, _, _⟩
  have b6 : Below w.heap.size w w6 := b5.grown hg6 (by have := b5.size; omega) (fun k hk => by simp at hk; omega)
  go_wp2_with fail
  refine (err_any g2 A2 c2 _ _ _ _ h2e).mono ?_
  rintro e w' ⟨rfl, rfl⟩
  go_wp2_with fail
  go_ret
  exact ⟨rfl, b6⟩
end Go.Proofs.Ytglekpigobingaa
