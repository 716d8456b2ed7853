import Derived.Test.YtomdplbdndadcaaNtD
namespace Go.Proofs.Ytomdplbdndadcaa
open Go.RowKit

/-- is a net gone through? -/
def lightN (M : NV) (k : Int) : Bool := decide ((M.l.length : Int) ≤ k) && M.l.all fun e => decide (e.r.length ≤ 20000)

set_option maxHeartbeats 1000000 in
theorem lightnet_any (v : Value) (M : NV) (rs : List Raw) (k : Int) (w : World) (hv : IsNet w v M rs) :
    Calls Try.prog 18 #[v, .int .i64 k] w fun e w' => e = .returned (.bool (lightN M k)) ∧ Ext w w' := by
  obtain ⟨A, c, rfl, hA⟩ := hv
  obtain ⟨n, E⟩ := M
  simp only at *
  have h0 := heap_alloc_new w (.cells #[.int .i64 n, .slice A E.length c] 27)
  have x0 := Ext.alloc w (.cells #[.int .i64 n, .slice A E.length c] 27)
  have hA0 := hA.below x0
  have hle := hA.sl.le
  have hmx := hA.sl.max
  have h63 : E.length ≤ 9223372036854775807 := by unfold maxLen at hmx; omega
  clear hle hmx
  by_cases h1 : k < (E.length : Int)
  · rw [show lightN ⟨n, E⟩ k = false by unfold lightN; rw [decide_eq_false (by simp only; omega)]; rfl]
    go_enter Try.func18, Try.ntmps18
    go_wp2_with fail
    go_ret
    exact ⟨rfl, x0⟩
  have hb : lightN ⟨n, E⟩ k = E.all fun e => decide (e.r.length ≤ 20000) := by
    unfold lightN
    rw [decide_eq_true (by simp only; omega)]
    rfl
  rw [hb]
  clear hb
  generalize hR : (E.all fun e => decide (e.r.length ≤ 20000)) = R
  have HR := Lib.hid hR
  clear hR
  go_enter Try.func18, Try.ntmps18
  go_wp2_with fail
  generalize w.alloc _ = w0 at *
  have hlt := (Array.getElem?_eq_some_iff.1 h0).1
  have ml : ∀ u, Ext w0 u → u.cell? ⟨w.heap.size, 1, none⟩ = some (.slice A E.length c) := fun u hu => by rw [cell_of_row _ _ _ _ _ _ ((hu.block _ hlt).trans h0)]; rfl
  go_loopw [5] (fun i wr => ∃ j : Nat, j ≤ E.length ∧ i = .int .i64 (j : Int) ∧ (∀ e ∈ E.take j, e.r.length ≤ 20000) ∧ Ext w0 wr) (fun i _ => E.length - (intOf i).toNat)
  case atStart => exact ⟨0, by omega, rfl, by simp, Ext.refl _⟩
  case round =>
    obtain ⟨j, hj, rfl, hgood, hwr⟩ := hrel
    have HG := Lib.hid hgood
    clear hgood
    have cl := ml _ hwr
    by_cases hjl : j < E.length
    · have hAr := hA0.below hwr
      obtain ⟨b1, o1, rfl, hr⟩ := hAr.at (by omega)
      obtain ⟨g1, g2, g3⟩ := hr j hjl (by rw [hA.len]; exact hjl)
      obtain ⟨q, hq⟩ : ∃ q, q = rs[j]'(by rw [hA.len]; exact hjl) := ⟨_, rfl⟩
      obtain ⟨e, he⟩ : ∃ e, e = E[j] := ⟨_, rfl⟩
      rw [← hq] at g3
      rw [← he] at g1 g2 g3
      have HE := Lib.hid he
      clear hq he hr hAr
      by_cases hlen : 20000 < e.r.length
      · have hR : R = false := by
          rw [← HR.out, List.all_eq_false]
          exact ⟨e, by rw [HE.out]; exact List.getElem_mem hjl, by simpa using hlen⟩
        subst hR
        have hl2 : (20000 : Int) < (e.r.length : Int) := by omega
        clear hlen
        go_wp2_with fail
        go_ret
        exact ⟨rfl, Ext.trans x0 hwr⟩
      · have hnext : ∀ e ∈ E.take (j + 1), e.r.length ≤ 20000 := fun x hx => by
          rw [List.take_add_one, List.getElem?_eq_getElem hjl, ← HE.out] at hx
          rcases List.mem_append.1 hx with hx | hx
          · exact HG.out x hx
          · simp at hx; rw [hx]; omega
        have HN := Lib.hid hnext
        have hl2 : ¬ (20000 : Int) < (e.r.length : Int) := by omega
        clear hnext hlen
        go_wp2_with fail
        go_roundw
        case rel => exact ⟨j + 1, by omega, by go_num, HN.out, hwr⟩
        case measure => simp [intOf]; omega
    · have : j = E.length := by omega
      subst this
      have hR : R = true := by
        have h := HG.out
        rw [List.take_length] at h
        rw [← HR.out, List.all_eq_true]
        intro x hx
        exact decide_eq_true (h x hx)
      subst hR
      go_wp2_with fail
      go_ret
      exact ⟨rfl, Ext.trans x0 hwr⟩
end Go.Proofs.Ytomdplbdndadcaa
