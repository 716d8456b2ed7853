import Derived.Test.YtigcfbpgbenabaaRgC
namespace Go.Proofs.Ytigcfbpgbenabaa
open Go.RowKit

/-- the first place of v, or -1 -/
def idx (v : List UInt8) : List (List UInt8) → Int
  | [] => -1
  | x :: l => if x = v then 0 else if idx v l = -1 then -1 else idx v l + 1
theorem idx_ge (v : List UInt8) : ∀ L, -1 ≤ idx v L
  | [] => by simp [idx]
  | x :: l => by
    have := idx_ge v l
    unfold idx
    split
    · omega
    · split <;> omega
theorem idx_at (v : List UInt8) : ∀ (j : Nat) (L : List (List UInt8)) (h : j < L.length), v ∉ L.take j → L[j] = v → idx v L = (j : Int)
  | _, [], h, _, _ => by simp at h
  | 0, x :: l, _, _, h => by simp at h; simp [idx, h]
  | j + 1, x :: l, h, hn, hv => by
    simp only [List.take_succ_cons, List.mem_cons, not_or] at hn
    have h1 := idx_at v j l (by simpa using h) hn.2 (by simpa using hv)
    unfold idx
    rw [if_neg (fun e => hn.1 e.symm), h1, if_neg (by omega)]
    omega
theorem idx_none (v : List UInt8) : ∀ (L : List (List UInt8)), v ∉ L → idx v L = -1
  | [], _ => rfl
  | x :: l, h => by
    simp only [List.mem_cons, not_or] at h
    unfold idx
    rw [if_neg (fun e => h.1 e.symm), idx_none v l h.2, if_pos rfl]
theorem idx_mem (v : List UInt8) : ∀ (L : List (List UInt8)), (0 ≤ idx v L) ↔ v ∈ L
  | [] => by simp [idx]
  | x :: l => by
    have h1 := idx_mem v l
    have h2 := idx_ge v l
    unfold idx
    by_cases hx : x = v
    · subst hx; simp
    · rw [if_neg hx]
      simp only [List.mem_cons]
      split
      · rename_i h3
        rw [h3] at h1
        simp at h1
        constructor
        · intro h; omega
        · rintro (h | h)
          · exact absurd h.symm hx
          · exact absurd h h1
      · constructor
        · intro h; exact .inr (h1.1 (by omega))
        · rintro (h | h)
          · exact absurd h.symm hx
          · have := h1.2 h; omega

set_option maxHeartbeats 1000000 in
theorem index_any (A : Option Addr) (c : Nat) (L : List (List UInt8)) (v : List UInt8) (w : World) (hA : Ds w A c L) (hv : v.length = 32) :
    Calls Try.prog 35 #[.slice A L.length c, .agg (dg v)] w fun e w' => e = .returned (.int .i64 (idx v L)) ∧ Ext w w' := by
  have hle := hA.sl.le
  have hmx := hA.sl.max
  have h63 : L.length ≤ 9223372036854775807 := by unfold maxLen at hmx; omega
  clear hle hmx
  obtain ⟨V, hV⟩ : ∃ V, V = dg v := ⟨_, rfl⟩
  rw [← hV]
  have i0 : (Try.prog.info? 49).map (·.size) = some V.size := by rw [hV, dg_size, hv]; kernel_rfl
  have HV := Lib.hid hV
  have I0 := Lib.hid i0
  clear hV i0
  go_enter Try.func35, Try.ntmps35
  go_wp2_with fail
  have x0 : Ext w (w.alloc (Obj.cells V 49)) := (Below.refl _ w).alloc (Nat.le_refl _) _
  have hblk0 : (w.alloc (Obj.cells V 49)).heap[w.heap.size]? = some (.cells V 49 (0, 0)) := heap_alloc_new _ _
  have hA0 := hA.alloc (Obj.cells V 49)
  generalize w.alloc (Obj.cells V 49) = w0 at *
  generalize w.heap.size = g at *
  have HB := Lib.hid hblk0
  clear hblk0
  go_loopw [8] (fun i wr => ∃ j : Nat, j ≤ L.length ∧ i = .int .i64 (j : Int) ∧ v ∉ L.take j ∧ Ext w0 wr) (fun i _ => L.length - (intOf i).toNat)
  case atStart => exact ⟨0, by omega, rfl, by simp, Ext.refl w0⟩
  case round =>
    obtain ⟨j, hj, rfl, htk, hwr⟩ := hrel
    by_cases hjl : j < L.length
    · have hAr : Ds wr A c L := hA0.below hwr
      obtain ⟨S, hSd⟩ : ∃ S : Nat → World → Prop, S = fun _ u => Ext wr u := ⟨_, rfl⟩
      have hSi : ∀ k u, S k u → Ext wr u := fun k u h => by rw [hSd] at h; exact h
      have hS0 : S 0 wr := by rw [hSd]; exact Ext.refl wr
      have hSx : ∀ k u u', S k u → Ext u u' → S k u' := fun k u u' h hx => by rw [hSd] at h ⊢; exact Ext.trans h hx
      obtain ⟨b1, o1, rfl, _⟩ := hAr.range (by omega)
      have hx := hAr.ok L[j] (List.getElem_mem hjl)
      have hS1 : ∀ k u, S k u → u.rangeAt b1 (o1 + j * 32) (L[j].map bc) := fun k u h => by
        obtain ⟨b, o, hbo, hr⟩ := (hAr.below (hSi k u h)).range (by omega)
        cases hbo
        exact hr j hjl
      have hload : ∀ k u, S k u → u.heap[g]? = some (.cells V 49 (0, 0)) := fun k u h => ((Ext.trans hwr (hSi k u h)).block _ (Array.getElem?_eq_some_iff.1 HB.out).1).trans HB.out
      have hu49 := Try.underlying49
      have i1 : (Try.prog.info? 49).map (·.size) = some (L[j].map bc).length := by rw [List.length_map, hx]; kernel_rfl
      have heq : ∀ W : World, (Op.equalIn 10000 49 (.agg V) (.agg (L[j].map bc).toArray)).run Try.prog W = .ok (v == L[j]) W := fun W => by rw [HV.out]; exact dig_eq hv hx W
      generalize L[j].map bc = X at *
      clear hAr hx hSd
      have i0 := I0.out
      have HT := Lib.hid htk
      clear htk
      by_cases hxy : v = L[j]
      · have hb : (v == L[j]) = true := by simpa using hxy
        simp only [hb] at heq
        clear hb
        go_wp2_with fail
        refine wp_region_asks2 0 [FactG.val (.agg V), FactG.val (.slice (some ⟨b1, o1, none⟩) L.length c), FactG.val (.int .i64 (j : Int)), FactG.val (.pointer (some ⟨b1, o1 + j * 32, none⟩)), FactG.val (.agg X.toArray), FactG.val (.bool true)] S [] _ (by kernel_rfl) (by kernel_rfl) (by kernel_rfl) rfl hSx hS0 ?_ ?_
        · refine ⟨?_, ?_, ?_, ?_, ?_, ?_, trivial⟩
          · unfold Ask2
            rw [if_neg (by decide)]
            intro a u jj hx hd hr
            rw [if_pos (wanted_none rfl)]
            have e3 : a.eval (.tmp 3) = .pointer (some ⟨g, 0, none⟩) := hr 3 rfl
            exact Y_load_row 49 (.tmp 3) rfl g e3 49 V (0, 0) _ (hload _ _ hx) hu49 rfl i0 rfl
          · unfold Ask2
            rw [if_neg (by decide)]
            intro a u jj hx hd hr
            rw [if_pos (wanted_none rfl)]
            have e0 : a.eval (.tmp 0) = .slice (some ⟨b1, o1, none⟩) L.length c := hr 0 rfl
            exact Y_copy (.inl rfl) e0
          · unfold Ask2
            rw [if_neg (by decide)]
            intro a u jj hx hd hr
            rw [if_pos (wanted_none rfl)]
            have e5 : a.eval (.tmp 5) = .int .i64 (j : Int) := hr 5 rfl
            exact Y_copy (.inl rfl) e5
          · unfold Ask2
            rw [if_neg (by decide)]
            intro a u jj hx hd hr
            rw [if_pos (wanted_none rfl)]
            have e12 : a.eval (.tmp 12) = .slice (some ⟨b1, o1, none⟩) L.length c := hd 1 12 rfl rfl
            have e13 : a.eval (.tmp 13) = .int .i64 (j : Int) := hd 2 13 rfl rfl
            clear hd hr
            simp only [Act.eval, Array.getD_eq_getD_getElem?] at e12 e13
            exact Y_val (v := .pointer (some ⟨b1, o1 + j * 32, none⟩)) (by go_simp) rfl
          · unfold Ask2
            rw [if_neg (by decide)]
            intro a u jj hx hd hr
            rw [if_pos (wanted_none rfl)]
            have e14 : a.eval (.tmp 14) = .pointer (some ⟨b1, o1 + j * 32, none⟩) := hd 3 14 rfl rfl
            exact Y_load_mid 49 (.tmp 14) rfl b1 (o1 + j * 32) e14 X _ (hS1 _ _ hx) hu49 rfl i1 rfl
          · unfold Ask2
            rw [if_neg (by decide)]
            intro a u jj hx hd hr
            rw [if_pos (wanted_none rfl)]
            have e11 : a.eval (.tmp 11) = .agg V := hd 0 11 rfl rfl
            have e15 : a.eval (.tmp 15) = .agg X.toArray := hd 4 15 rfl rfl
            clear hd hr
            simp only [Act.eval, Array.getD_eq_getD_getElem?] at e11 e15
            exact Y_val (v := .bool true) (by go_simp) rfl
        intro f wq hS9 hF
        have f0 : f 0 = .agg V := hF 0 11 rfl
        have f1 : f 1 = .slice (some ⟨b1, o1, none⟩) L.length c := hF 1 12 rfl
        have f2 : f 2 = .int .i64 (j : Int) := hF 2 13 rfl
        have f3 : f 3 = .pointer (some ⟨b1, o1 + j * 32, none⟩) := hF 3 14 rfl
        have f4 : f 4 = .agg X.toArray := hF 4 15 rfl
        have f5 : f 5 = .bool true := hF 5 16 rfl
        simp only [puts, Act.put, List.setIfInBounds_toArray, List.set_cons_succ, List.set_cons_zero, Nat.zero_add, Nat.reduceAdd, f0, f1, f2, f3, f4, f5]
        clear f0 f1 f2 f3 f4 f5 hF f
        have hwq : Ext w0 wq := Ext.trans hwr (hSi _ _ hS9)
        clear hS9 hS1 hload hS0 hSx hSi S heq i1 hu49
        clear i0
        have HC := Lib.hid (idx_at v j L hjl HT.out hxy.symm)
        clear hxy
        go_wp2_with fail
        rw [HC.out]
        go_ret
        exact ⟨rfl, Ext.trans x0 hwq⟩
      · have hb : (v == L[j]) = false := by simpa using hxy
        simp only [hb] at heq
        clear hb
        go_wp2_with fail
        refine wp_region_asks2 0 [FactG.val (.agg V), FactG.val (.slice (some ⟨b1, o1, none⟩) L.length c), FactG.val (.int .i64 (j : Int)), FactG.val (.pointer (some ⟨b1, o1 + j * 32, none⟩)), FactG.val (.agg X.toArray), FactG.val (.bool false)] S [] _ (by kernel_rfl) (by kernel_rfl) (by kernel_rfl) rfl hSx hS0 ?_ ?_
        · refine ⟨?_, ?_, ?_, ?_, ?_, ?_, trivial⟩
          · unfold Ask2
            rw [if_neg (by decide)]
            intro a u jj hx hd hr
            rw [if_pos (wanted_none rfl)]
            have e3 : a.eval (.tmp 3) = .pointer (some ⟨g, 0, none⟩) := hr 3 rfl
            exact Y_load_row 49 (.tmp 3) rfl g e3 49 V (0, 0) _ (hload _ _ hx) hu49 rfl i0 rfl
          · unfold Ask2
            rw [if_neg (by decide)]
            intro a u jj hx hd hr
            rw [if_pos (wanted_none rfl)]
            have e0 : a.eval (.tmp 0) = .slice (some ⟨b1, o1, none⟩) L.length c := hr 0 rfl
            exact Y_copy (.inl rfl) e0
          · unfold Ask2
            rw [if_neg (by decide)]
            intro a u jj hx hd hr
            rw [if_pos (wanted_none rfl)]
            have e5 : a.eval (.tmp 5) = .int .i64 (j : Int) := hr 5 rfl
            exact Y_copy (.inl rfl) e5
          · unfold Ask2
            rw [if_neg (by decide)]
            intro a u jj hx hd hr
            rw [if_pos (wanted_none rfl)]
            have e12 : a.eval (.tmp 12) = .slice (some ⟨b1, o1, none⟩) L.length c := hd 1 12 rfl rfl
            have e13 : a.eval (.tmp 13) = .int .i64 (j : Int) := hd 2 13 rfl rfl
            clear hd hr
            simp only [Act.eval, Array.getD_eq_getD_getElem?] at e12 e13
            exact Y_val (v := .pointer (some ⟨b1, o1 + j * 32, none⟩)) (by go_simp) rfl
          · unfold Ask2
            rw [if_neg (by decide)]
            intro a u jj hx hd hr
            rw [if_pos (wanted_none rfl)]
            have e14 : a.eval (.tmp 14) = .pointer (some ⟨b1, o1 + j * 32, none⟩) := hd 3 14 rfl rfl
            exact Y_load_mid 49 (.tmp 14) rfl b1 (o1 + j * 32) e14 X _ (hS1 _ _ hx) hu49 rfl i1 rfl
          · unfold Ask2
            rw [if_neg (by decide)]
            intro a u jj hx hd hr
            rw [if_pos (wanted_none rfl)]
            have e11 : a.eval (.tmp 11) = .agg V := hd 0 11 rfl rfl
            have e15 : a.eval (.tmp 15) = .agg X.toArray := hd 4 15 rfl rfl
            clear hd hr
            simp only [Act.eval, Array.getD_eq_getD_getElem?] at e11 e15
            exact Y_val (v := .bool false) (by go_simp) rfl
        intro f wq hS9 hF
        have f0 : f 0 = .agg V := hF 0 11 rfl
        have f1 : f 1 = .slice (some ⟨b1, o1, none⟩) L.length c := hF 1 12 rfl
        have f2 : f 2 = .int .i64 (j : Int) := hF 2 13 rfl
        have f3 : f 3 = .pointer (some ⟨b1, o1 + j * 32, none⟩) := hF 3 14 rfl
        have f4 : f 4 = .agg X.toArray := hF 4 15 rfl
        have f5 : f 5 = .bool false := hF 5 16 rfl
        simp only [puts, Act.put, List.setIfInBounds_toArray, List.set_cons_succ, List.set_cons_zero, Nat.zero_add, Nat.reduceAdd, f0, f1, f2, f3, f4, f5]
        clear f0 f1 f2 f3 f4 f5 hF f
        have hwq : Ext w0 wq := Ext.trans hwr (hSi _ _ hS9)
        clear hS9 hS1 hload hS0 hSx hSi S heq i1 hu49
        clear i0
        go_wp2_with fail
        go_roundw
        case rel =>
          refine ⟨j + 1, by omega, by go_num, ?_, hwq⟩
          rw [List.take_add_one, List.getElem?_eq_getElem hjl]
          simp only [Option.toList_some, List.mem_append, List.mem_singleton, not_or]
          exact ⟨HT.out, hxy⟩
        case measure => simp [intOf]; omega
    · have : j = L.length := by omega
      subst this
      rw [List.take_length] at htk
      have HC := Lib.hid (idx_none v L htk)
      clear htk
      go_wp2_with fail
      rw [HC.out]
      go_ret
      exact ⟨rfl, Ext.trans x0 hwr⟩

theorem contains_any (A : Option Addr) (c : Nat) (L : List (List UInt8)) (v : List UInt8) (w : World) (hA : Ds w A c L) (hv : v.length = 32) :
    Calls Try.prog 30 #[.slice A L.length c, .agg (dg v)] w fun e w' => e = .returned (.bool (decide (v ∈ L))) ∧ Ext w w' := by
  have hD : decide (v ∈ L) = decide (0 ≤ idx v L) := by simp only [idx_mem v L]
  rw [hD]
  clear hD
  obtain ⟨V, hV⟩ : ∃ V, V = dg v := ⟨_, rfl⟩
  rw [← hV]
  have i0 : (Try.prog.info? 49).map (·.size) = some V.size := by rw [hV, dg_size, hv]; kernel_rfl
  have HV := Lib.hid hV
  have I0 := Lib.hid i0
  clear hV i0
  go_enter Try.func30, Try.ntmps30
  go_wp2_with (refine wpList_load_row rfl 49 _ rfl _ rfl _ _ _ _ (heap_alloc_new _ _) Try.underlying49 rfl I0.out ?_)
  have x0 : Ext w (w.alloc (Obj.cells V 49)) := (Below.refl _ w).alloc (Nat.le_refl _) _
  have hA0 := hA.alloc (Obj.cells V 49)
  generalize w.alloc (Obj.cells V 49) = w0 at *
  rw [HV.out]
  refine (index_any A c L v w0 hA0 hv).mono ?_
  rintro e w1 ⟨rfl, x1⟩
  go_wp2_with fail
  go_ret
  exact ⟨rfl, Ext.trans x0 x1⟩
end Go.Proofs.Ytigcfbpgbenabaa
