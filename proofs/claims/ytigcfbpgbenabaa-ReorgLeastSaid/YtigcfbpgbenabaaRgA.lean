import Derived.Test.YtigcfbpgbenabaaDs
import Derived.Test.YtigcfbpgbenabaaRegTwo
namespace Go.Proofs.Ytigcfbpgbenabaa
open Go.RowKit

set_option maxHeartbeats 1000000 in
theorem digests_any (A : Option Addr) (c : Nat) (L : List (List UInt8)) (B : Option Addr) (d : Nat) (M : List (List UInt8)) (w : World) (hA : Ds w A c L) (hB : Ds w B d M) :
    Calls Try.prog 13 #[.slice A L.length c, .slice B M.length d] w fun e w' => e = .returned (.bool (decide (L = M))) ∧ Ext w w' := by
  by_cases hlen : L.length = M.length
  · have hle := hA.sl.le
    have hmx := hA.sl.max
    have h63 : L.length ≤ 9223372036854775807 := by unfold maxLen at hmx; omega
    clear hle hmx
    rw [← hlen]
    have HLEN := Lib.hid hlen
    clear hlen
    go_enter Try.func13, Try.ntmps13
    go_wp2_with fail
    go_loopw [5] (fun i wr => ∃ j : Nat, j ≤ L.length ∧ i = .int .i64 (j : Int) ∧ L.take j = M.take j ∧ Ext w wr) (fun i _ => L.length - (intOf i).toNat)
    case atStart => exact ⟨0, by omega, rfl, rfl, Ext.refl w⟩
    case round =>
      obtain ⟨j, hj, rfl, htk, hwr⟩ := hrel
      by_cases hjl : j < L.length
      · have hAr : Ds wr A c L := hA.below hwr
        have hBr : Ds wr B d M := hB.below hwr
        have hjm : j < M.length := by rw [← HLEN.out]; exact hjl
        obtain ⟨S, hSd⟩ : ∃ S : Nat → World → Prop, S = fun _ u => Ext wr u := ⟨_, rfl⟩
        have hSi : ∀ k u, S k u → Ext wr u := fun k u h => by rw [hSd] at h; exact h
        have hS0 : S 0 wr := by rw [hSd]; exact Ext.refl wr
        have hSx : ∀ k u u', S k u → Ext u u' → S k u' := fun k u u' h hx => by rw [hSd] at h ⊢; exact Ext.trans h hx
        obtain ⟨b1, o1, rfl, _⟩ := hAr.range (by omega)
        obtain ⟨b2, o2, rfl, _⟩ := hBr.range (by omega)
        have hx := hAr.ok L[j] (List.getElem_mem hjl)
        have hy := hBr.ok M[j] (List.getElem_mem hjm)
        have hS1 : ∀ k u, S k u → u.rangeAt b1 (o1 + j * 32) (L[j].map bc) := fun k u h => by
          obtain ⟨b, o, hbo, hr⟩ := (hAr.below (hSi k u h)).range (by omega)
          cases hbo
          exact hr j hjl
        have hS2 : ∀ k u, S k u → u.rangeAt b2 (o2 + j * 32) (M[j].map bc) := fun k u h => by
          obtain ⟨b, o, hbo, hr⟩ := (hBr.below (hSi k u h)).range (by omega)
          cases hbo
          exact hr j hjm
        have hu49 := Try.underlying49
        have i1 : (Try.prog.info? 49).map (·.size) = some (L[j].map bc).length := by rw [List.length_map, hx]; kernel_rfl
        have i2 : (Try.prog.info? 49).map (·.size) = some (M[j].map bc).length := by rw [List.length_map, hy]; kernel_rfl
        have heq : ∀ W : World, (Op.equalIn 10000 49 (.agg (L[j].map bc).toArray) (.agg (M[j].map bc).toArray)).run Try.prog W = .ok (L[j] == M[j]) W := fun W => dig_eq hx hy W
        generalize L[j].map bc = X at *
        generalize M[j].map bc = Y at *
        clear hAr hBr hx hy hSd
        have HT := Lib.hid htk
        clear htk
        by_cases hxy : L[j] = M[j]
        · have hb : (L[j] == M[j]) = true := by simpa using hxy
          simp only [hb] at heq
          clear hb
          go_wp2_with fail
          refine wp_region_asks2 0 [FactG.val (.slice (some ⟨b1, o1, none⟩) L.length c), FactG.val (.int .i64 (j : Int)), FactG.val (.pointer (some ⟨b1, o1 + j * 32, none⟩)), FactG.val (.agg X.toArray), FactG.val (.slice (some ⟨b2, o2, none⟩) L.length d), FactG.val (.int .i64 (j : Int)), FactG.val (.pointer (some ⟨b2, o2 + j * 32, none⟩)), FactG.val (.agg Y.toArray), FactG.val (.bool false)] S [] _ (by kernel_rfl) (by kernel_rfl) (by kernel_rfl) rfl hSx hS0 ?_ ?_
          · refine ⟨?_, ?_, ?_, ?_, ?_, ?_, ?_, ?_, ?_, trivial⟩
            · unfold Ask2
              rw [if_neg (by decide)]
              intro a u jj hx hd hr
              rw [if_pos (wanted_none rfl)]
              have e0 : a.eval (.tmp 0) = .slice (some ⟨b1, o1, none⟩) L.length c := hr 0 rfl
              exact Y_copy (.inl rfl) e0
            · unfold Ask2
              rw [if_neg (by decide)]
              intro a u jj hx hd hr
              rw [if_pos (wanted_none rfl)]
              have e5 : a.eval (.tmp 5) = .int .i64 (j : Int) := hr 5 rfl
              exact Y_copy (.inl rfl) e5
            · unfold Ask2
              rw [if_neg (by decide)]
              intro a u jj hx hd hr
              rw [if_pos (wanted_none rfl)]
              have e17 : a.eval (.tmp 17) = .slice (some ⟨b1, o1, none⟩) L.length c := hd 0 17 rfl rfl
              have e18 : a.eval (.tmp 18) = .int .i64 (j : Int) := hd 1 18 rfl rfl
              clear hd hr
              simp only [Act.eval, Array.getD_eq_getD_getElem?] at e17 e18
              exact Y_val (v := .pointer (some ⟨b1, o1 + j * 32, none⟩)) (by go_simp) rfl
            · unfold Ask2
              rw [if_neg (by decide)]
              intro a u jj hx hd hr
              rw [if_pos (wanted_none rfl)]
              have e19 : a.eval (.tmp 19) = .pointer (some ⟨b1, o1 + j * 32, none⟩) := hd 2 19 rfl rfl
              exact Y_load_mid 49 (.tmp 19) rfl b1 (o1 + j * 32) e19 X _ (hS1 _ _ hx) hu49 rfl i1 rfl
            · unfold Ask2
              rw [if_neg (by decide)]
              intro a u jj hx hd hr
              rw [if_pos (wanted_none rfl)]
              have e1 : a.eval (.tmp 1) = .slice (some ⟨b2, o2, none⟩) L.length d := hr 1 rfl
              exact Y_copy (.inl rfl) e1
            · unfold Ask2
              rw [if_neg (by decide)]
              intro a u jj hx hd hr
              rw [if_pos (wanted_none rfl)]
              have e5 : a.eval (.tmp 5) = .int .i64 (j : Int) := hr 5 rfl
              exact Y_copy (.inl rfl) e5
            · unfold Ask2
              rw [if_neg (by decide)]
              intro a u jj hx hd hr
              rw [if_pos (wanted_none rfl)]
              have e21 : a.eval (.tmp 21) = .slice (some ⟨b2, o2, none⟩) L.length d := hd 4 21 rfl rfl
              have e22 : a.eval (.tmp 22) = .int .i64 (j : Int) := hd 5 22 rfl rfl
              clear hd hr
              simp only [Act.eval, Array.getD_eq_getD_getElem?] at e21 e22
              exact Y_val (v := .pointer (some ⟨b2, o2 + j * 32, none⟩)) (by go_simp) rfl
            · unfold Ask2
              rw [if_neg (by decide)]
              intro a u jj hx hd hr
              rw [if_pos (wanted_none rfl)]
              have e23 : a.eval (.tmp 23) = .pointer (some ⟨b2, o2 + j * 32, none⟩) := hd 6 23 rfl rfl
              exact Y_load_mid 49 (.tmp 23) rfl b2 (o2 + j * 32) e23 Y _ (hS2 _ _ hx) hu49 rfl i2 rfl
            · unfold Ask2
              rw [if_neg (by decide)]
              intro a u jj hx hd hr
              rw [if_pos (wanted_none rfl)]
              have e20 : a.eval (.tmp 20) = .agg X.toArray := hd 3 20 rfl rfl
              have e24 : a.eval (.tmp 24) = .agg Y.toArray := hd 7 24 rfl rfl
              clear hd hr
              simp only [Act.eval, Array.getD_eq_getD_getElem?] at e20 e24
              exact Y_val (v := .bool false) (by go_simp) rfl
          intro f wq hS9 hF
          have f0 : f 0 = .slice (some ⟨b1, o1, none⟩) L.length c := hF 0 17 rfl
          have f1 : f 1 = .int .i64 (j : Int) := hF 1 18 rfl
          have f2 : f 2 = .pointer (some ⟨b1, o1 + j * 32, none⟩) := hF 2 19 rfl
          have f3 : f 3 = .agg X.toArray := hF 3 20 rfl
          have f4 : f 4 = .slice (some ⟨b2, o2, none⟩) L.length d := hF 4 21 rfl
          have f5 : f 5 = .int .i64 (j : Int) := hF 5 22 rfl
          have f6 : f 6 = .pointer (some ⟨b2, o2 + j * 32, none⟩) := hF 6 23 rfl
          have f7 : f 7 = .agg Y.toArray := hF 7 24 rfl
          have f8 : f 8 = .bool false := hF 8 25 rfl
          simp only [puts, Act.put, List.setIfInBounds_toArray, List.set_cons_succ, List.set_cons_zero, Nat.zero_add, Nat.reduceAdd, f0, f1, f2, f3, f4, f5, f6, f7, f8]
          clear f0 f1 f2 f3 f4 f5 f6 f7 f8 hF f
          have hwq : Ext w wq := Ext.trans hwr (hSi _ _ hS9)
          clear hS9 hS1 hS2 hS0 hSx hSi S heq i1 i2 hu49
          go_wp2_with fail
          go_roundw
          case rel =>
            refine ⟨j + 1, by omega, by go_num, ?_, hwq⟩
            rw [List.take_add_one, List.take_add_one, HT.out, List.getElem?_eq_getElem hjl, List.getElem?_eq_getElem hjm, hxy]
          case measure => simp [intOf]; omega
        · have hb : (L[j] == M[j]) = false := by simpa using hxy
          simp only [hb] at heq
          clear hb
          go_wp2_with fail
          refine wp_region_asks2 0 [FactG.val (.slice (some ⟨b1, o1, none⟩) L.length c), FactG.val (.int .i64 (j : Int)), FactG.val (.pointer (some ⟨b1, o1 + j * 32, none⟩)), FactG.val (.agg X.toArray), FactG.val (.slice (some ⟨b2, o2, none⟩) L.length d), FactG.val (.int .i64 (j : Int)), FactG.val (.pointer (some ⟨b2, o2 + j * 32, none⟩)), FactG.val (.agg Y.toArray), FactG.val (.bool true)] S [] _ (by kernel_rfl) (by kernel_rfl) (by kernel_rfl) rfl hSx hS0 ?_ ?_
          · refine ⟨?_, ?_, ?_, ?_, ?_, ?_, ?_, ?_, ?_, trivial⟩
            · unfold Ask2
              rw [if_neg (by decide)]
              intro a u jj hx hd hr
              rw [if_pos (wanted_none rfl)]
              have e0 : a.eval (.tmp 0) = .slice (some ⟨b1, o1, none⟩) L.length c := hr 0 rfl
              exact Y_copy (.inl rfl) e0
            · unfold Ask2
              rw [if_neg (by decide)]
              intro a u jj hx hd hr
              rw [if_pos (wanted_none rfl)]
              have e5 : a.eval (.tmp 5) = .int .i64 (j : Int) := hr 5 rfl
              exact Y_copy (.inl rfl) e5
            · unfold Ask2
              rw [if_neg (by decide)]
              intro a u jj hx hd hr
              rw [if_pos (wanted_none rfl)]
              have e17 : a.eval (.tmp 17) = .slice (some ⟨b1, o1, none⟩) L.length c := hd 0 17 rfl rfl
              have e18 : a.eval (.tmp 18) = .int .i64 (j : Int) := hd 1 18 rfl rfl
              clear hd hr
              simp only [Act.eval, Array.getD_eq_getD_getElem?] at e17 e18
              exact Y_val (v := .pointer (some ⟨b1, o1 + j * 32, none⟩)) (by go_simp) rfl
            · unfold Ask2
              rw [if_neg (by decide)]
              intro a u jj hx hd hr
              rw [if_pos (wanted_none rfl)]
              have e19 : a.eval (.tmp 19) = .pointer (some ⟨b1, o1 + j * 32, none⟩) := hd 2 19 rfl rfl
              exact Y_load_mid 49 (.tmp 19) rfl b1 (o1 + j * 32) e19 X _ (hS1 _ _ hx) hu49 rfl i1 rfl
            · unfold Ask2
              rw [if_neg (by decide)]
              intro a u jj hx hd hr
              rw [if_pos (wanted_none rfl)]
              have e1 : a.eval (.tmp 1) = .slice (some ⟨b2, o2, none⟩) L.length d := hr 1 rfl
              exact Y_copy (.inl rfl) e1
            · unfold Ask2
              rw [if_neg (by decide)]
              intro a u jj hx hd hr
              rw [if_pos (wanted_none rfl)]
              have e5 : a.eval (.tmp 5) = .int .i64 (j : Int) := hr 5 rfl
              exact Y_copy (.inl rfl) e5
            · unfold Ask2
              rw [if_neg (by decide)]
              intro a u jj hx hd hr
              rw [if_pos (wanted_none rfl)]
              have e21 : a.eval (.tmp 21) = .slice (some ⟨b2, o2, none⟩) L.length d := hd 4 21 rfl rfl
              have e22 : a.eval (.tmp 22) = .int .i64 (j : Int) := hd 5 22 rfl rfl
              clear hd hr
              simp only [Act.eval, Array.getD_eq_getD_getElem?] at e21 e22
              exact Y_val (v := .pointer (some ⟨b2, o2 + j * 32, none⟩)) (by go_simp) rfl
            · unfold Ask2
              rw [if_neg (by decide)]
              intro a u jj hx hd hr
              rw [if_pos (wanted_none rfl)]
              have e23 : a.eval (.tmp 23) = .pointer (some ⟨b2, o2 + j * 32, none⟩) := hd 6 23 rfl rfl
              exact Y_load_mid 49 (.tmp 23) rfl b2 (o2 + j * 32) e23 Y _ (hS2 _ _ hx) hu49 rfl i2 rfl
            · unfold Ask2
              rw [if_neg (by decide)]
              intro a u jj hx hd hr
              rw [if_pos (wanted_none rfl)]
              have e20 : a.eval (.tmp 20) = .agg X.toArray := hd 3 20 rfl rfl
              have e24 : a.eval (.tmp 24) = .agg Y.toArray := hd 7 24 rfl rfl
              clear hd hr
              simp only [Act.eval, Array.getD_eq_getD_getElem?] at e20 e24
              exact Y_val (v := .bool true) (by go_simp) rfl
          intro f wq hS9 hF
          have f0 : f 0 = .slice (some ⟨b1, o1, none⟩) L.length c := hF 0 17 rfl
          have f1 : f 1 = .int .i64 (j : Int) := hF 1 18 rfl
          have f2 : f 2 = .pointer (some ⟨b1, o1 + j * 32, none⟩) := hF 2 19 rfl
          have f3 : f 3 = .agg X.toArray := hF 3 20 rfl
          have f4 : f 4 = .slice (some ⟨b2, o2, none⟩) L.length d := hF 4 21 rfl
          have f5 : f 5 = .int .i64 (j : Int) := hF 5 22 rfl
          have f6 : f 6 = .pointer (some ⟨b2, o2 + j * 32, none⟩) := hF 6 23 rfl
          have f7 : f 7 = .agg Y.toArray := hF 7 24 rfl
          have f8 : f 8 = .bool true := hF 8 25 rfl
          simp only [puts, Act.put, List.setIfInBounds_toArray, List.set_cons_succ, List.set_cons_zero, Nat.zero_add, Nat.reduceAdd, f0, f1, f2, f3, f4, f5, f6, f7, f8]
          clear f0 f1 f2 f3 f4 f5 f6 f7 f8 hF f
          have hwq : Ext w wq := Ext.trans hwr (hSi _ _ hS9)
          clear hS9 hS1 hS2 hS0 hSx hSi S heq i1 i2 hu49
          go_wp2_with fail
          have hN : decide (L = M) = false := decide_eq_false fun h => hxy (by simp only [h])
          rw [hN]
          go_ret
          exact ⟨rfl, hwq⟩
      · have : j = L.length := by omega
        subst this
        have hLM : L = M := by
          have h2 := htk
          rw [List.take_length] at h2
          rw [h2, List.take_of_length_le (by rw [← HLEN.out]; exact Nat.le_refl _)]
        have hD : decide (L = M) = true := decide_eq_true hLM
        have HD := Lib.hid hD
        clear hLM htk hD
        go_wp2_with fail
        rw [HD.out]
        go_ret
        exact ⟨rfl, hwr⟩
  · have hne : ((L.length : Int) != (M.length : Int)) = true := by simp; omega
    have hN : decide (L = M) = false := decide_eq_false fun h => hlen (by rw [h])
    rw [hN]
    clear hN
    go_enter Try.func13, Try.ntmps13
    go_wp2_with fail
    go_ret
    exact ⟨rfl, Ext.refl w⟩
end Go.Proofs.Ytigcfbpgbenabaa
