import Derived.Test.YtglekpigobingaaOctI
import Derived.Test.YtglekpigobingaaReg
import Derived.OpenShut
namespace Go.Proofs.Ytglekpigobingaa
open Go.RowKit

section
variable {w : World} {v : Value} {l p : List UInt8} {u : Value}
theorem own_B (h : IsB l v w) (hl : l.length ≤ 140737488355000) : Calls Try.prog 10 #[v] w fun e w' => ∃ r, e = .returned r ∧ IsB l r w' ∧ Ext w w' := by
  obtain ⟨A, c, rfl, hb⟩ := h
  exact IsB.calls (own_any A c l w hb hl)
theorem number_B {n : Nat} (h : IsB l v w) (hn : n < 2 ^ 64) (hl : l.length ≤ 140737488355000) : Calls Try.prog 9 #[v, .int .u64 (n : Int)] w fun e w' => ∃ r, e = .returned r ∧ IsB (l ++ num n) r w' ∧ Ext w w' := by
  obtain ⟨A, c, rfl, hb⟩ := h
  exact IsB.calls (number_any A c l n w hb hn hl)
theorem refnum_B {n : Nat} (h : IsB l v w) (hn : n < 2 ^ 64) (hl : l.length ≤ 140737488355000) : Calls Try.prog 11 #[v, .int .u64 (n : Int)] w fun e w' => ∃ r, e = .returned r ∧ IsB (l ++ num n) r w' ∧ Ext w w' := by
  obtain ⟨A, c, rfl, hb⟩ := h
  exact IsB.calls (refnum_any A c l n w hb hn hl)
theorem block_B (h : IsB l v w) (h2 : IsB p u w) (hl : l.length + p.length ≤ 140737488354000) : Calls Try.prog 12 #[v, u] w fun e w' => ∃ r, e = .returned r ∧ IsB (l ++ num p.length ++ p) r w' ∧ Ext w w' := by
  obtain ⟨A, c, rfl, hb⟩ := h
  obtain ⟨B, d, rfl, hb2⟩ := h2
  exact IsB.calls (block_any A c l B d p w hb hb2 hl)
theorem refblock_B (h : IsB l v w) (h2 : IsB p u w) (hl : l.length + p.length ≤ 140737488354000) : Calls Try.prog 13 #[v, u] w fun e w' => ∃ r, e = .returned r ∧ IsB (l ++ num p.length ++ p) r w' ∧ Ext w w' := by
  obtain ⟨A, c, rfl, hb⟩ := h
  obtain ⟨B, d, rfl, hb2⟩ := h2
  exact IsB.calls (refblock_any A c l B d p w hb hb2 hl)
theorem oword_B {n : Nat} {size : Int} (h : IsB l v w) (hn : n < 2 ^ 64) (hl : l.length ≤ 140737488355000) : Calls Try.prog 14 #[v, .int .u64 (n : Int), .int .i64 size] w fun e w' => ∃ r, e = .returned r ∧ IsB (l ++ word (ksize size) n) r w' ∧ Ext w w' := by
  obtain ⟨A, c, rfl, hb⟩ := h
  exact IsB.calls (oword_any A c l n size w hb hn hl)
theorem refword_B {n : Nat} {size : Int} (h : IsB l v w) (hl : l.length ≤ 140737488355000) : Calls Try.prog 15 #[v, .int .u64 (n : Int), .int .i64 size] w fun e w' => ∃ r, e = .returned r ∧ IsB (l ++ word (ksize size) n) r w' ∧ Ext w w' := by
  obtain ⟨A, c, rfl, hb⟩ := h
  exact IsB.calls (refword_any A c l n size w hb hl)
end

set_option maxHeartbeats 4000000 in
theorem calls_walk (A : Option Addr) (c : Nat) (b : List UInt8) (B : Option Addr) (d : Nat) (p : List UInt8) (n : Nat) (size : Int) (w : World) (hA : Bs w A c b) (hB : Bs w B d p) (hn : n < 2 ^ 64) :
    Calls Try.prog 4 #[.slice A b.length c, .slice B p.length d, .int .u64 (n : Int), .int .i64 size] w fun e w' => e = .returned (.bool true) ∧ Below w.heap.size w w' := by
  by_cases hl : 3000 < b.length
  · go_enter Try.func4, Try.ntmps4
    go_wp2_with (go_at_call 8; refine (lives_any _).mono ?_; rintro e w1 ⟨rfl, hb1⟩)
    go_ret
    exact ⟨rfl, hb1⟩
  · by_cases hl2 : 3000 < p.length
    · go_enter Try.func4, Try.ntmps4
      go_wp2_with (go_at_call 8; refine (lives_any _).mono ?_; rintro e w1 ⟨rfl, hb1⟩)
      go_ret
      exact ⟨rfl, hb1⟩
    · go_enter Try.func4, Try.ntmps4
      go_wp2_with (go_at_call 8; refine (lives_any _).mono ?_; rintro e w1 ⟨rfl, hx1⟩)
      have hb0 : IsB b (.slice A b.length c) w1 := ⟨A, c, rfl, Sl.below hA hx1⟩
      have hb1 : IsB p (.slice B p.length d) w1 := ⟨B, d, rfl, Sl.below hB hx1⟩
      refine wp_region_asks [Fact.bytes (b), Fact.bytes (b), Fact.val (.int .u64 (n : Int)), Fact.bytes (b ++ num n), Fact.val (.string ⟨(b ++ num n).toArray⟩), Fact.bytes (b), Fact.val (.int .u64 (n : Int)), Fact.bytes (b ++ num n), Fact.val (.string ⟨(b ++ num n).toArray⟩), Fact.val (.bool true), Fact.val (.bool true), Fact.bytes (b), Fact.bytes (b), Fact.bytes (p), Fact.bytes (p), Fact.bytes (b ++ num p.length ++ p), Fact.val (.string ⟨(b ++ num p.length ++ p).toArray⟩), Fact.bytes (b), Fact.bytes (p), Fact.bytes (b ++ num p.length ++ p), Fact.val (.string ⟨(b ++ num p.length ++ p).toArray⟩), Fact.val (.bool true), Fact.val (.bool true), Fact.val (.bool true), Fact.bytes (b), Fact.bytes (b), Fact.val (.int .u64 (n : Int)), Fact.val (.int .i64 size), Fact.bytes (b ++ word (ksize size) n), Fact.val (.string ⟨(b ++ word (ksize size) n).toArray⟩), Fact.bytes (b), Fact.val (.int .u64 (n : Int)), Fact.val (.int .i64 size), Fact.bytes (b ++ word (ksize size) n), Fact.val (.string ⟨(b ++ word (ksize size) n).toArray⟩), Fact.val (.bool true), Fact.val (.bool true), Fact.val (.bool true)] w1 _ (by kernel_rfl) (by kernel_rfl) rfl (Ext.refl w1) ?_ ?_
      · refine ⟨?_, ?_, ?_, ?_, ?_, ?_, ?_, ?_, ?_, ?_, ?_, ?_, ?_, ?_, ?_, ?_, ?_, ?_, ?_, ?_, ?_, ?_, ?_, ?_, ?_, ?_, ?_, ?_, ?_, ?_, ?_, ?_, ?_, ?_, ?_, ?_, ?_, ?_, trivial⟩
        · intro a w hx hd hr
          rw [if_pos (wanted_none rfl)]
          have e0 : IsB (b) (a.eval (.tmp 0)) w := by rw [hr 0 rfl]; exact (Fact.bytes (b)).ext _ _ _ hb0 hx
          exact Y_copy (.inl rfl) e0
        · intro a w hx hd hr
          rw [if_pos (wanted_none rfl)]
          have e19 : IsB (b) (a.eval (.tmp 19)) w := hd 0 19 rfl rfl
          clear hd hr
          refine Y_calls (f := 10) (args := #[(a.eval (.tmp 19))]) (by go_simp) ?_
          exact own_B e19 (by omega)
        · intro a w hx hd hr
          rw [if_pos (wanted_none rfl)]
          have e2 : a.eval (.tmp 2) = .int .u64 (n : Int) := hr 2 rfl
          exact Y_copy (.inl rfl) e2
        · intro a w hx hd hr
          rw [if_pos (wanted_none rfl)]
          have e20 : IsB (b) (a.eval (.tmp 20)) w := hd 1 20 rfl rfl
          have e21 : a.eval (.tmp 21) = .int .u64 (n : Int) := hd 2 21 rfl rfl
          clear hd hr
          refine Y_calls (f := 9) (args := #[(a.eval (.tmp 20)), (a.eval (.tmp 21))]) (by go_simp) ?_
          rw [e21]
          exact number_B e20 hn (by omega)
        · intro a w hx hd hr
          rw [if_pos (wanted_none rfl)]
          have e22 : IsB (b ++ num n) (a.eval (.tmp 22)) w := hd 3 22 rfl rfl
          exact Y_str rfl e22 Try.underlying24 Try.underlying5 Try.underlying9 rfl
        · intro a w hx hd hr
          rw [if_pos (wanted_none rfl)]
          have e0 : IsB (b) (a.eval (.tmp 0)) w := by rw [hr 0 rfl]; exact (Fact.bytes (b)).ext _ _ _ hb0 hx
          exact Y_copy (.inl rfl) e0
        · intro a w hx hd hr
          rw [if_pos (wanted_none rfl)]
          have e2 : a.eval (.tmp 2) = .int .u64 (n : Int) := hr 2 rfl
          exact Y_copy (.inl rfl) e2
        · intro a w hx hd hr
          rw [if_pos (wanted_none rfl)]
          have e24 : IsB (b) (a.eval (.tmp 24)) w := hd 5 24 rfl rfl
          have e25 : a.eval (.tmp 25) = .int .u64 (n : Int) := hd 6 25 rfl rfl
          clear hd hr
          refine Y_calls (f := 11) (args := #[(a.eval (.tmp 24)), (a.eval (.tmp 25))]) (by go_simp) ?_
          rw [e25]
          exact refnum_B e24 hn (by omega)
        · intro a w hx hd hr
          rw [if_pos (wanted_none rfl)]
          have e26 : IsB (b ++ num n) (a.eval (.tmp 26)) w := hd 7 26 rfl rfl
          exact Y_str rfl e26 Try.underlying24 Try.underlying5 Try.underlying9 rfl
        · intro a w hx hd hr
          rw [if_pos (wanted_none rfl)]
          have e23 : a.eval (.tmp 23) = .string ⟨(b ++ num n).toArray⟩ := hd 4 23 rfl rfl
          have e27 : a.eval (.tmp 27) = .string ⟨(b ++ num n).toArray⟩ := hd 8 27 rfl rfl
          clear hd hr
          simp only [Act.eval, Array.getD_eq_getD_getElem?] at e23 e27
          exact Y_val (v := .bool true) (by go_simp) rfl
        · intro a w hx hd hr
          rw [if_pos (wanted_none rfl)]
          have e28 : a.eval (.tmp 28) = .bool true := hd 9 28 rfl rfl
          exact Y_copy (.inl rfl) e28
        · intro a w hx hd hr
          have eg : a.eval (.tmp 29) = .bool true := hd 10 29 rfl rfl
          rw [if_pos (by rw [wanted_some rfl rfl eg]; rfl)]
          have e0 : IsB (b) (a.eval (.tmp 0)) w := by rw [hr 0 rfl]; exact (Fact.bytes (b)).ext _ _ _ hb0 hx
          exact Y_copy (.inl rfl) e0
        · intro a w hx hd hr
          have eg : a.eval (.tmp 29) = .bool true := hd 10 29 rfl rfl
          rw [if_pos (by rw [wanted_some rfl rfl eg]; rfl)]
          have e30 : IsB (b) (a.eval (.tmp 30)) w := hd 11 30 rfl rfl
          clear hd hr
          refine Y_calls (f := 10) (args := #[(a.eval (.tmp 30))]) (by go_simp) ?_
          exact own_B e30 (by omega)
        · intro a w hx hd hr
          have eg : a.eval (.tmp 29) = .bool true := hd 10 29 rfl rfl
          rw [if_pos (by rw [wanted_some rfl rfl eg]; rfl)]
          have e1 : IsB (p) (a.eval (.tmp 1)) w := by rw [hr 1 rfl]; exact (Fact.bytes (p)).ext _ _ _ hb1 hx
          exact Y_copy (.inl rfl) e1
        · intro a w hx hd hr
          have eg : a.eval (.tmp 29) = .bool true := hd 10 29 rfl rfl
          rw [if_pos (by rw [wanted_some rfl rfl eg]; rfl)]
          have e32 : IsB (p) (a.eval (.tmp 32)) w := hd 13 32 rfl rfl
          clear hd hr
          refine Y_calls (f := 10) (args := #[(a.eval (.tmp 32))]) (by go_simp) ?_
          exact own_B e32 (by omega)
        · intro a w hx hd hr
          have eg : a.eval (.tmp 29) = .bool true := hd 10 29 rfl rfl
          rw [if_pos (by rw [wanted_some rfl rfl eg]; rfl)]
          have e31 : IsB (b) (a.eval (.tmp 31)) w := hd 12 31 rfl rfl
          have e33 : IsB (p) (a.eval (.tmp 33)) w := hd 14 33 rfl rfl
          clear hd hr
          refine Y_calls (f := 12) (args := #[(a.eval (.tmp 31)), (a.eval (.tmp 33))]) (by go_simp) ?_
          exact block_B e31 e33 (by omega)
        · intro a w hx hd hr
          have eg : a.eval (.tmp 29) = .bool true := hd 10 29 rfl rfl
          rw [if_pos (by rw [wanted_some rfl rfl eg]; rfl)]
          have e34 : IsB (b ++ num p.length ++ p) (a.eval (.tmp 34)) w := hd 15 34 rfl rfl
          exact Y_str rfl e34 Try.underlying24 Try.underlying5 Try.underlying9 rfl
        · intro a w hx hd hr
          have eg : a.eval (.tmp 29) = .bool true := hd 10 29 rfl rfl
          rw [if_pos (by rw [wanted_some rfl rfl eg]; rfl)]
          have e0 : IsB (b) (a.eval (.tmp 0)) w := by rw [hr 0 rfl]; exact (Fact.bytes (b)).ext _ _ _ hb0 hx
          exact Y_copy (.inl rfl) e0
        · intro a w hx hd hr
          have eg : a.eval (.tmp 29) = .bool true := hd 10 29 rfl rfl
          rw [if_pos (by rw [wanted_some rfl rfl eg]; rfl)]
          have e1 : IsB (p) (a.eval (.tmp 1)) w := by rw [hr 1 rfl]; exact (Fact.bytes (p)).ext _ _ _ hb1 hx
          exact Y_copy (.inl rfl) e1
        · intro a w hx hd hr
          have eg : a.eval (.tmp 29) = .bool true := hd 10 29 rfl rfl
          rw [if_pos (by rw [wanted_some rfl rfl eg]; rfl)]
          have e36 : IsB (b) (a.eval (.tmp 36)) w := hd 17 36 rfl rfl
          have e37 : IsB (p) (a.eval (.tmp 37)) w := hd 18 37 rfl rfl
          clear hd hr
          refine Y_calls (f := 13) (args := #[(a.eval (.tmp 36)), (a.eval (.tmp 37))]) (by go_simp) ?_
          exact refblock_B e36 e37 (by omega)
        · intro a w hx hd hr
          have eg : a.eval (.tmp 29) = .bool true := hd 10 29 rfl rfl
          rw [if_pos (by rw [wanted_some rfl rfl eg]; rfl)]
          have e38 : IsB (b ++ num p.length ++ p) (a.eval (.tmp 38)) w := hd 19 38 rfl rfl
          exact Y_str rfl e38 Try.underlying24 Try.underlying5 Try.underlying9 rfl
        · intro a w hx hd hr
          have eg : a.eval (.tmp 29) = .bool true := hd 10 29 rfl rfl
          rw [if_pos (by rw [wanted_some rfl rfl eg]; rfl)]
          have e35 : a.eval (.tmp 35) = .string ⟨(b ++ num p.length ++ p).toArray⟩ := hd 16 35 rfl rfl
          have e39 : a.eval (.tmp 39) = .string ⟨(b ++ num p.length ++ p).toArray⟩ := hd 20 39 rfl rfl
          clear hd hr
          simp only [Act.eval, Array.getD_eq_getD_getElem?] at e35 e39
          exact Y_val (v := .bool true) (by go_simp) rfl
        · intro a w hx hd hr
          rw [if_pos (wanted_none rfl)]
          have e29 : a.eval (.tmp 29) = .bool true := hd 10 29 rfl rfl
          have e40 : a.eval (.tmp 40) = .bool true := hd 21 40 rfl rfl
          exact Y_pick rfl e29 e40
        · intro a w hx hd hr
          rw [if_pos (wanted_none rfl)]
          have e41 : a.eval (.tmp 41) = .bool true := hd 22 41 rfl rfl
          exact Y_copy (.inl rfl) e41
        · intro a w hx hd hr
          have eg : a.eval (.tmp 42) = .bool true := hd 23 42 rfl rfl
          rw [if_pos (by rw [wanted_some rfl rfl eg]; rfl)]
          have e0 : IsB (b) (a.eval (.tmp 0)) w := by rw [hr 0 rfl]; exact (Fact.bytes (b)).ext _ _ _ hb0 hx
          exact Y_copy (.inl rfl) e0
        · intro a w hx hd hr
          have eg : a.eval (.tmp 42) = .bool true := hd 23 42 rfl rfl
          rw [if_pos (by rw [wanted_some rfl rfl eg]; rfl)]
          have e43 : IsB (b) (a.eval (.tmp 43)) w := hd 24 43 rfl rfl
          clear hd hr
          refine Y_calls (f := 10) (args := #[(a.eval (.tmp 43))]) (by go_simp) ?_
          exact own_B e43 (by omega)
        · intro a w hx hd hr
          have eg : a.eval (.tmp 42) = .bool true := hd 23 42 rfl rfl
          rw [if_pos (by rw [wanted_some rfl rfl eg]; rfl)]
          have e2 : a.eval (.tmp 2) = .int .u64 (n : Int) := hr 2 rfl
          exact Y_copy (.inl rfl) e2
        · intro a w hx hd hr
          have eg : a.eval (.tmp 42) = .bool true := hd 23 42 rfl rfl
          rw [if_pos (by rw [wanted_some rfl rfl eg]; rfl)]
          have e3 : a.eval (.tmp 3) = .int .i64 size := hr 3 rfl
          exact Y_copy (.inl rfl) e3
        · intro a w hx hd hr
          have eg : a.eval (.tmp 42) = .bool true := hd 23 42 rfl rfl
          rw [if_pos (by rw [wanted_some rfl rfl eg]; rfl)]
          have e44 : IsB (b) (a.eval (.tmp 44)) w := hd 25 44 rfl rfl
          have e45 : a.eval (.tmp 45) = .int .u64 (n : Int) := hd 26 45 rfl rfl
          have e46 : a.eval (.tmp 46) = .int .i64 size := hd 27 46 rfl rfl
          clear hd hr
          refine Y_calls (f := 14) (args := #[(a.eval (.tmp 44)), (a.eval (.tmp 45)), (a.eval (.tmp 46))]) (by go_simp) ?_
          rw [e45, e46]
          exact oword_B e44 hn (by omega)
        · intro a w hx hd hr
          have eg : a.eval (.tmp 42) = .bool true := hd 23 42 rfl rfl
          rw [if_pos (by rw [wanted_some rfl rfl eg]; rfl)]
          have e47 : IsB (b ++ word (ksize size) n) (a.eval (.tmp 47)) w := hd 28 47 rfl rfl
          exact Y_str rfl e47 Try.underlying24 Try.underlying5 Try.underlying9 rfl
        · intro a w hx hd hr
          have eg : a.eval (.tmp 42) = .bool true := hd 23 42 rfl rfl
          rw [if_pos (by rw [wanted_some rfl rfl eg]; rfl)]
          have e0 : IsB (b) (a.eval (.tmp 0)) w := by rw [hr 0 rfl]; exact (Fact.bytes (b)).ext _ _ _ hb0 hx
          exact Y_copy (.inl rfl) e0
        · intro a w hx hd hr
          have eg : a.eval (.tmp 42) = .bool true := hd 23 42 rfl rfl
          rw [if_pos (by rw [wanted_some rfl rfl eg]; rfl)]
          have e2 : a.eval (.tmp 2) = .int .u64 (n : Int) := hr 2 rfl
          exact Y_copy (.inl rfl) e2
        · intro a w hx hd hr
          have eg : a.eval (.tmp 42) = .bool true := hd 23 42 rfl rfl
          rw [if_pos (by rw [wanted_some rfl rfl eg]; rfl)]
          have e3 : a.eval (.tmp 3) = .int .i64 size := hr 3 rfl
          exact Y_copy (.inl rfl) e3
        · intro a w hx hd hr
          have eg : a.eval (.tmp 42) = .bool true := hd 23 42 rfl rfl
          rw [if_pos (by rw [wanted_some rfl rfl eg]; rfl)]
          have e49 : IsB (b) (a.eval (.tmp 49)) w := hd 30 49 rfl rfl
          have e50 : a.eval (.tmp 50) = .int .u64 (n : Int) := hd 31 50 rfl rfl
          have e51 : a.eval (.tmp 51) = .int .i64 size := hd 32 51 rfl rfl
          clear hd hr
          refine Y_calls (f := 15) (args := #[(a.eval (.tmp 49)), (a.eval (.tmp 50)), (a.eval (.tmp 51))]) (by go_simp) ?_
          rw [e50, e51]
          exact refword_B e49 (by omega)
        · intro a w hx hd hr
          have eg : a.eval (.tmp 42) = .bool true := hd 23 42 rfl rfl
          rw [if_pos (by rw [wanted_some rfl rfl eg]; rfl)]
          have e52 : IsB (b ++ word (ksize size) n) (a.eval (.tmp 52)) w := hd 33 52 rfl rfl
          exact Y_str rfl e52 Try.underlying24 Try.underlying5 Try.underlying9 rfl
        · intro a w hx hd hr
          have eg : a.eval (.tmp 42) = .bool true := hd 23 42 rfl rfl
          rw [if_pos (by rw [wanted_some rfl rfl eg]; rfl)]
          have e48 : a.eval (.tmp 48) = .string ⟨(b ++ word (ksize size) n).toArray⟩ := hd 29 48 rfl rfl
          have e53 : a.eval (.tmp 53) = .string ⟨(b ++ word (ksize size) n).toArray⟩ := hd 34 53 rfl rfl
          clear hd hr
          simp only [Act.eval, Array.getD_eq_getD_getElem?] at e48 e53
          exact Y_val (v := .bool true) (by go_simp) rfl
        · intro a w hx hd hr
          rw [if_pos (wanted_none rfl)]
          have e42 : a.eval (.tmp 42) = .bool true := hd 23 42 rfl rfl
          have e54 : a.eval (.tmp 54) = .bool true := hd 35 54 rfl rfl
          exact Y_pick rfl e42 e54
        · intro a w hx hd hr
          rw [if_pos (wanted_none rfl)]
          have e55 : a.eval (.tmp 55) = .bool true := hd 36 55 rfl rfl
          exact Y_copy (.inr rfl) e55
      · intro a' w' hx hd hs hf hr
        have e8 : a'.tmps.getD 8 undef = .bool true := hf 37 8 rfl
        have hd' : a'.defers = [] := hd
        clear hf hr hs hd
        rename_i K hK
        exact hK a' w' (wp_ret (bodyPost_ret (v := .bool true) (by rw [results_tmp rfl, e8]) hd' ⟨rfl, hx1.trans (hx.mono hx1.size)⟩))

theorem calls_row (A : Option Addr) (c : Nat) (b : List UInt8) (B : Option Addr) (d : Nat) (p : List UInt8) (n size : Int) (w : World) (hA : Bs w A c b) (hB : Bs w B d p) (hn : (Lit.int .u64 n).wf = true) (_ : (Lit.int .i64 size).wf = true) :
    Calls Try.prog 4 #[.slice A b.length c, .slice B p.length d, .int .u64 n, .int .i64 size] w fun e w' => e = .returned (.bool true) ∧ Below w.heap.size w w' := by
  have h0 := bounds_u64 hn
  obtain ⟨m, rfl⟩ := Int.eq_ofNat_of_zero_le h0.1
  exact calls_walk A c b B d p m size w hA hB (by omega)
end Go.Proofs.Ytglekpigobingaa
