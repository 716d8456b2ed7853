import Derived.Test.YtglekpigobingaaOctF
import Derived.Test.YtglekpigobingaaOctL
namespace Go.Proofs.Ytglekpigobingaa
open Go.RowKit

set_option maxHeartbeats 1000000 in
theorem order_walk (n m : Nat) (hn : n < 2 ^ 64) (hm : m < 2 ^ 64) (w : World) : Calls Try.prog 3 #[.int .u64 (n : Int), .int .u64 (m : Int)] w fun e w' => e = .returned (.bool true) ∧ Below w.heap.size w w' := by
  have hlt := num_less n m hn hm
  have heq := num_inj n m hn hm
  have hmono : n < m → ¬ (num m).length < (num n).length := fun h => by rw [num_length, num_length]; have := sz_mono (Nat.le_of_lt h) hm; omega
  have hfit := sz_fits n hn
  have hneed := sz_needs n
  have hp := sz_pos n
  have h9 := sz_le n
  rw [← num_length n] at hfit hneed hp h9
  obtain ⟨k, hk⟩ : ∃ k, (num n).length = k := ⟨_, rfl⟩
  obtain ⟨k2, hk2⟩ : ∃ k, (num m).length = k := ⟨_, rfl⟩
  obtain ⟨l, hl⟩ : ∃ l, num n = l := ⟨_, rfl⟩
  obtain ⟨l2, hl2⟩ : ∃ l, num m = l := ⟨_, rfl⟩
  have hk9 : k2 ≤ 9 := by have := sz_le m; rw [← num_length] at this; omega
  rw [hk, hk2] at hmono
  rw [hk] at hfit hneed hp h9
  rw [hl, hl2] at hlt heq
  rw [hl] at hk
  rw [hl2] at hk2
  have HK := Lib.hid hk
  have HK2 := Lib.hid hk2
  have HL := Lib.hid hl
  have HL2 := Lib.hid hl2
  clear hk hk2 hl hl2
  have hc : (k = 9 ∧ k ≠ 1) ∨ (k = 1 ∧ k ≠ 9) ∨ (k ≠ 9 ∧ k ≠ 1) := by omega
  have hd : (n < m ∧ ¬ k2 < k) ∨ ¬ n < m := by
    by_cases h : n < m
    · exact .inl ⟨h, hmono h⟩
    · exact .inr h
  clear hmono
  rcases hc with ⟨e1, e2⟩ | ⟨e1, e2⟩ | ⟨e1, e2⟩
  · subst e1
    have hz2 := hneed e2
    rw [show (2 : Int) ^ (7 * (9 - 1)) = 72057594037927936 from by decide] at hz2
    clear hfit hneed e2
    rcases hd with ⟨d1, d2⟩ | d1
    all_goals
      go_enter Try.func3, Try.ntmps3
      go_wp2_with fail
      refine (lives_any _).mono ?_
      rintro e w1 ⟨rfl, hb1⟩
      go_wp2_with fail
      refine (number_any none 0 [] n _ (Sl.nil _ _) hn (by simp)).mono ?_
      rw [List.nil_append, HL.out]
      rintro e w2 ⟨v2, rfl, hown2, hb2⟩
      obtain ⟨A2, c2, rfl, hs2, _, _⟩ := str_of hown2
      have b2 : Below w.heap.size w w2 := hb1.trans (hb2.mono hb1.size)
      go_wp2_with fail
      refine (number_any none 0 [] m _ (Sl.nil _ _) hm (by simp)).mono ?_
      rw [List.nil_append, HL2.out]
      rintro e w3 ⟨v3, rfl, hown3, hb3⟩
      obtain ⟨A3, c3, rfl, hs3, he3, _⟩ := str_of hown3
      have b3 : Below w.heap.size w w3 := b2.trans (hb3.mono b2.size)
      have he2 := run_str (hs2.below hb3) 24 9 5 Try.underlying24 Try.underlying5 Try.underlying9
      rw [HK.out] at he2
      rw [HK2.out] at he3
      rw [HK.out, HK2.out]
      clear hown2 hown3 hs2 hs3 hb1 hb2 hb3 b2
      go_wp2_with fail
      go_ret
      exact ⟨rfl, b3⟩
  · subst e1
    have hz1 := hfit e2
    rw [show (2 : Int) ^ (7 * 1) = 128 from by decide] at hz1
    clear hfit hneed e2
    rcases hd with ⟨d1, d2⟩ | d1
    all_goals
      go_enter Try.func3, Try.ntmps3
      go_wp2_with fail
      refine (lives_any _).mono ?_
      rintro e w1 ⟨rfl, hb1⟩
      go_wp2_with fail
      refine (number_any none 0 [] n _ (Sl.nil _ _) hn (by simp)).mono ?_
      rw [List.nil_append, HL.out]
      rintro e w2 ⟨v2, rfl, hown2, hb2⟩
      obtain ⟨A2, c2, rfl, hs2, _, _⟩ := str_of hown2
      have b2 : Below w.heap.size w w2 := hb1.trans (hb2.mono hb1.size)
      go_wp2_with fail
      refine (number_any none 0 [] m _ (Sl.nil _ _) hm (by simp)).mono ?_
      rw [List.nil_append, HL2.out]
      rintro e w3 ⟨v3, rfl, hown3, hb3⟩
      obtain ⟨A3, c3, rfl, hs3, he3, _⟩ := str_of hown3
      have b3 : Below w.heap.size w w3 := b2.trans (hb3.mono b2.size)
      have he2 := run_str (hs2.below hb3) 24 9 5 Try.underlying24 Try.underlying5 Try.underlying9
      rw [HK.out] at he2
      rw [HK2.out] at he3
      rw [HK.out, HK2.out]
      clear hown2 hown3 hs2 hs3 hb1 hb2 hb3 b2
      go_wp2_with fail
      go_ret
      exact ⟨rfl, b3⟩
  · have hz1 := hfit e1
    have hz2 := hneed e2
    have q9 : ((k : Int) == 9) = false := by simp; omega
    have q1 : ((k : Int) == 1) = false := by simp; omega
    clear hfit hneed e1 e2
    rcases hd with ⟨d1, d2⟩ | d1
    all_goals
      go_enter Try.func3, Try.ntmps3
      go_wp2_with fail
      refine (lives_any _).mono ?_
      rintro e w1 ⟨rfl, hb1⟩
      go_wp2_with fail
      refine (number_any none 0 [] n _ (Sl.nil _ _) hn (by simp)).mono ?_
      rw [List.nil_append, HL.out]
      rintro e w2 ⟨v2, rfl, hown2, hb2⟩
      obtain ⟨A2, c2, rfl, hs2, _, _⟩ := str_of hown2
      have b2 : Below w.heap.size w w2 := hb1.trans (hb2.mono hb1.size)
      go_wp2_with fail
      refine (number_any none 0 [] m _ (Sl.nil _ _) hm (by simp)).mono ?_
      rw [List.nil_append, HL2.out]
      rintro e w3 ⟨v3, rfl, hown3, hb3⟩
      obtain ⟨A3, c3, rfl, hs3, he3, _⟩ := str_of hown3
      have b3 : Below w.heap.size w w3 := b2.trans (hb3.mono b2.size)
      have he2 := run_str (hs2.below hb3) 24 9 5 Try.underlying24 Try.underlying5 Try.underlying9
      rw [HK.out] at he2
      rw [HK2.out] at he3
      rw [HK.out, HK2.out]
      clear hown2 hown3 hs2 hs3 hb1 hb2 hb3 b2
      go_wp2_with fail
      go_ret
      exact ⟨rfl, b3⟩
end Go.Proofs.Ytglekpigobingaa
