import Derived.Test.YtglekpigobingaaOctG
import Derived.Test.YtglekpigobingaaOctL
namespace Go.Proofs.Ytglekpigobingaa
open Go.RowKit

theorem own_base {w : World} {base base' : Nat} {e : TypeId} {size : Nat} {v : Value} {n : Nat} {xs : List Value} (h : w.ownsRow base e size v n xs) (hb : base' ≤ base) : w.ownsRow base' e size v n xs := by
  obtain ⟨h1, h2⟩ := h
  refine ⟨h1, ?_⟩
  rcases h2 with h2 | ⟨g, cap, cur, hv, hg, r⟩
  · exact .inl h2
  · exact .inr ⟨g, cap, cur, hv, by omega, r⟩

set_option maxHeartbeats 1000000 in
theorem block_any (A : Option Addr) (c : Nat) (l : List UInt8) (B : Option Addr) (d : Nat) (p : List UInt8) (w : World) (hA : Bs w A c l) (hB : Bs w B d p) (hl : l.length + p.length ≤ 140737488354000) :
    Calls Try.prog 12 #[.slice A l.length c, .slice B p.length d] w fun e w' => ∃ v, e = .returned v ∧ w'.ownsRow w.heap.size 5 1 v (l ++ num p.length ++ p).length ((l ++ num p.length ++ p).map bc) ∧ Below w.heap.size w w' := by
  obtain ⟨i0, hi0, hz0, hz1, hz2⟩ := info_parts u8_info
  have hN := num_length p.length
  have h9 := sz_le p.length
  obtain ⟨q, hq⟩ : ∃ q, q = num p.length := ⟨_, rfl⟩
  rw [← hq] at hN ⊢
  have hq9 : q.length ≤ 9 := by omega
  have HQ := Lib.hid hq
  clear hN h9 hq
  go_enter Try.func12, Try.ntmps12
  go_wp2_with fail
  refine (grown_any A c l _ _ hA (by omega) (by omega)).mono ?_
  rintro e w1 ⟨v1, rfl, hown1, hb1⟩
  obtain ⟨A1, c1, rfl, hs1, _⟩ := Sl.of_own hown1
  have hs1 : Bs w1 A1 c1 l := hs1
  clear hown1
  go_wp2_with fail
  refine (number_any A1 c1 l p.length _ hs1 (by omega) (by omega)).mono ?_
  rw [← HQ.out]
  rintro e w2 ⟨v2, rfl, hown2, hb2⟩
  have hb : Below w.heap.size w w2 := hb1.trans (hb2.mono hb1.size)
  have hB2 := Sl.below (Sl.below hB hb1) hb2
  have hz := hb1.size
  go_wp2_with (at_builtin; refine wpList_append_sl _ rfl (.tmp 15) (.tmp 16) 24 rfl w1.heap.size 5 i0 _ 1 1 Try.underlying24 hi0 hz0 hz1 hz2 rfl (by omega) _ _ _ rfl hown2 B p.length d (p.map bc) rfl hB2 (bytes_one p) (by simp [maxLen]; omega) (by simp; omega) hb2.size ?_; intro v' w3 hown3 hg3 hat3)
  go_ret
  refine ⟨_, rfl, ?_, hb.grown hg3 hb.size (fun k hk => by have := (hown2.lt k hk).1; omega)⟩
  have : w3.ownsRow w.heap.size 5 1 v' ((l ++ q).length + p.length) ((l ++ q).map bc ++ p.map bc) := own_base hown3 hz
  simpa [Nat.add_assoc] using this

theorem room_walk (n : Nat) (hn : n < 2 ^ 64) (w : World) : Calls Try.prog 27 #[.int .u64 (n : Int)] w fun e w' => e = .returned (.int .i64 (sz n : Nat)) ∧ w = w' := by
  have hp := sz_pos n
  have h9 := sz_le n
  have hgo : ∀ k, 1 ≤ k → k < sz n → ((n : Int) / 2 ^ (7 * k) != 0) = true := by
    intro k h1 hk
    have h : 2 ^ (7 * k) ≤ n := by
      rcases Nat.lt_or_ge n (2 ^ (7 * k)) with h | h
      · have := sz_least n k h (by omega) (by omega); omega
      · exact h
    have h2 : 0 < n / 2 ^ (7 * k) := Nat.div_pos h (Nat.two_pow_pos _)
    have e : (2 : Int) ^ (7 * k) = ((2 ^ (7 * k) : Nat) : Int) := by simp
    rw [bne_iff_ne, e, ← Int.natCast_ediv]
    generalize n / 2 ^ (7 * k) = x at *
    omega
  have hstop : sz n < 9 → ((n : Int) / 2 ^ (7 * sz n) != 0) = false := by
    intro h
    have := sz_fits n hn (by omega)
    rw [bne, this]; rfl
  obtain ⟨s, hs⟩ : ∃ s, s = sz n := ⟨_, rfl⟩
  rw [← hs] at hp h9 hgo hstop ⊢
  have HG := Lib.hid hgo
  have HS := Lib.hid hstop
  clear hs hgo hstop
  go_enter Try.func27, Try.ntmps27
  go_wp2_with fail
  go_loop [3] (fun k => ∃ j : Nat, 1 ≤ j ∧ j ≤ s ∧ k = .int .i64 (j : Int)) (fun k => s - (intOf k).toNat)
  case atStart => exact ⟨1, by omega, by omega, rfl⟩
  case round =>
    obtain ⟨j, h1, hj, rfl⟩ := hrel
    by_cases hjs : j < s
    · have h := HG.out j h1 hjs
      go_wp2
      go_round
      case rel => exact ⟨j + 1, by omega, by omega, by go_num⟩
      case measure => simp [intOf]; omega
    · have : j = s := by omega
      subst this
      by_cases hj9 : j < 9
      · have h := HS.out hj9
        go_wp2
        go_ret
        exact ⟨rfl, rfl⟩
      · go_wp2
        go_ret
        exact ⟨rfl, rfl⟩

theorem wrap_first : ∀ k : Fin 9, 1 ≤ k.val → IntKind.u64.wrap (256 - IntKind.u64.wrap (2 ^ (9 - k.val))) = 256 - 2 ^ (9 - k.val) ∧ (2 : Int) ^ (9 - k.val) = ((2 ^ (9 - k.val) : Nat) : Int) := by decide
theorem first_ref (k n : Nat) (h1 : 1 ≤ k) (h9 : k < 9) (h : n < 2 ^ (7 * k)) :
    (IntKind.u64.wrap (256 - IntKind.u64.wrap (2 ^ (9 - k))) + (n : Int) / 2 ^ (8 * (k - 1))) % 256 = ((first k n).toNat : Int) := by
  have hs := first_small k n h1 h9 h
  have hp : 2 ^ (8 - k) ≤ 128 := by
    have : 2 ^ (8 - k) ≤ 2 ^ 7 := Nat.pow_le_pow_right (by omega) (by omega)
    omega
  have hw := wrap_first ⟨k, by omega⟩ h1
  simp only at hw
  rw [hw.1, hw.2]
  have hq : 2 ^ (9 - k) = 2 * 2 ^ (8 - k) := by rw [show 9 - k = (8 - k) + 1 from by omega, Nat.pow_succ]; omega
  have e1 : (2 : Int) ^ (8 * (k - 1)) = ((256 ^ (k - 1) : Nat) : Int) := by
    rw [show (256 : Nat) = 2 ^ 8 from rfl, ← Nat.pow_mul]; simp
  rw [e1, ← Int.natCast_ediv]
  unfold first
  rw [if_pos h9, UInt8.toNat_ofNat']
  generalize n / 256 ^ (k - 1) = x at *
  omega

set_option maxHeartbeats 1000000 in
theorem refnum_any (A : Option Addr) (c : Nat) (l : List UInt8) (n : Nat) (w : World) (hB : Bs w A c l) (hn : n < 2 ^ 64) (hl : l.length ≤ 140737488355000) :
    Calls Try.prog 11 #[.slice A l.length c, .int .u64 (n : Int)] w fun e w' => ∃ v, e = .returned v ∧ w'.ownsRow w.heap.size 5 1 v (l ++ num n).length ((l ++ num n).map bc) ∧ Below w.heap.size w w' := by
  obtain ⟨i0, hi0, hz0, hz1, hz2⟩ := info_parts u8_info
  have k1 := sz_pos n
  have k9 := sz_le n
  have kr := sz_room n hn
  have hN : num n = first (sz n) n :: be (sz n - 1) n := rfl
  obtain ⟨k, hk⟩ : ∃ k, sz n = k := ⟨_, rfl⟩
  rw [hk] at k1 k9 kr hN
  have HN := Lib.hid hN
  have HK := Lib.hid hk
  clear hN hk
  go_enter Try.func11, Try.ntmps11
  go_wp2_with (at_builtin; refine wpList_append_sl _ rfl (.tmp 8) (.tmp 9) 24 rfl w.heap.size 5 i0 _ 1 1 Try.underlying24 hi0 hz0 hz1 hz2 rfl (by omega) (.slice (some ⟨w.heap.size, 0, none⟩) 0 0) 0 [] rfl (World.ownsRow_lit w #[] 0 (Nat.le_refl _) (by simp [maxLen]) (by simp)) A l.length c (l.map bc) rfl (hB.alloc _) (bytes_one l) (by unfold maxLen; omega) (by omega) (by simp) ?_; intro v1 w1 hown1 hg1 hat1)
  have hb1 : Below w.heap.size w w1 := ((Below.refl _ w).alloc (Nat.le_refl _) _).grown hg1 (by simp) (by simp [Value.ownBlock])
  clear hg1 hat1
  rw [Nat.zero_add, List.nil_append] at hown1
  refine (room_walk n hn _).mono ?_
  rw [HK.out]
  rintro e w' ⟨rfl, rfl⟩
  have hf : (((k : Int) == 9) = true ∧ first k n = 255) ∨ (((k : Int) == 9) = false ∧ (IntKind.u64.wrap (256 - IntKind.u64.wrap (2 ^ (9 - k))) + (n : Int) / 2 ^ (8 * (k - 1))) % 256 = ((first k n).toNat : Int)) := by
    by_cases h9 : k = 9
    · refine .inl ⟨by simp; omega, ?_⟩
      subst h9
      unfold first; rw [if_neg (by omega)]; rfl
    · exact .inr ⟨by simp; omega, first_ref k n k1 (by omega) (kr (by omega))⟩
  have hall : w1.heap.size = w1.heap.size → k = k := fun _ => rfl
  clear kr hall
  rcases hf with ⟨hq, hf⟩ | ⟨hq, hf⟩
  all_goals
    have HF := Lib.hid hf
    try clear hf
    go_wp2_with (first
      | (at_builtin; refine wpList_append_sl _ rfl (.tmp 15) (.tmp 16) 24 rfl w.heap.size 5 i0 _ 1 1 Try.underlying24 hi0 hz0 hz1 hz2 rfl (by omega) v1 l.length (l.map bc) rfl (hown1.alloc _) (some ⟨w1.heap.size, 0, none⟩) 1 1 [bc (first k n)] rfl (by rw [HF.out]; exact Sl.one w1 _ 5) (by simp [bc, Value.oneCell']) (by unfold maxLen; omega) (by omega) (by have := hb1.size; simp; omega) ?_; intro v' w2 hown2 hg2 hat2)
      | (at_builtin; refine wpList_append_sl _ rfl (.tmp 18) (.tmp 33) 24 rfl w.heap.size 5 i0 _ 1 1 Try.underlying24 hi0 hz0 hz1 hz2 rfl (by omega) v1 l.length (l.map bc) rfl (hown1.alloc _) (some ⟨w1.heap.size, 0, none⟩) 1 1 [bc (first k n)] rfl (by rw [HF.out]; exact Sl.one w1 _ 5) (by simp [bc, Value.oneCell']) (by unfold maxLen; omega) (by omega) (by have := hb1.size; simp; omega) ?_; intro v' w2 hown2 hg2 hat2))
    have hb2 : Below w.heap.size w w2 := (hb1.alloc hb1.size _).grown hg2 (by have := hb1.size; simp; omega) (fun g hg => (hown1.lt g hg).1)
    clear hg2 hat2
    go_loopw [5, 7] (fun o i wr => ∃ j : Nat, j ≤ k - 1 ∧ i = .int .i64 ((j : Int) - 1) ∧ wr.ownsRow w.heap.size 5 1 o (l.length + 1 + (k - 1 - j)) ((l ++ first k n :: (be (k - 1) n).take (k - 1 - j)).map bc) ∧ Below w.heap.size w wr) (fun _ i _ => (intOf i + 1).toNat)
    case atStart =>
      refine ⟨k - 1, Nat.le_refl _, ?_, ?_, hb2⟩
      · congr 1; omega
      · simpa using hown2
    case round =>
      obtain ⟨j, hj, rfl, hown, hb⟩ := hrel
      by_cases hj0 : j = 0
      · subst hj0
        go_wp2
        go_ret
        have e1 : l ++ first k n :: List.take (k - 1 - 0) (be (k - 1) n) = l ++ num n := by
          rw [HN.out, List.take_of_length_le (by rw [be_length]; omega)]
        have e2 : l.length + 1 + (k - 1 - 0) = (l ++ num n).length := by
          rw [HN.out]; simp [be_length]; omega
        rw [e1, e2] at hown
        exact ⟨_, rfl, hown, hb⟩
      · obtain ⟨i, rfl⟩ : ∃ i, j = i + 1 := ⟨j - 1, by omega⟩
        rw [show (((i + 1 : Nat) : Int) - 1) = (i : Int) from by omega]
        obtain ⟨q, hq2⟩ : ∃ q, q = UInt8.ofNat (n / 256 ^ i) := ⟨_, rfl⟩
        have hv : ((n : Int) / 2 ^ (8 * i) % 256) = (q.toNat : Int) := by rw [hq2]; exact be_val n i
        have HQ := Lib.hid hq2
        clear hj0 hq2
        go_wp2_with (at_builtin; refine wpList_append_sl _ rfl (.tmp 41) (.tmp 48) 24 rfl w.heap.size 5 i0 _ 1 1 Try.underlying24 hi0 hz0 hz1 hz2 rfl (by omega) _ _ _ rfl (hown.alloc _) (some ⟨wr.heap.size, 0, none⟩) 1 1 [bc q] rfl (Sl.one wr _ 5) (by simp [bc, Value.oneCell']) (by unfold maxLen; omega) (by omega) (by have := hb.size; simp; omega) ?_; intro v3 w3 hown3 hg3 hat3)
        have hb3 : Below w.heap.size w w3 := (hb.alloc hb.size _).grown hg3 (by have := hb.size; simp; omega) (fun g hg => (hown.lt g hg).1)
        clear hg3 hat3
        go_roundw
        case rel =>
          refine ⟨i, by omega, rfl, ?_, hb3⟩
          have e1 : l.length + 1 + (k - 1 - i) = l.length + 1 + (k - 1 - (i + 1)) + 1 := by omega
          have e2 := be_snoc (k - 1) n i (by omega)
          rw [e1, ← e2, ← HQ.out]
          simpa using hown3
        case measure => simp [intOf]
end Go.Proofs.Ytglekpigobingaa
