import Derived.Test.YtglekpigobingaaOctD
namespace Go.Proofs.Ytglekpigobingaa
open Go.RowKit

/-- What Take answers: a copy. -/
theorem rtake_any (g : Nat) (A : Option Addr) (c : Nat) (s : R) (n : Int) (w : World) (hR : Rdr w g A c s.bs s.p s.e) (hn : n ≤ 9223372036854775807) (hl : s.bs.length ≤ 140737488355000) :
    Calls Try.prog 19 #[.pointer (some ⟨g, 0, none⟩), .int .i64 n] w fun en w' =>
      ∃ A' c', en = .returned (.slice A' ((takeR s n.toNat).2.getD []).length c') ∧ Rdr w' g A c (takeR s n.toNat).1.bs (takeR s n.toNat).1.p (takeR s n.toNat).1.e ∧ w.grownBy w' (some g) ∧
        Bs w' A' c' ((takeR s n.toNat).2.getD []) ∧ ∀ a, A' = some a → w.heap.size ≤ a.block := by
  have hmx : max 0 n = (n.toNat : Int) := by omega
  obtain ⟨m, hm⟩ : ∃ m, m = n.toNat := ⟨_, rfl⟩
  rw [← hm] at hmx ⊢
  have hm9 : m ≤ 9223372036854775807 := by omega
  rcases hT : takeR s m with ⟨s1, _ | l1⟩
  · have HT := Lib.hid hT
    have HM := Lib.hid hm
    clear hT hm
    go_enter Try.func19, Try.ntmps19
    go_wp2_with fail
    refine (take_any g A c s m _ hR hm9).mono ?_
    rw [HT.out]
    rintro e w1 ⟨A1, c1, rfl, h1, hg1, hb1, hn1⟩
    go_wp2_with fail
    go_ret
    exact ⟨none, 0, rfl, h1, hg1, Sl.nil _ _, fun _ h => by cases h⟩
  · obtain ⟨_, rfl, hl1, hlen1, _⟩ := takeR_some hT
    have HT := Lib.hid hT
    have HM := Lib.hid hm
    have hll : l1.length ≤ s.bs.length := by rw [hl1]; simp; omega
    clear hT hm hl1 hlen1
    go_enter Try.func19, Try.ntmps19
    go_wp2_with fail
    refine (take_any g A c s m _ hR hm9).mono ?_
    rw [HT.out]
    rintro e w1 ⟨A1, c1, rfl, h1, hg1, hb1, hn1⟩
    simp only [Option.getD_some] at hb1
    go_wp2_with fail
    refine (grown_any A1 c1 l1 0 _ hb1 (by omega) (by omega)).mono ?_
    rintro e w2 ⟨v, rfl, hown2, hb2⟩
    obtain ⟨A2, c2, rfl, hs2, hge2⟩ := Sl.of_own hown2
    have hg2 : w1.grownBy w2 none := ⟨hb2.os, hb2.tape, hb2.output, hb2.size, fun k hk _ => hb2.block k hk⟩
    have h2 := h1.keep hg2 (by simp) (fun _ _ => by simp)
    go_wp2_with fail
    go_ret
    exact ⟨A2, c2, rfl, h2, hg1.trans ⟨hb2.os, hb2.tape, hb2.output, hb2.size, fun k hk _ => hb2.block k hk⟩, hs2, fun a ha => Nat.le_trans hg1.size (hge2 a ha)⟩

def blockR (s : R) : R × List UInt8 :=
  if s.e ≠ 0 then (s, [])
  else if (numR s).1.e ≠ 0 then ((numR s).1, [])
  else if (numR s).1.bs.length - (numR s).1.p < (numR s).2 then (failR (numR s).1 s.p 5, [])
  else ((takeR (numR s).1 (numR s).2).1, (takeR (numR s).1 (numR s).2).2.getD [])

theorem below_grown {w w' : World} {row : Option Nat} (hb : Below w.heap.size w w') : w.grownBy w' row := ⟨hb.os, hb.tape, hb.output, hb.size, fun k hk _ => hb.block k hk⟩
theorem Rdr.drewN {w : World} {g : Nat} {A : Option Addr} {c : Nat} {bs : List UInt8} {p e : Nat} (h : Rdr w g A c bs p e) (n : Nat) : Rdr (w.drewN n) g A c bs p e := ⟨h.blk, h.bytes.drewN _, h.le, h.ne⟩
theorem grown_drewN (w : World) (n : Nat) (row : Option Nat) : w.grownBy (w.drewN n) row := ⟨rfl, rfl, rfl, Nat.le_refl _, fun _ _ _ => rfl⟩
theorem failR_bs (s : R) (p e : Nat) : (failR s p e).bs = s.bs := rfl
theorem takeR_bs (s : R) (n : Nat) : (takeR s n).1.bs = s.bs := by
  unfold takeR
  split
  · rfl
  · split <;> rfl
theorem numR_bs (s : R) : (numR s).1.bs = s.bs := by
  unfold numR
  rcases h : takeR s 1 with ⟨s1, _ | l⟩
  · simp only; rw [← takeR_bs s 1, h]
  · simp only
    have e1 : s1.bs = s.bs := by rw [← takeR_bs s 1, h]
    rcases h2 : takeR s1 (lead (l.headD 0) - 1) with ⟨s2, _ | l2⟩
    · simp only [failR_bs]; rw [← e1, ← takeR_bs s1 (lead (l.headD 0) - 1), h2]
    · simp only
      have e2 : s2.bs = s.bs := by rw [← e1, ← takeR_bs s1 (lead (l.headD 0) - 1), h2]
      split <;> simp [failR_bs, e2]

theorem rblock_any (g : Nat) (A : Option Addr) (c : Nat) (s : R) (w : World) (hR : Rdr w g A c s.bs s.p s.e) (hl : s.bs.length ≤ 140737488355000) :
    Calls Try.prog 17 #[.pointer (some ⟨g, 0, none⟩)] w fun en w' =>
      ∃ A' c', en = .returned (.slice A' (blockR s).2.length c') ∧ Rdr w' g A c (blockR s).1.bs (blockR s).1.p (blockR s).1.e ∧ w.grownBy w' (some g) ∧
        Bs w' A' c' (blockR s).2 ∧ ∀ a, A' = some a → w.heap.size ≤ a.block := by
  by_cases he : s.e ≠ 0
  · have hB : blockR s = (s, []) := by unfold blockR; rw [if_pos he]
    rw [hB]
    have hz : ((s.e : Int) != 0) = true := by simp; omega
    clear he hB
    go_enter Try.func17, Try.ntmps17
    go_wp2_with fail
    refine (err_any g A c s.bs s.p s.e _ hR).mono ?_
    rintro e w' ⟨rfl, rfl⟩
    go_wp2_with fail
    go_ret
    exact ⟨none, 0, rfl, hR, World.grownBy.refl _ _, Sl.nil _ _, fun _ h => by cases h⟩
  · have hz : ((s.e : Int) != 0) = false := by simp; omega
    have c1 := hR.c1
    have hle := hR.le
    have hE := Lib.hid he
    have hbs := numR_bs s
    obtain ⟨q, hq⟩ : ∃ q, q = (numR s).1 := ⟨_, rfl⟩
    obtain ⟨n2, hn2⟩ : ∃ n, n = (numR s).2 := ⟨_, rfl⟩
    have hB : blockR s = if q.e ≠ 0 then (q, []) else if q.bs.length - q.p < n2 then (failR q s.p 5, []) else ((takeR q n2).1, (takeR q n2).2.getD []) := by
      unfold blockR; rw [if_neg he, ← hq, ← hn2]
    rw [← hq] at hbs
    have HB := Lib.hid hB
    have HQ := Lib.hid hq
    have HN := Lib.hid hn2
    have HBS := Lib.hid hbs
    clear he hB hq hn2 hbs
    by_cases hqe : q.e ≠ 0
    · have hz2 : ((q.e : Int) != 0) = true := by simp; omega
      have HQE := Lib.hid hqe
      clear hqe
      go_enter Try.func17, Try.ntmps17
      go_wp2_with fail
      refine (err_any g A c s.bs s.p s.e _ hR).mono ?_
      rintro e w' ⟨rfl, rfl⟩
      go_wp2_with fail
      refine (rnum_any g A c s _ hR).mono ?_
      rw [← HQ.out, ← HN.out]
      rintro e w1 ⟨rfl, h1, hg1⟩
      have c2 := h1.c2
      go_wp2_with fail
      go_ret
      rw [HB.out, if_pos HQE.out]
      exact ⟨none, 0, rfl, h1, hg1, Sl.nil _ _, fun _ h => by cases h⟩
    · have hz2 : ((q.e : Int) != 0) = false := by simp; omega
      have HQE := Lib.hid hqe
      clear hqe
      by_cases hlt : q.bs.length - q.p < n2
      · go_enter Try.func17, Try.ntmps17
        go_wp2_with fail
        refine (err_any g A c s.bs s.p s.e _ hR).mono ?_
        rintro e w' ⟨rfl, rfl⟩
        go_wp2_with fail
        refine (rnum_any g A c s _ hR).mono ?_
        rw [← HQ.out, ← HN.out]
        rintro e w1 ⟨rfl, h1, hg1⟩
        have c2 := h1.c2
        have hle1 := h1.le
        go_wp2_with fail
        refine (left_any g A c q.bs q.p q.e _ h1).mono ?_
        rintro e w' ⟨rfl, n1, rfl⟩
        have hql : q.bs.length ≤ 140737488355000 := by rw [HBS.out]; exact hl
        go_wp2_with fail
        refine (fail_any g A c q.bs q.p q.e s.p 5 _ (h1.drewN n1) (by rw [HBS.out]; exact hle)).mono ?_
        rintro e w3 ⟨⟨v, rfl⟩, h3, hg3⟩
        go_wp2_with fail
        go_ret
        rw [HB.out, if_neg HQE.out, if_pos hlt]
        exact ⟨none, 0, rfl, h3, (hg1.trans (grown_drewN _ _ _)).trans hg3, Sl.nil _ _, fun _ h => by cases h⟩
      · go_enter Try.func17, Try.ntmps17
        go_wp2_with fail
        refine (err_any g A c s.bs s.p s.e _ hR).mono ?_
        rintro e w' ⟨rfl, rfl⟩
        go_wp2_with fail
        refine (rnum_any g A c s _ hR).mono ?_
        rw [← HQ.out, ← HN.out]
        rintro e w1 ⟨rfl, h1, hg1⟩
        have c2 := h1.c2
        have hle1 := h1.le
        go_wp2_with fail
        refine (left_any g A c q.bs q.p q.e _ h1).mono ?_
        rintro e w' ⟨rfl, n1, rfl⟩
        have hql : q.bs.length ≤ 140737488355000 := by rw [HBS.out]; exact hl
        go_wp2_with fail
        refine (rtake_any g A c q n2 _ (h1.drewN n1) (by omega) hql).mono ?_
        rw [Int.toNat_natCast]
        rintro e w3 ⟨A3, c3, rfl, h3, hg3, hb3, hge3⟩
        go_wp2_with fail
        go_ret
        rw [HB.out, if_neg HQE.out, if_neg hlt]
        have hgg := hg1.trans (grown_drewN w1 n1 (some g))
        exact ⟨A3, c3, rfl, h3, hgg.trans hg3, hb3, fun a ha => Nat.le_trans hgg.size (hge3 a ha)⟩

def endR (s : R) : Nat := if s.e ≠ 0 then s.e else if 0 < s.bs.length - s.p then 4 else 0

theorem rend_any (g : Nat) (A : Option Addr) (c : Nat) (s : R) (w : World) (hR : Rdr w g A c s.bs s.p s.e) :
    Calls Try.prog 22 #[.pointer (some ⟨g, 0, none⟩)] w fun en w' => en = .returned (.int .i64 (endR s : Nat)) ∧ ∃ n, w.drewN n = w' := by
  by_cases he : s.e ≠ 0
  · have hz : ((s.e : Int) != 0) = true := by simp; omega
    have hE : endR s = s.e := by unfold endR; rw [if_pos he]
    rw [hE]
    clear he hE
    go_enter Try.func22, Try.ntmps22
    go_wp2_with fail
    refine (err_any g A c s.bs s.p s.e _ hR).mono ?_
    rintro e w' ⟨rfl, rfl⟩
    go_wp2_with fail
    go_ret
    exact ⟨rfl, 0, rfl⟩
  · have hz : ((s.e : Int) != 0) = false := by simp; omega
    have hE : endR s = if 0 < s.bs.length - s.p then 4 else 0 := by unfold endR; rw [if_neg he]
    rw [hE]
    clear he hE
    by_cases hl : 0 < s.bs.length - s.p
    · rw [if_pos hl]
      go_enter Try.func22, Try.ntmps22
      go_wp2_with fail
      refine (err_any g A c s.bs s.p s.e _ hR).mono ?_
      rintro e w' ⟨rfl, rfl⟩
      go_wp2_with fail
      refine (left_any g A c s.bs s.p s.e _ hR).mono ?_
      rintro e w' ⟨rfl, n1, rfl⟩
      go_wp2_with fail
      go_ret
      exact ⟨rfl, n1, rfl⟩
    · rw [if_neg hl]
      go_enter Try.func22, Try.ntmps22
      go_wp2_with fail
      refine (err_any g A c s.bs s.p s.e _ hR).mono ?_
      rintro e w' ⟨rfl, rfl⟩
      go_wp2_with fail
      refine (left_any g A c s.bs s.p s.e _ hR).mono ?_
      rintro e w' ⟨rfl, n1, rfl⟩
      go_wp2_with fail
      go_ret
      exact ⟨rfl, n1, rfl⟩

/-- Read makes a reader. -/
theorem read_any (A : Option Addr) (c : Nat) (l : List UInt8) (w : World) (hB : Bs w A c l) (hl : l.length ≤ 140737488355000) :
    Calls Try.prog 24 #[.slice A l.length c] w fun en w' => ∃ g A' c', en = .returned (.pointer (some ⟨g, 0, none⟩)) ∧ w.heap.size ≤ g ∧ Rdr w' g A' c' l 0 0 ∧ (∀ a, A' = some a → w.heap.size ≤ a.block) ∧ Below w.heap.size w w' := by
  go_enter Try.func24, Try.ntmps24
  go_wp2_with fail
  refine (grown_any A c l 0 _ hB (by omega) (by omega)).mono ?_
  rintro e w1 ⟨v, rfl, hown, hb⟩
  have hown2 := hown
  obtain ⟨A1, c1, rfl, hs, hge⟩ := Sl.of_own hown
  have hs' : Bs w1 A1 c1 l := hs
  go_wp2_with fail
  go_ret
  refine ⟨w1.heap.size, A1, c1, rfl, hb.size, ⟨heap_alloc_new _ _, hs.alloc _, by omega, fun a ha => ?_⟩, hge, hb.alloc hb.size _⟩
  subst ha
  exact Nat.ne_of_lt (hown2.lt a.block rfl).2
end Go.Proofs.Ytglekpigobingaa
