import Derived.Test.YtglekpigobingaaOctC
namespace Go.Proofs.Ytglekpigobingaa
open Go.RowKit

def failR (s : R) (p e : Nat) : R := { s with p := p, e := if s.e = 0 then e else s.e }
/-- the bytes as a number, the highest first, behind n -/
def foldB (n : Nat) (l : List UInt8) : Nat := l.foldl (fun n c => n * 256 + c.toNat) n
def lead (b : UInt8) : Nat := 9 - Lib.bitLen (255 - b.toNat)
def numR (s : R) : R × Nat :=
  match takeR s 1 with
  | (s1, none) => (s1, 0)
  | (s1, some h) =>
    match takeR s1 (lead (h.headD 0) - 1) with
    | (s2, none) => (failR s2 s.p 5, 0)
    | (s2, some rest) =>
      if sz (foldB ((h.headD 0).toNat % 2 ^ (8 - lead (h.headD 0))) rest) = lead (h.headD 0) then (s2, foldB ((h.headD 0).toNat % 2 ^ (8 - lead (h.headD 0))) rest) else (failR s2 s.p 4, 0)

theorem takeR_some {s s1 : R} {n : Nat} {l : List UInt8} (h : takeR s n = (s1, some l)) :
    s.e = 0 ∧ s1 = { s with p := s.p + n } ∧ l = (s.bs.take (s.p + n)).drop s.p ∧ l.length = n ∧ n ≤ s.bs.length - s.p := by
  unfold takeR at h
  split at h
  · cases h
  · split at h
    · cases h
    · rename_i h1 h2
      simp only [Prod.mk.injEq, Option.some.injEq] at h
      obtain ⟨rfl, rfl⟩ := h
      refine ⟨by simpa using h1, rfl, rfl, by simp; omega, by omega⟩
theorem takeR_none {s s1 : R} {n : Nat} (h : takeR s n = (s1, none)) : s1.bs = s.bs ∧ s1.p = s.p ∧ s1.e ≠ 0 := by
  unfold takeR at h
  split at h
  · rename_i h1
    simp only [Prod.mk.injEq] at h
    obtain ⟨rfl, _⟩ := h
    exact ⟨rfl, rfl, h1⟩
  · split at h
    · simp only [Prod.mk.injEq] at h
      obtain ⟨rfl, _⟩ := h
      exact ⟨rfl, rfl, by simp⟩
    · cases h
theorem xor_byte : ∀ b : Fin 256, bits BinOp.xor IntKind.u8 (if IntKind.u8.signed = true then -1 else IntKind.u8.max) (b.val : Int) = ((255 - b.val : Nat) : Int) := by decide +kernel
theorem and_byte : ∀ (k : Fin 9) (b : Fin 256), bits BinOp.and IntKind.u8 (b.val : Int) (255 / 2 ^ (k.val + 1)) = ((b.val % 2 ^ (7 - k.val) : Nat) : Int) := by decide +kernel
theorem lead_bd (b : UInt8) : 1 ≤ lead b ∧ lead b ≤ 9 := by
  have := Lib.bitLen_le (255 - b.toNat) 8 (by omega) (by omega)
  unfold lead; omega

theorem foldB_lt (l : List UInt8) : ∀ (n B : Nat), n < B → foldB n l < B * 256 ^ l.length := by
  induction l with
  | nil => intro n B h; simpa [foldB] using h
  | cons c l ih =>
    intro n B h
    have hc : c.toNat < 256 := c.toNat_lt
    have := ih (n * 256 + c.toNat) (B * 256) (by omega)
    simp only [foldB, List.foldl_cons, List.length_cons] at this ⊢
    rw [Nat.pow_succ, Nat.mul_comm (256 ^ l.length) 256, ← Nat.mul_assoc]
    exact this
theorem foldB_snoc (n : Nat) (l : List UInt8) (c : UInt8) : foldB n (l ++ [c]) = foldB n l * 256 + c.toNat := by simp [foldB]

theorem Bs.head {w : World} {A : Option Addr} {c : Nat} {b : UInt8} {l : List UInt8} (h : Bs w A c (b :: l)) : ∃ a, A = some a ∧ w.cell? a = some (.int .u8 (b.toNat : Int)) := by
  cases A with
  | none => have := (h.nul rfl).1; simp at this
  | some a =>
    refine ⟨a, rfl, ?_⟩
    have := h.cell a rfl 0 (bc b) (by simp)
    simpa [Addr.add, bc] using this

theorem Bs.cells {w : World} {A : Option Addr} {c : Nat} {l : List UInt8} (h : Bs w A c l) (h0 : 0 < l.length) :
    ∃ b o, A = some ⟨b, o, none⟩ ∧ ∀ j (hj : j < l.length), w.cell? ⟨b, o + j, none⟩ = some (.int .u8 (l[j].toNat : Int)) := by
  cases A with
  | none => have := (h.nul rfl).1; omega
  | some a =>
    have hc : ∀ j (hj : j < l.length), w.cell? (a.add j) = some (.int .u8 (l[j].toNat : Int)) := fun j hj => h.cell a rfl j (bc l[j]) (by simp [hj])
    have hs := World.cell?_spot (hc 0 h0)
    obtain ⟨b, o, s⟩ := a
    have : s = none := by simpa [Addr.add] using hs
    subst this
    refine ⟨b, o, rfl, fun j hj => ?_⟩
    have := hc j hj
    rwa [Addr.add_lit] at this

theorem nat_or_low (y c : Nat) (hc : c < 256) : y * 256 ||| c = y * 256 + c := by
  have h := Nat.two_pow_add_eq_or_of_lt (i := 8) (b := c) hc y
  rw [Nat.mul_comm y 256]
  exact h.symm
theorem or_low (y : Nat) (q : UInt8) (h : y * 256 + q.toNat < 18446744073709551616) : bits BinOp.or IntKind.u64 ((y : Int) * 256) (q.toNat : Int) = ((y * 256 + q.toNat : Nat) : Int) := by
  have hq : q.toNat < 256 := q.toNat_lt
  have e : (y : Int) * 256 = ((y * 256 : Nat) : Int) := by omega
  have h1 : y * 256 < 18446744073709551616 := Nat.lt_of_le_of_lt (Nat.le_add_right _ _) h
  have h2 : q.toNat < 18446744073709551616 := Nat.lt_of_le_of_lt (Nat.le_add_left _ _) h
  rw [e, ← nat_or_low y _ hq]
  generalize y * 256 = z at *
  exact bits_or_u64_nat z q.toNat h1 h2

theorem lz_any (b : UInt8) (m : Nat) (hm : lead b = m + 1) (w : World) :
    Calls Try.prog 30 #[.int .u8 ((255 - b.toNat : Nat) : Int)] w fun e w' => e = .returned (.int .i64 (m : Int)) ∧ w = w' := by
  have hb : b.toNat < 256 := b.toNat_lt
  refine (Try.bits_LeadingZeros8 _ w (by omega) (by omega)).mono ?_
  rintro e w' ⟨rfl, rfl⟩
  refine ⟨ret_int ?_, rfl⟩
  have := Lib.bitLen_le (255 - b.toNat) 8 (by omega) (by omega)
  unfold lead at hm
  rw [Int.toNat_natCast]
  omega

set_option maxHeartbeats 1000000 in
theorem rnum_any (g : Nat) (A : Option Addr) (c : Nat) (s : R) (w : World) (hR : Rdr w g A c s.bs s.p s.e) :
    Calls Try.prog 16 #[.pointer (some ⟨g, 0, none⟩)] w fun en w' =>
      en = .returned (.int .u64 ((numR s).2 : Nat)) ∧ Rdr w' g A c (numR s).1.bs (numR s).1.p (numR s).1.e ∧ w.grownBy w' (some g) := by
  have hle := hR.le
  have hM := hR.bytes.max
  have hM2 := hR.bytes.le
  unfold maxLen at hM
  rcases hT : takeR s 1 with ⟨s1, _ | l1⟩
  · have hN : numR s = (s1, 0) := by unfold numR; rw [hT]
    rw [hN]
    have HT := Lib.hid hT
    clear hT hN
    go_enter Try.func16, Try.ntmps16
    go_wp2_with fail
    refine (take_any g A c s 1 _ hR (by omega)).mono ?_
    rw [HT.out]
    rintro e w1 ⟨A1, c1, rfl, h1, hg1, _, _⟩
    go_wp2_with fail
    go_ret
    exact ⟨rfl, h1, hg1⟩
  · obtain ⟨he, rfl, hl, hlen, hle1⟩ := takeR_some hT
    obtain ⟨b, rfl⟩ : ∃ b, l1 = [b] := by
      match l1, hlen with
      | [b], _ => exact ⟨b, rfl⟩
    clear hlen
    obtain ⟨m, hm⟩ : ∃ m, lead b = m + 1 := ⟨lead b - 1, by have := lead_bd b; omega⟩
    have hm9 : m ≤ 8 := by have := lead_bd b; omega
    have hx := xor_byte ⟨b.toNat, b.toNat_lt⟩
    simp only at hx
    rcases hT2 : takeR { s with p := s.p + 1 } m with ⟨s2, _ | l2⟩
    · have hN : numR s = (failR s2 s.p 5, 0) := by unfold numR; rw [hT]; simp only [List.headD_cons, hm, Nat.add_sub_cancel]; rw [hT2]
      rw [hN]
      obtain ⟨hbs, hp, he2⟩ := takeR_none hT2
      have HT := Lib.hid hT
      have HT2 := Lib.hid hT2
      have HE := Lib.hid he2
      have HB := Lib.hid hbs
      clear hT hN hT2 he hl hbs hp he2
      go_enter Try.func16, Try.ntmps16
      go_wp2_with fail
      refine (take_any g A c s 1 _ hR (by omega)).mono ?_
      rw [HT.out]
      rintro e w1 ⟨A1, c1, rfl, h1, hg1, hb1, hn1⟩
      have k1 := h1.c1
      obtain ⟨a, rfl, hc0⟩ := hb1.head
      go_wp2_with fail
      refine (lz_any b m hm _).mono ?_
      rintro e w1 ⟨rfl, rfl⟩
      go_wp2_with fail
      rw [show (1 + (m : Int) - 1) = (m : Int) from by omega]
      refine (take_any g A c ⟨s.bs, s.p + 1, s.e⟩ m _ h1 (by omega)).mono ?_
      rw [HT2.out]
      rintro e w2 ⟨A2, c2, rfl, h2, hg2, _, _⟩
      go_wp2_with fail
      rw [HB.out] at h2
      refine (fail_any g A c s.bs s2.p s2.e s.p 5 _ h2 hle).mono ?_
      rintro e w3 ⟨⟨v, rfl⟩, h3, hg3⟩
      go_wp2_with fail
      go_ret
      refine ⟨rfl, ?_, (hg1.trans hg2).trans hg3⟩
      unfold failR
      rw [HB.out]
      exact h3
    · obtain ⟨_, rfl, hl2, hlen2, hle2⟩ := takeR_some hT2
      simp only at hle2
      have hN : numR s = if sz (foldB (b.toNat % 2 ^ (7 - m)) l2) = m + 1 then (⟨s.bs, s.p + 1 + m, s.e⟩, foldB (b.toNat % 2 ^ (7 - m)) l2) else (failR ⟨s.bs, s.p + 1 + m, s.e⟩ s.p 4, 0) := by
        unfold numR; rw [hT]; simp only [List.headD_cons, hm, Nat.add_sub_cancel]; rw [hT2]; simp only [show 8 - (m + 1) = 7 - m from by omega]
      obtain ⟨k, hk⟩ : ∃ k, k = m + 1 := ⟨_, rfl⟩
      have hkm : (1 + (m : Int)) = (k : Int) := by omega
      have hk9 : k ≤ 9 := by omega
      have hk1 : 1 ≤ k := by omega
      obtain ⟨x, hX⟩ : ∃ x, x = b.toNat % 2 ^ (7 - m) := ⟨_, rfl⟩
      rw [← hX] at hN
      have ha : bits BinOp.and IntKind.u8 (b.toNat : Int) (255 / 2 ^ min k 8) = (x : Int) := by
        rw [hX]
        by_cases h8 : m = 8
        · subst h8; subst hk; exact and_byte ⟨7, by omega⟩ ⟨b.toNat, b.toNat_lt⟩
        · rw [hk, Nat.min_eq_left (by omega)]; exact and_byte ⟨m, by omega⟩ ⟨b.toNat, b.toNat_lt⟩
      have hx255 : x ≤ 255 := by have := b.toNat_lt; have := Nat.mod_le b.toNat (2 ^ (7 - m)); omega
      have hfold : ∀ j, j ≤ l2.length → foldB x (l2.take j) < 18446744073709551616 := by
        intro j hj
        have h1 := foldB_lt (l2.take j) x (2 ^ (7 - m)) (by rw [hX]; exact Nat.mod_lt _ (Nat.two_pow_pos _))
        have h2 : 2 ^ (7 - m) * 256 ^ (l2.take j).length ≤ 2 ^ 64 := by
          rw [show (256 : Nat) = 2 ^ 8 from rfl, ← Nat.pow_mul, ← Nat.pow_add]
          exact Nat.pow_le_pow_right (by omega) (by simp; omega)
        omega
      have HX := Lib.hid hX
      have HF := Lib.hid hfold
      clear hX hfold
      have HKM := Lib.hid hkm
      have HK := Lib.hid hk
      clear hkm hk
      have HT := Lib.hid hT
      have HT2 := Lib.hid hT2
      have HN := Lib.hid hN
      have HL := Lib.hid hlen2
      clear hT hN hT2 he hl hl2 hlen2
      go_enter Try.func16, Try.ntmps16
      go_wp2_with fail
      refine (take_any g A c s 1 _ hR (by omega)).mono ?_
      rw [HT.out]
      rintro e w1 ⟨A1, c1, rfl, h1, hg1, hb1, hn1⟩
      have k1 := h1.c1
      obtain ⟨a, rfl, hc0⟩ := hb1.head
      go_wp2_with fail
      refine (lz_any b m hm _).mono ?_
      rintro e w1 ⟨rfl, rfl⟩
      go_wp2_with fail
      rw [show (1 + (m : Int) - 1) = (m : Int) from by omega]
      refine (take_any g A c ⟨s.bs, s.p + 1, s.e⟩ m _ h1 (by omega)).mono ?_
      rw [HT2.out]
      rintro e w2 ⟨A2, c2, rfl, h2, hg2, hb2, hn2⟩
      have hc2 : w2.cell? a = some (.int .u8 (b.toNat : Int)) := hg2.cell hc0 (by simp; exact hn1 a rfl)
      rw [HKM.out]
      go_wp2_with fail
      go_quiet (fail)
      go_wp2_with fail
      go_loop [8, 50] (fun n i => ∃ j : Nat, j ≤ l2.length ∧ i = .int .i64 (j : Int) ∧ n = .int .u64 ((foldB x (l2.take j) : Nat) : Int)) (fun _ i => l2.length - (intOf i).toNat)
      case atStart =>
        refine ⟨0, by omega, rfl, ?_⟩
        congr 1
      case round =>
        obtain ⟨j, hj, rfl, rfl⟩ := hrel
        by_cases hjl : j < l2.length
        · obtain ⟨b2, o2, rfl, hcell⟩ := hb2.cells (by simpa using (by omega : 0 < l2.length))
          have hc : w2.cell? ⟨b2, o2 + j, none⟩ = some (.int .u8 (l2[j].toNat : Int)) := hcell j hjl
          have hf1 := HF.out (j + 1) (by omega)
          rw [List.take_add_one, List.getElem?_eq_getElem hjl, Option.toList_some, foldB_snoc] at hf1
          obtain ⟨y, hy⟩ : ∃ y, y = foldB x (l2.take j) := ⟨_, rfl⟩
          rw [← hy] at hf1
          rw [← hy]
          have HY := Lib.hid hy
          obtain ⟨q, hq⟩ : ∃ q, q = l2[j] := ⟨_, rfl⟩
          rw [← hq] at hc hf1
          have HQ := Lib.hid hq
          clear hy hq hcell
          have hor := or_low y q hf1
          have hl8 : l2.length ≤ 8 := by rw [HL.out]; omega
          go_wp2
          go_round
          case rel =>
            refine ⟨j + 1, by omega, by go_num, ?_⟩
            rw [List.take_add_one, List.getElem?_eq_getElem hjl, Option.toList_some, foldB_snoc, ← HY.out, ← HQ.out, Int.natCast_add, Int.natCast_mul]
            rfl
          case measure => simp [intOf]; omega
        · have : j = l2.length := by omega
          subst this
          rw [List.take_length]
          have hy64 : foldB x l2 < 18446744073709551616 := by have := HF.out l2.length (Nat.le_refl _); rwa [List.take_length] at this
          have h2' : Rdr (w2.drewN nq) g A c s.bs (s.p + 1 + m) s.e := ⟨h2.blk, h2.bytes.drewN _, h2.le, h2.ne⟩
          have hg2' : w1.grownBy (w2.drewN nq) (some g) := hg2.trans ⟨rfl, rfl, rfl, Nat.le_refl _, fun _ _ _ => rfl⟩
          by_cases hsz : sz (foldB x l2) = m + 1
          · have hks : ((sz (foldB x l2) : Int) != (k : Int)) = false := by rw [hsz, HK.out]; simp
            have HS := Lib.hid hsz
            clear hsz
            go_wp2_with (go_at_call 25; refine (size_any (foldB x l2) hy64 _).mono ?_; rintro e w' ⟨rfl, rfl⟩)
            go_ret
            rw [HN.out, if_pos HS.out]
            exact ⟨rfl, h2', hg1.trans hg2'⟩
          · have hks : ((sz (foldB x l2) : Int) != (k : Int)) = true := by rw [HK.out]; simp; omega
            have HS := Lib.hid hsz
            clear hsz
            go_wp2_with (first | (go_at_call 25; refine (size_any (foldB x l2) hy64 _).mono ?_; rintro e w' ⟨rfl, rfl⟩) | (go_at_call 31; refine (fail_any g A c s.bs (s.p + 1 + m) s.e s.p 4 _ h2' hle).mono ?_; rintro e w3 ⟨⟨v, rfl⟩, h3, hg3⟩))
            go_ret
            rw [HN.out, if_neg HS.out]
            exact ⟨rfl, h3, (hg1.trans hg2').trans hg3⟩
end Go.Proofs.Ytglekpigobingaa
