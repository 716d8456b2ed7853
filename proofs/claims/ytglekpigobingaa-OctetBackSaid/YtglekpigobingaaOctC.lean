import Derived.Test.YtglekpigobingaaOctB
import Derived.Deep.QuietTactic
import Derived.BigQuiet
namespace Go.Proofs.Ytglekpigobingaa
open Go.RowKit

/-- A reader at block g: its bytes, its place, its error. -/
structure Rdr (w : World) (g : Nat) (A : Option Addr) (c : Nat) (bs : List UInt8) (at_ e : Nat) : Prop where
  blk : w.heap[g]? = some (.cells #[.slice A bs.length c, .int .i64 (at_ : Int), .int .i64 (e : Int), .bool true] 52 (0, 0))
  bytes : Bs w A c bs
  le : at_ ≤ bs.length
  ne : ∀ a, A = some a → a.block ≠ g

section
variable {w w' : World} {g : Nat} {A : Option Addr} {c : Nat} {bs : List UInt8} {p e : Nat}
theorem Rdr.lt (h : Rdr w g A c bs p e) : g < w.heap.size := (Array.getElem?_eq_some_iff.1 h.blk).1
theorem Rdr.c0 (h : Rdr w g A c bs p e) : w.cell? ⟨g, 0, none⟩ = some (.slice A bs.length c) := by rw [cell_of_row w g 0 _ _ _ h.blk]; rfl
theorem Rdr.c1 (h : Rdr w g A c bs p e) : w.cell? ⟨g, 1, none⟩ = some (.int .i64 (p : Int)) := by rw [cell_of_row w g 1 _ _ _ h.blk]; rfl
theorem Rdr.c2 (h : Rdr w g A c bs p e) : w.cell? ⟨g, 2, none⟩ = some (.int .i64 (e : Int)) := by rw [cell_of_row w g 2 _ _ _ h.blk]; rfl
theorem Rdr.c3 (h : Rdr w g A c bs p e) : w.cell? ⟨g, 3, none⟩ = some (.bool true) := by rw [cell_of_row w g 3 _ _ _ h.blk]; rfl
theorem Rdr.fz (h : Rdr w g A c bs p e) (j : Nat) : w.frozen? ⟨g, j, none⟩ = false := frozen_of_row w g j _ _ h.blk
theorem Rdr.keep (h : Rdr w g A c bs p e) {row : Option Nat} (hg : w.grownBy w' row) (h1 : some g ≠ row) (h2 : ∀ a, A = some a → some a.block ≠ row) : Rdr w' g A c bs p e :=
  ⟨(hg.block g h.lt h1).trans h.blk, h.bytes.grown hg h2, h.le, h.ne⟩
end

theorem err_any (g : Nat) (A : Option Addr) (c : Nat) (bs : List UInt8) (p e : Nat) (w : World) (h : Rdr w g A c bs p e) :
    Calls Try.prog 21 #[.pointer (some ⟨g, 0, none⟩)] w fun en w' => en = .returned (.int .i64 (e : Int)) ∧ w = w' := by
  have c2 := h.c2
  have c3 := h.c3
  go_enter Try.func21, Try.ntmps21
  go_wp2
  go_ret
  exact ⟨rfl, rfl⟩

theorem left_any (g : Nat) (A : Option Addr) (c : Nat) (bs : List UInt8) (p e : Nat) (w : World) (h : Rdr w g A c bs p e) :
    Calls Try.prog 23 #[.pointer (some ⟨g, 0, none⟩)] w fun en w' => en = .returned (.int .i64 ((bs.length - p : Nat) : Int)) ∧ ∃ n, w.drewN n = w' := by
  have c0 := h.c0
  have c1 := h.c1
  have hle := h.le
  have hm := h.bytes.le
  have hM := h.bytes.max
  unfold maxLen at hM
  go_enter Try.func23, Try.ntmps23
  go_wp2_with fail
  go_quiet (fail)
  go_wp2_with fail
  go_ret
  exact ⟨ret_int (by omega), _, rfl⟩

theorem Rdr.set {w : World} {g : Nat} {A : Option Addr} {c : Nat} {bs : List UInt8} {p e : Nat} (h : Rdr w g A c bs p e) (p' : Nat) (hp : p' ≤ bs.length) :
    Rdr (w.setCell ⟨g, 1, none⟩ (.int .i64 (p' : Int))) g A c bs p' e ∧ w.grownBy (w.setCell ⟨g, 1, none⟩ (.int .i64 (p' : Int))) (some g) :=
  ⟨⟨heap_setCell_same w g 1 _ _ _ h.blk, h.bytes.setCell _ _ h.ne, hp, h.ne⟩, ⟨rfl, rfl, rfl, by simp [World.setCell], fun k _ hk => heap_setCell_other w ⟨g, 1, none⟩ k _ (fun e => hk (by simp [e]))⟩⟩
theorem Rdr.setE {w : World} {g : Nat} {A : Option Addr} {c : Nat} {bs : List UInt8} {p e : Nat} (h : Rdr w g A c bs p e) (e' : Nat) :
    Rdr (w.setCell ⟨g, 2, none⟩ (.int .i64 (e' : Int))) g A c bs p e' ∧ w.grownBy (w.setCell ⟨g, 2, none⟩ (.int .i64 (e' : Int))) (some g) :=
  ⟨⟨heap_setCell_same w g 2 _ _ _ h.blk, h.bytes.setCell _ _ h.ne, h.le, h.ne⟩, ⟨rfl, rfl, rfl, by simp [World.setCell], fun k _ hk => heap_setCell_other w ⟨g, 2, none⟩ k _ (fun e => hk (by simp [e]))⟩⟩

theorem fail_any (g : Nat) (A : Option Addr) (c : Nat) (bs : List UInt8) (p e : Nat) (p' e' : Nat) (w : World) (h : Rdr w g A c bs p e) (hp : p' ≤ bs.length) :
    Calls Try.prog 31 #[.pointer (some ⟨g, 0, none⟩), .int .i64 (p' : Int), .int .i64 (e' : Int)] w fun en w' => (∃ v, en = .returned v) ∧ Rdr w' g A c bs p' (if e = 0 then e' else e) ∧ w.grownBy w' (some g) := by
  have c2 := h.c2
  have f1 := h.fz 1
  have f2 := h.fz 2
  have c1 := h.c1
  by_cases he : e = 0
  · subst he
    have h1 := h.setE e'
    have h2 := h1.1.set p' hp
    go_enter Try.func31, Try.ntmps31
    go_wp2
    go_end0
    exact ⟨⟨_, rfl⟩, by simpa using h2.1, h1.2.trans h2.2⟩
  · have hz : ((e : Int) == 0) = false := by simp; omega
    have h2 := h.set p' hp
    have HE := Lib.hid he
    clear he
    go_enter Try.func31, Try.ntmps31
    go_wp2
    go_end0
    exact ⟨⟨_, rfl⟩, h2.1, h2.2⟩

/-- the state of a reader -/
structure R where
  bs : List UInt8
  p : Nat
  e : Nat

def takeR (s : R) (n : Nat) : R × Option (List UInt8) :=
  if s.e ≠ 0 then (s, none)
  else if s.bs.length - s.p < n then ({ s with e := 5 }, none)
  else ({ s with p := s.p + n }, some ((s.bs.take (s.p + n)).drop s.p))

theorem take_any (g : Nat) (A : Option Addr) (c : Nat) (s : R) (n : Nat) (w : World) (hR : Rdr w g A c s.bs s.p s.e) (hn : n ≤ 9223372036854775807) :
    Calls Try.prog 29 #[.pointer (some ⟨g, 0, none⟩), .int .i64 (n : Int)] w fun en w' =>
      ∃ A' c', en = .returned (.tuple #[.slice A' ((takeR s n).2.getD []).length c', .bool (takeR s n).2.isSome]) ∧ Rdr w' g A c (takeR s n).1.bs (takeR s n).1.p (takeR s n).1.e ∧ w.grownBy w' (some g) ∧
        Bs w' A' c' ((takeR s n).2.getD []) ∧ ∀ a, A' = some a → a.block ≠ g := by
  obtain ⟨bs, p, e⟩ := s
  simp only at hR
  have hle := hR.le
  have hm := hR.bytes.le
  have hM := hR.bytes.max
  unfold maxLen at hM
  by_cases he : e = 0
  · subst he
    by_cases hl : bs.length - p < n
    · have hT : takeR ⟨bs, p, 0⟩ n = (⟨bs, p, 5⟩, none) := by simp [takeR, hl]
      rw [hT]
      have HT := Lib.hid hT
      clear hT
      have c1 := hR.c1
      go_enter Try.func29, Try.ntmps29
      go_wp2_with fail
      refine (err_any g A c bs p 0 _ hR).mono ?_
      rintro e w' ⟨rfl, rfl⟩
      go_wp2_with fail
      refine (left_any g A c bs p 0 _ hR).mono ?_
      rintro e w' ⟨rfl, n1, rfl⟩
      go_wp2_with fail
      have h1 : Rdr (w.drewN n1) g A c bs p 0 := ⟨hR.blk, hR.bytes.drewN _, hR.le, hR.ne⟩
      refine (fail_any g A c bs p 0 p 5 _ h1 hle).mono ?_
      rintro e w1 ⟨⟨v, rfl⟩, h2, hg2⟩
      go_wp2_with fail
      go_ret2
      exact ⟨none, 0, rfl, by simpa using h2, ⟨hg2.os, hg2.tape, hg2.output, hg2.size, hg2.block⟩, Sl.nil _ _, fun _ h => by cases h⟩
    · have hT : takeR ⟨bs, p, 0⟩ n = (⟨bs, p + n, 0⟩, some ((bs.take (p + n)).drop p)) := by simp [takeR, hl]
      rw [hT]
      have HT := Lib.hid hT
      clear hT
      have hcut : Bs w (if c = p then A else A.map (·.add p)) (c - p) ((bs.take (p + n)).drop p) := by
        have h3 := hR.bytes.cut (lo := p) (hi := p + n) (by omega) (by omega)
        have e : ((bs.take (p + n)).drop p).length = p + n - p := by simp; omega
        unfold Bs
        rw [e, List.map_drop, List.map_take]
        simpa using h3
      have hne : ∀ a, (if c = p then A else A.map (·.add p)) = some a → a.block ≠ g := by
        intro a ha
        split at ha
        · exact hR.ne a ha
        · obtain ⟨b, hb, rfl⟩ := Option.map_eq_some_iff.1 ha
          rw [blk_add]
          exact hR.ne b hb
      have HC := Lib.hid hcut
      have HE := Lib.hid hne
      clear hcut hne
      have hlen : min (p + n) bs.length - p = n := by omega
      have HL := Lib.hid hlen
      clear hlen
      have c0 := hR.c0
      have c1 := hR.c1
      have f1 := hR.fz 1
      go_enter Try.func29, Try.ntmps29
      go_wp2_with fail
      refine (err_any g A c bs p 0 _ hR).mono ?_
      rintro e w' ⟨rfl, rfl⟩
      go_wp2_with fail
      refine (left_any g A c bs p 0 _ hR).mono ?_
      rintro e w' ⟨rfl, n1, rfl⟩
      go_wp2_with fail
      go_quiet (fail)
      go_wp2_with fail
      all_goals
        have h2 := Rdr.set (w := w.drewN (n1 + nq)) ⟨hR.blk, hR.bytes.drewN _, hR.le, hR.ne⟩ (p + n) (by omega)
        have hC := HC.out
        have hE := HE.out
        simp only [h, if_true, if_false] at hC hE
        rw [Int.natCast_add] at h2
        try rw [h] at h2
        go_ret2
        refine ⟨_, _, ?_, h2.1, World.grownBy.trans (b := w.drewN (n1 + nq)) ⟨rfl, rfl, rfl, Nat.le_refl _, fun _ _ _ => rfl⟩ h2.2, Sl.setCell (Sl.drewN hC (n1 + nq)) ⟨g, 1, none⟩ _ hE, hE⟩
        rw [HL.out]
        simp
  · have hT : takeR ⟨bs, p, e⟩ n = (⟨bs, p, e⟩, none) := by simp [takeR, he]
    rw [hT]
    have HT := Lib.hid hT
    clear hT
    have hz : ((e : Int) != 0) = true := by simp; omega
    clear he
    go_enter Try.func29, Try.ntmps29
    go_wp2_with fail
    refine (err_any g A c bs p e _ hR).mono ?_
    rintro e w' ⟨rfl, rfl⟩
    go_wp2_with fail
    go_ret2
    exact ⟨none, 0, rfl, hR, World.grownBy.refl _ _, Sl.nil _ _, fun _ h => by cases h⟩
end Go.Proofs.Ytglekpigobingaa
