import Derived.Test.YtglekpigobingaaOctG
import Derived.Test.YtglekpigobingaaDig
namespace Go.Proofs.Ytglekpigobingaa
open Go.RowKit

/-- bytes as a number, the lowest first -/
def valLE (l : List UInt8) : Nat := l.foldr (fun c n => c.toNat + 256 * n) 0
theorem valLE_append : ∀ (l m : List UInt8), valLE (l ++ m) = valLE l + 256 ^ l.length * valLE m
  | [], m => by simp [valLE]
  | c :: l, m => by
    have ih := valLE_append l m
    simp only [valLE, List.cons_append, List.foldr_cons, List.length_cons] at ih ⊢
    rw [ih, Nat.mul_add, Nat.pow_succ, Nat.mul_comm (256 ^ l.length) 256, Nat.mul_assoc, Nat.add_assoc]
theorem valLE_lt : ∀ l : List UInt8, valLE l < 256 ^ l.length
  | [] => by simp [valLE]
  | c :: l => by
    have ih := valLE_lt l
    have hc := c.toNat_lt
    simp only [valLE, List.foldr_cons, List.length_cons] at ih ⊢
    rw [Nat.pow_succ]
    omega
def wordR (s : R) (k : Nat) : R × Nat := ((takeR s k).1, valLE ((takeR s k).2.getD []))

theorem wrapN (x : Nat) (h : x < 18446744073709551616) : IntKind.u64.wrap (x : Int) = (x : Int) := by
  rw [IntKind.wrap_u64]; omega
theorem or_high (y c j : Nat) (hy : y < 256 ^ j) (hb : y + 256 ^ j * c < 18446744073709551616) : bits BinOp.or IntKind.u64 (y : Int) ((c * 256 ^ j : Nat) : Int) = ((y + 256 ^ j * c : Nat) : Int) := by
  have e : y + 256 ^ j * c = y ||| c * 256 ^ j := by
    have h := Nat.two_pow_add_eq_or_of_lt (i := 8 * j) (b := y) (by rw [Nat.pow_mul]; exact hy) c
    rw [Nat.pow_mul] at h
    rw [Nat.add_comm, h, Nat.or_comm, Nat.mul_comm]
  have h1 : y < 18446744073709551616 := Nat.lt_of_le_of_lt (Nat.le_add_right _ _) hb
  have h2 : c * 256 ^ j < 18446744073709551616 := by rw [Nat.mul_comm]; exact Nat.lt_of_le_of_lt (Nat.le_add_left _ _) hb
  rw [e]
  generalize c * 256 ^ j = z at *
  exact bits_or_u64_nat y z h1 h2

set_option maxHeartbeats 1000000 in
theorem rword_any (g : Nat) (A : Option Addr) (c : Nat) (s : R) (size : Int) (w : World) (hR : Rdr w g A c s.bs s.p s.e) :
    Calls Try.prog 18 #[.pointer (some ⟨g, 0, none⟩), .int .i64 size] w fun en w' =>
      en = .returned (.int .u64 ((wordR s (ksize size)).2 : Nat)) ∧ Rdr w' g A c (wordR s (ksize size)).1.bs (wordR s (ksize size)).1.p (wordR s (ksize size)).1.e ∧ w.grownBy w' (some g) := by
  obtain ⟨k, hk⟩ : ∃ k, k = ksize size := ⟨_, rfl⟩
  have hk1 : max 1 (min size 8) = (k : Int) := by rw [hk]; unfold ksize; omega
  have hk8 : k ≤ 8 := by omega
  rw [← hk]
  have HK := Lib.hid hk1
  clear hk hk1
  obtain ⟨l, hl⟩ : ∃ l, l = (takeR s k).2.getD [] := ⟨_, rfl⟩
  have hl8 : l.length ≤ 8 := by
    rcases hT : takeR s k with ⟨s1, _ | l1⟩
    · rw [hl, hT]; simp
    · have := (takeR_some hT).2.2.2.1
      rw [hl, hT]; simp; omega
  have hw : wordR s k = ((takeR s k).1, valLE l) := by unfold wordR; rw [hl]
  have HW := Lib.hid hw
  have HL := Lib.hid hl
  clear hw hl
  go_enter Try.func18, Try.ntmps18
  go_wp2_with fail
  refine (clamp_any size _).mono ?_
  rw [HK.out]
  rintro e w' ⟨rfl, rfl⟩
  go_wp2_with fail
  refine (take_any g A c s k _ hR (by omega)).mono ?_
  rw [← HL.out]
  rintro e w1 ⟨A1, c1, rfl, h1, hg1, hb1, hn1⟩
  go_wp2_with fail
  go_loop [7, 19] (fun n i => ∃ j : Nat, j ≤ l.length ∧ i = .int .i64 (j : Int) ∧ n = .int .u64 ((valLE (l.take j) : Nat) : Int)) (fun _ i => l.length - (intOf i).toNat)
  case atStart => exact ⟨0, by omega, rfl, rfl⟩
  case round =>
    obtain ⟨j, hj, rfl, rfl⟩ := hrel
    by_cases hjl : j < l.length
    · obtain ⟨b2, o2, rfl, hcell⟩ := hb1.cells (by omega)
      have hc : w1.cell? ⟨b2, o2 + j, none⟩ = some (.int .u8 (l[j].toNat : Int)) := hcell j hjl
      have hs : valLE (l.take (j + 1)) = valLE (l.take j) + 256 ^ j * l[j].toNat := by
        rw [List.take_add_one, List.getElem?_eq_getElem hjl, Option.toList_some, valLE_append]
        simp [valLE, Nat.min_eq_left hj]
      have hlt := valLE_lt (l.take (j + 1))
      have hlt0 := valLE_lt (l.take j)
      rw [List.length_take, Nat.min_eq_left (by omega)] at hlt hlt0
      have hp : 256 ^ (j + 1) ≤ 2 ^ 64 := by
        rw [show (256 : Nat) = 2 ^ 8 from rfl, ← Nat.pow_mul]; exact Nat.pow_le_pow_right (by omega) (by omega)
      obtain ⟨y, hy⟩ : ∃ y, y = valLE (l.take j) := ⟨_, rfl⟩
      obtain ⟨q, hq⟩ : ∃ q, q = l[j] := ⟨_, rfl⟩
      rw [← hy] at hs hlt0 ⊢
      rw [← hq] at hc hs
      have hb : y + 256 ^ j * q.toNat < 18446744073709551616 := by rw [← hs]; omega
      have hor : bits BinOp.or IntKind.u64 (y : Int) (IntKind.u64.wrap (IntKind.u64.wrap (q.toNat : Int) * 2 ^ (8 * j))) = ((y + 256 ^ j * q.toNat : Nat) : Int) := by
        have hsh : (q.toNat : Int) * 2 ^ (8 * j) = ((q.toNat * 256 ^ j : Nat) : Int) := by
          rw [show (256 : Nat) = 2 ^ 8 from rfl, ← Nat.pow_mul]; simp
        have hq8 := q.toNat_lt
        have hz : q.toNat * 256 ^ j < 18446744073709551616 := by rw [Nat.mul_comm]; exact Nat.lt_of_le_of_lt (Nat.le_add_left _ _) hb
        rw [wrapN q.toNat (by omega), hsh, wrapN _ hz]
        exact or_high y q.toNat j hlt0 hb
      have HS := Lib.hid hs
      clear hs hlt hlt0 hp hy hq hcell hb
      go_wp2
      go_round
      case rel =>
        refine ⟨j + 1, by omega, by go_num, ?_⟩
        rw [HS.out, Int.natCast_add, Int.natCast_mul, Int.natCast_pow]
        rfl
      case measure => simp [intOf]; omega
    · have : j = l.length := by omega
      subst this
      rw [List.take_length]
      go_wp2
      go_ret
      rw [HW.out]
      exact ⟨rfl, h1, hg1⟩

theorem Sl.lt {w : World} {A : Option Addr} {n c sz : Nat} {cs : List Value} (h : Sl w A n c sz cs) {a : Addr} (ha : A = some a) (hn : cs ≠ []) : a.block < w.heap.size := by
  cases cs with
  | nil => exact absurd rfl hn
  | cons u cs =>
    have := World.block_lt_of_cell? w _ (h.cell a ha 0 u rfl)
    rwa [blk_add] at this
theorem Sl.keep2 {w w' : World} {A : Option Addr} {n c sz : Nat} {cs : List Value} (h : Sl w A n c sz cs) (hk : ∀ a, A = some a → cs ≠ [] → w'.heap[a.block]? = w.heap[a.block]?) : Sl w' A n c sz cs :=
  ⟨h.len, h.le, h.max, h.nul, fun a ha j u hu => by
    have hn : cs ≠ [] := by rintro rfl; simp at hu
    rw [World.cell?_of_block (w := w) (by rw [blk_add]; exact hk a ha hn)]; exact h.cell a ha j u hu⟩

def digR (s : R) : R × List UInt8 := ((takeR s 32).1, (takeR s 32).2.getD (List.replicate 32 0))
theorem zero32' : (#[.int .u8 0, .int .u8 0, .int .u8 0, .int .u8 0, .int .u8 0, .int .u8 0, .int .u8 0, .int .u8 0, .int .u8 0, .int .u8 0, .int .u8 0, .int .u8 0, .int .u8 0, .int .u8 0, .int .u8 0, .int .u8 0, .int .u8 0, .int .u8 0, .int .u8 0, .int .u8 0, .int .u8 0, .int .u8 0, .int .u8 0, .int .u8 0, .int .u8 0, .int .u8 0, .int .u8 0, .int .u8 0, .int .u8 0, .int .u8 0, .int .u8 0, .int .u8 0] : Array Value) = dg (List.replicate 32 0) := by kernel_rfl
theorem digR_length (s : R) : (digR s).2.length = 32 := by
  unfold digR
  rcases hT : takeR s 32 with ⟨s1, _ | l⟩
  · simp
  · simpa using (takeR_some hT).2.2.2.1

set_option maxHeartbeats 1000000 in
theorem rdigest_any (g : Nat) (A : Option Addr) (c : Nat) (s : R) (w : World) (hR : Rdr w g A c s.bs s.p s.e) :
    Calls Try.prog 20 #[.pointer (some ⟨g, 0, none⟩)] w fun en w' =>
      en = .returned (.agg (dg (digR s).2)) ∧ Rdr w' g A c (digR s).1.bs (digR s).1.p (digR s).1.e ∧ w.grownBy w' (some g) := by
  obtain ⟨Z, hZ⟩ : ∃ Z, Z = dg (List.replicate 32 0) := ⟨_, rfl⟩
  have hz1 : Z.size = 32 := by rw [hZ, dg_size]; simp
  have HZ := Lib.hid hZ
  have HS := Lib.hid hz1
  obtain ⟨D, hD⟩ : ∃ D, D = dg (digR s).2 := ⟨_, rfl⟩
  have hd1 : D.size = 32 := by rw [hD, dg_size, digR_length]
  have hd2 : D.all (·.oneCell') = true := by rw [hD]; exact dg_one _
  have hgl := hR.lt
  have hw1 : w.heap.size ≠ g := by omega
  rw [← hD]
  have HD := Lib.hid hD
  have HDS := Lib.hid hd1
  have HDA := Lib.hid hd2
  clear hZ hz1 hD hd1 hd2
  go_enter Try.func20, Try.ntmps20
  go_wp2_with fail
  rw [zero32', ← HZ.out]
  have hR1 : Rdr (w.alloc (.cells Z 38)) g A c s.bs s.p s.e := hR.keep (World.grownBy_alloc w _ none) (by simp) (fun _ _ => by simp)
  refine (take_any g A c s 32 _ hR1 (by omega)).mono ?_
  rintro e w1 ⟨A1, c1, rfl, h1, hg1, hb1, hn1⟩
  have hblk : w1.heap[w.heap.size]? = some (.cells Z 38 (0, 0)) := (hg1.block w.heap.size (by simp) (by simp; exact hw1)).trans (heap_alloc_new _ _)
  have hg0 : w.grownBy w1 (some g) := (World.grownBy_alloc w _ (some g)).trans hg1
  obtain ⟨w2, hcopy, hblk2, hR2, hg2⟩ : ∃ w2, (∃ n, (Builtin.copy_ #[24, 24] 3 #[.slice (some ⟨w.heap.size, 0, none⟩) 32 32, .slice A1 ((takeR s 32).2.getD []).length c1]).run Try.prog w1 = .ok (goInt n) w2) ∧
      w2.heap[w.heap.size]? = some (.cells D 38 (0, 0)) ∧ Rdr w2 g A c (digR s).1.bs (digR s).1.p (digR s).1.e ∧ w.grownBy w2 (some g) := by
    rcases hT : takeR s 32 with ⟨s1, _ | l⟩
    · rw [hT] at h1 hb1
      refine ⟨w1, ⟨0, run_copy_none w1 24 24 3 5 _ _ 32 32 0 c1 Try.underlying24 (by kernel_rfl) rfl⟩, ?_, ?_, hg0⟩
      · rw [HD.out, show (digR s).2 = List.replicate 32 0 from by unfold digR; rw [hT]; rfl, ← HZ.out]; exact hblk
      · rw [show (digR s).1 = s1 from by unfold digR; rw [hT]]; exact h1
    · have hlen := (takeR_some hT).2.2.2.1
      rw [hT] at h1 hb1
      simp only [Option.getD_some] at hb1 ⊢
      obtain ⟨b2, o2, rfl, hcell⟩ := hb1.cells (by omega)
      have hc := run_copy_row (P := Try.prog) w1 24 24 3 5 w.heap.size 0 32 32 ⟨b2, o2, none⟩ l.length c1 Z 38 (l.map bc) Try.underlying24 (by kernel_rfl) hblk (by rw [List.length_map, hlen]; rfl)
        (fun j v hv => hb1.cell _ rfl j v hv) (by rw [List.length_map, hlen, HS.out]; omega) (bytes_one l)
      have hD2 : (Z.toList.take 0 ++ l.map bc ++ Z.toList.drop (0 + (l.map bc).length)).toArray = D := by
        rw [HD.out, show (digR s).2 = l from by unfold digR; rw [hT]; rfl, List.drop_of_length_le (by simp [hlen, HS.out])]
        simp [dg]
      rw [hD2] at hc
      refine ⟨_, ⟨_, hc⟩, setRow_heap w1 w.heap.size Z D 38 _ hblk, ?_, ?_⟩
      · rw [show (digR s).1 = s1 from by unfold digR; rw [hT]]
        refine ⟨(setRow_other w1 w.heap.size g _ (by omega)).trans h1.blk, h1.bytes.keep2 fun a ha hn => setRow_other w1 w.heap.size a.block _ ?_, h1.le, h1.ne⟩
        have hbs : s1.bs = s.bs := by rw [(takeR_some hT).2.1]
        rw [hbs] at hn
        have := hR.bytes.lt ha hn
        omega
      · exact ⟨hg0.os, hg0.tape, hg0.output, by have := hg0.size; simpa using this, fun k hk hkg => (setRow_other w1 w.heap.size k _ (by omega)).trans (hg0.block k hk hkg)⟩
  obtain ⟨nn, hcopy⟩ := hcopy
  have HB := Lib.hid hblk2
  clear hblk hblk2 h1 hg1 hb1 hn1
  go_wp2_with (first | (refine wpList_load_row rfl 38 _ rfl _ rfl _ _ _ _ HB.out Try.underlying38 rfl (by rw [HDS.out]; kernel_rfl) ?_) | (refine wpList_store_row rfl 38 _ _ rfl w.heap.size D rfl rfl _ _ HB.out (by rw [HDS.out]; kernel_rfl) rfl HDA.out ?_))
  rw [setRow_self _ _ _ _ _ HB.out]
  exact bodyPost_ret (v := .agg D) (results_cell_row rfl _ _ w.heap.size 38 D (0, 0) _ rfl HB.out Try.underlying38 rfl (by rw [HDS.out]; kernel_rfl)) rfl ⟨rfl, hR2, hg2⟩
end Go.Proofs.Ytglekpigobingaa
