import Derived.Test.YtomdplbdndadcaaApB
import Derived.Deep.Light
import Derived.IntWalk
namespace Go.Proofs.Ytomdplbdndadcaa
open Go.RowKit

theorem Good.mono {w : World} {b b' : Nat} {B : Option Addr} {n : Nat} (h : Good w b B n) (hb : b' ≤ b) : Good w b' B n := by
  refine ⟨h.1, fun k hk => ?_⟩
  obtain ⟨b, o, X, len, c, h1, h2, h3, h4⟩ := h.2 k hk
  refine ⟨b, o, X, len, c, h1, h2, h3, fun h0 => ?_⟩
  obtain ⟨xb, xo, h5, h6, h7⟩ := h4 h0
  exact ⟨xb, xo, h5, by omega, h7⟩

set_option maxRecDepth 100000 in
set_option maxHeartbeats 8000000 in
theorem apart_any (n : Int) (A : Option Addr) (c : Nat) (E : List EV) (rs : List Raw) (f o : Int) (C : Option Addr) (d : Nat) (r : List UInt8) (i : Int) (w : World) (hA : Es w A c E rs) (hC : Bs w C d r) :
    Calls Try.prog 4 #[.agg #[.int .i64 n, .slice A E.length c], .int .i64 f, .agg #[.int .i64 o, .slice C r.length d], .int .i64 i] w fun e w' => e = .returned (.bool true) ∧ Ext w w' := by
  obtain ⟨o1, ho1⟩ : ∃ ob, ob = Obj.cells #[.int .i64 n, .slice A E.length c] 27 := ⟨_, rfl⟩
  obtain ⟨o2, ho2⟩ : ∃ ob, ob = Obj.cells #[.int .i64 o, .slice C r.length d] 34 := ⟨_, rfl⟩
  have x1 := Ext.alloc w o1
  have x2 := Ext.alloc (w.alloc o1) o2
  have h1 := heap_alloc_new w o1
  have h2 := heap_alloc_new (w.alloc o1) o2
  have hs1 : (w.alloc o1).heap.size = w.heap.size + 1 := by simp only [World.alloc, Array.size_push]
  rw [hs1] at h2
  have h1 := (Below.block x2 _ (Array.getElem?_eq_some_iff.1 h1).1).trans h1
  have x0 := (Ext.trans x1 x2)
  clear x1 x2 hs1
  have H1 := Lib.hid h1
  have H2 := Lib.hid h2
  clear h1 h2
  have X0 := Lib.hid x0
  subst ho1
  subst ho2
  have HA := Lib.hid hA
  have HC := Lib.hid hC
  have hA0 := hA.below x0
  clear x0 hA hC
  obtain ⟨lb, hlb⟩ : ∃ lb, lb = lightN ⟨n, E⟩ 120 := ⟨_, rfl⟩
  obtain ⟨er, her⟩ : ∃ er, er = checkN ⟨n, E⟩ := ⟨_, rfl⟩
  have HLB := Lib.hid hlb
  have HER := Lib.hid her
  clear hlb her
  go_enter Try.func4, Try.ntmps4
  go_wp2_with fail
  generalize (w.alloc (.cells #[.int .i64 n, .slice A E.length c] 27)).alloc (.cells #[.int .i64 o, .slice C r.length d] 34) = w0 at *
  refine (lives_any w0).mono ?_
  rintro e w1 ⟨rfl, y1⟩
  have HA1 := Lib.hid (hA0.below y1)
  have X1 := Lib.hid (Ext.trans X0.out y1)
  have N1 := Lib.hid ((y1.block _ (Array.getElem?_eq_some_iff.1 H1.out).1).trans H1.out)
  have O1 := Lib.hid ((y1.block _ (Array.getElem?_eq_some_iff.1 H2.out).1).trans H2.out)
  clear y1 hA0
  have a0 : w1.cell? ⟨w.heap.size, 0, none⟩ = some (.int .i64 n) := by rw [cell_of_row _ _ _ _ _ _ N1.out]; rfl
  have a1 : w1.cell? ⟨w.heap.size, 1, none⟩ = some (.slice A E.length c) := by rw [cell_of_row _ _ _ _ _ _ N1.out]; rfl
  go_wp2_with fail
  have hct := lightnet_any _ ⟨n, E⟩ rs 120 w1 ⟨A, c, rfl, HA1.out⟩
  rw [← HLB.out] at hct
  refine hct.mono ?_
  clear hct
  rintro e w2 ⟨rfl, y2⟩
  have HA2 := Lib.hid (HA1.out.below y2)
  have X2 := Lib.hid (Ext.trans X1.out y2)
  have N2 := Lib.hid ((y2.block _ (Array.getElem?_eq_some_iff.1 N1.out).1).trans N1.out)
  have O2 := Lib.hid ((y2.block _ (Array.getElem?_eq_some_iff.1 O1.out).1).trans O1.out)
  clear y2 a0 a1
  have a0 : w2.cell? ⟨w.heap.size, 0, none⟩ = some (.int .i64 n) := by rw [cell_of_row _ _ _ _ _ _ N2.out]; rfl
  have a1 : w2.cell? ⟨w.heap.size, 1, none⟩ = some (.slice A E.length c) := by rw [cell_of_row _ _ _ _ _ _ N2.out]; rfl
  have b0 : w2.cell? ⟨w.heap.size + 1, 0, none⟩ = some (.int .i64 o) := by rw [cell_of_row _ _ _ _ _ _ O2.out]; rfl
  have b1 : w2.cell? ⟨w.heap.size + 1, 1, none⟩ = some (.slice C r.length d) := by rw [cell_of_row _ _ _ _ _ _ O2.out]; rfl
  cases lb with
  | false =>
    go_wp2_with fail
    go_ret
    exact ⟨rfl, X2.out⟩
  | true =>
  by_cases hr : r.length ≤ 20000
  case neg =>
    have q1 : decide (20000 < (r.length : Int)) = true := decide_eq_true (by omega)
    clear hr
    go_wp2_with fail
    go_ret
    exact ⟨rfl, X2.out⟩
  case pos =>
  have q1 : decide (20000 < (r.length : Int)) = false := decide_eq_false (by omega)
  have HRL := Lib.hid hr
  clear hr
  go_wp2_with fail
  have hct := check_any _ ⟨n, E⟩ rs w2 ⟨A, c, rfl, HA2.out⟩
  rw [← HER.out] at hct
  refine hct.mono ?_
  clear hct
  rintro e w3 ⟨rfl, y3⟩
  have HA3 := Lib.hid (HA2.out.below y3)
  have X3 := Lib.hid (Ext.trans X2.out y3)
  have N3 := Lib.hid ((y3.block _ (Array.getElem?_eq_some_iff.1 N2.out).1).trans N2.out)
  have O3 := Lib.hid ((y3.block _ (Array.getElem?_eq_some_iff.1 O2.out).1).trans O2.out)
  clear y3 a0 a1 b0 b1
  by_cases hz : er = 0
  case neg =>
    have q2 : (er == 0) = false := beq_eq_false_iff_ne.2 hz
    have q3 : (er != 0) = true := by rw [bne, q2]; rfl
    clear hz
    go_wp2_with fail
    go_ret
    exact ⟨rfl, X3.out⟩
  case pos =>
  subst hz
  have hc := HER.out.symm
  obtain ⟨hm1, hm7, hE5, hEe⟩ := check_parts hc
  obtain ⟨m, hm⟩ : ∃ m : Nat, n = (m : Int) := ⟨n.toNat, by omega⟩
  subst hm
  have HCK := Lib.hid hc
  have HEE := Lib.hid hEe
  have hbig : ∀ e ∈ E, e.r.length ≤ 100000 := fun e he => by have := (hEe e he).2.2; omega
  have HBIG := Lib.hid hbig
  clear hc hEe hbig
  have a0 : w3.cell? ⟨w.heap.size, 0, none⟩ = some (.int .i64 (m : Int)) := by rw [cell_of_row _ _ _ _ _ _ N3.out]; rfl
  have a1 : w3.cell? ⟨w.heap.size, 1, none⟩ = some (.slice A E.length c) := by rw [cell_of_row _ _ _ _ _ _ N3.out]; rfl
  go_wp2_with fail
  refine (ownnet_any (m : Int) A c E rs w3 HA3.out (by omega) HBIG.out).mono ?_
  rintro e w4 ⟨Bw, dw, sw, rfl, hEw, _, _, y4⟩
  have xa := Ext.alloc w4 (.cells #[.int .i64 (m : Int), .slice Bw E.length dw] 27)
  have rw5 := heap_alloc_new w4 (.cells #[.int .i64 (m : Int), .slice Bw E.length dw] 27)
  have W5 := Lib.hid rw5
  have HW5 := Lib.hid (hEw.below xa)
  have Y5 := Lib.hid (Ext.trans y4 xa)
  have X5 := Lib.hid (Ext.trans X3.out (Ext.trans y4 xa))
  have N5 := Lib.hid ((Y5.out.block _ (Array.getElem?_eq_some_iff.1 N3.out).1).trans N3.out)
  have O5 := Lib.hid ((Y5.out.block _ (Array.getElem?_eq_some_iff.1 O3.out).1).trans O3.out)
  have HA5 := Lib.hid (HA3.out.below Y5.out)
  clear y4 xa rw5 hEw a0 a1
  go_upto_region 6 with fail
  generalize w4.alloc (.cells #[.int .i64 (m : Int), .slice Bw E.length dw] 27) = w5 at *
  have a0 : w5.cell? ⟨w.heap.size, 0, none⟩ = some (.int .i64 (m : Int)) := by rw [cell_of_row _ _ _ _ _ _ N5.out]; rfl
  have a1 : w5.cell? ⟨w.heap.size, 1, none⟩ = some (.slice A E.length c) := by rw [cell_of_row _ _ _ _ _ _ N5.out]; rfl
  have b0 : w5.cell? ⟨w.heap.size + 1, 0, none⟩ = some (.int .i64 o) := by rw [cell_of_row _ _ _ _ _ _ O5.out]; rfl
  have b1 : w5.cell? ⟨w.heap.size + 1, 1, none⟩ = some (.slice C r.length d) := by rw [cell_of_row _ _ _ _ _ _ O5.out]; rfl
  go_wp2_with fail
  refine (put_all m A c E rs w5 f o C d r HA5.out (Sl.below HC.out X5.out) HCK.out HRL.out).mono ?_
  rintro e w6 ⟨na, ka, ea, Ba, la, da, rfl, hGa, hla, y6⟩
  have xa := Ext.alloc w6 (.cells #[.int .i64 na, .slice Ba la da] 27)
  have ra := heap_alloc_new w6 (.cells #[.int .i64 na, .slice Ba la da] 27)
  have RA7 := Lib.hid ra
  have Y7 := Lib.hid (Ext.trans y6 xa)
  have GA7 := Lib.hid (hGa.ext xa)
  have N7 := Lib.hid ((Y7.out.block _ (Array.getElem?_eq_some_iff.1 N5.out).1).trans N5.out)
  have HA7 := Lib.hid (HA5.out.below Y7.out)
  clear y6 xa ra hGa a0 a1 b0 b1
  go_upto_region 7 with fail
  generalize w6.alloc (.cells #[.int .i64 na, .slice Ba la da] 27) = w7 at *
  have a0 : w7.cell? ⟨w.heap.size, 0, none⟩ = some (.int .i64 (m : Int)) := by rw [cell_of_row _ _ _ _ _ _ N7.out]; rfl
  have a1 : w7.cell? ⟨w.heap.size, 1, none⟩ = some (.slice A E.length c) := by rw [cell_of_row _ _ _ _ _ _ N7.out]; rfl
  go_wp2_with fail
  refine (take_all m A c E rs w7 i HA7.out HCK.out).mono ?_
  rintro e w8 ⟨fu, tu, Xu, lu, qu, nb, Bb, lb, db, eb, rfl, hGb, hlb, hGu, y8⟩
  have x8 := Ext.alloc w8 (.cells #[.int .i64 fu, .int .i64 tu, .slice Xu lu qu] 38)
  have h2 := two_alloc w8 (.cells #[.int .i64 fu, .int .i64 tu, .slice Xu lu qu] 38) (.cells #[.int .i64 nb, .slice Bb lb db] 27)
  have RU9 := Lib.hid h2.1
  have RB9 := Lib.hid h2.2.1
  have Y9 := Lib.hid (Ext.trans y8 h2.2.2)
  have GB9 := Lib.hid (hGb.ext h2.2.2)
  have GU9 := Lib.hid hGu
  have YU9 := Lib.hid h2.2.2
  have N9 := Lib.hid ((Y9.out.block _ (Array.getElem?_eq_some_iff.1 N7.out).1).trans N7.out)
  have RA9 := Lib.hid ((Y9.out.block _ (Array.getElem?_eq_some_iff.1 RA7.out).1).trans RA7.out)
  have HA9 := Lib.hid (HA7.out.below Y9.out)
  have GA9 := Lib.hid (GA7.out.ext Y9.out)
  clear y8 x8 h2 hGb hGu a0 a1
  go_upto_region 8 with fail
  generalize (w8.alloc (.cells #[.int .i64 fu, .int .i64 tu, .slice Xu lu qu] 38)).alloc (.cells #[.int .i64 nb, .slice Bb lb db] 27) = w9 at *
  have a0 : w9.cell? ⟨w.heap.size, 0, none⟩ = some (.int .i64 (m : Int)) := by rw [cell_of_row _ _ _ _ _ _ N9.out]; rfl
  have a1 : w9.cell? ⟨w.heap.size, 1, none⟩ = some (.slice A E.length c) := by rw [cell_of_row _ _ _ _ _ _ N9.out]; rfl
  go_wp2_with fail
  refine (twice_all m A c E rs w9 i HA9.out HCK.out).mono ?_
  rintro e w10 ⟨nc, Bc, lc, dc, ec, rfl, hGc, hlc, y10⟩
  have xa := Ext.alloc w10 (.cells #[.int .i64 nc, .slice Bc lc dc] 27)
  have RC11 := Lib.hid (heap_alloc_new w10 (.cells #[.int .i64 nc, .slice Bc lc dc] 27))
  have Y11 := Lib.hid (Ext.trans y10 xa)
  have GC11 := Lib.hid (hGc.ext xa)
  have N11 := Lib.hid ((Y11.out.block _ (Array.getElem?_eq_some_iff.1 N9.out).1).trans N9.out)
  have RA11 := Lib.hid ((Y11.out.block _ (Array.getElem?_eq_some_iff.1 RA9.out).1).trans RA9.out)
  have RU11 := Lib.hid ((Y11.out.block _ (Array.getElem?_eq_some_iff.1 RU9.out).1).trans RU9.out)
  have RB11 := Lib.hid ((Y11.out.block _ (Array.getElem?_eq_some_iff.1 RB9.out).1).trans RB9.out)
  have HA11 := Lib.hid (HA9.out.below Y11.out)
  clear y10 xa hGc a0 a1
  go_upto_region 9 with fail
  generalize w10.alloc (.cells #[.int .i64 nc, .slice Bc lc dc] 27) = w11 at *
  have a0 : w11.cell? ⟨w.heap.size, 0, none⟩ = some (.int .i64 (m : Int)) := by rw [cell_of_row _ _ _ _ _ _ N11.out]; rfl
  have a1 : w11.cell? ⟨w.heap.size, 1, none⟩ = some (.slice A E.length c) := by rw [cell_of_row _ _ _ _ _ _ N11.out]; rfl
  go_wp2_with fail
  refine (drop_all m A c E rs w11 i HA11.out HCK.out).mono ?_
  rintro e w12 ⟨nd, Bd, ld, dd, ed, rfl, hGd, hld, y12⟩
  have xa := Ext.alloc w12 (.cells #[.int .i64 nd, .slice Bd ld dd] 27)
  have RD13 := Lib.hid (heap_alloc_new w12 (.cells #[.int .i64 nd, .slice Bd ld dd] 27))
  have Y13 := Lib.hid (Ext.trans y12 xa)
  have GD13 := Lib.hid (hGd.ext xa)
  have N13 := Lib.hid ((Y13.out.block _ (Array.getElem?_eq_some_iff.1 N11.out).1).trans N11.out)
  have RA13 := Lib.hid ((Y13.out.block _ (Array.getElem?_eq_some_iff.1 RA11.out).1).trans RA11.out)
  have RU13 := Lib.hid ((Y13.out.block _ (Array.getElem?_eq_some_iff.1 RU11.out).1).trans RU11.out)
  have RB13 := Lib.hid ((Y13.out.block _ (Array.getElem?_eq_some_iff.1 RB11.out).1).trans RB11.out)
  have RC13 := Lib.hid ((Y13.out.block _ (Array.getElem?_eq_some_iff.1 RC11.out).1).trans RC11.out)
  have HA13 := Lib.hid (HA11.out.below Y13.out)
  clear y12 xa hGd a0 a1
  go_upto_region 10 with fail
  generalize w12.alloc (.cells #[.int .i64 nd, .slice Bd ld dd] 27) = w13 at *
  have g1 : w13.cell? ⟨w6.heap.size, 1, none⟩ = some (.slice Ba la da) := by rw [cell_of_row _ _ _ _ _ _ RA13.out]; rfl
  have g2 : w13.cell? ⟨w8.heap.size + 1, 1, none⟩ = some (.slice Bb lb db) := by rw [cell_of_row _ _ _ _ _ _ RB13.out]; rfl
  have g3 : w13.cell? ⟨w10.heap.size, 1, none⟩ = some (.slice Bc lc dc) := by rw [cell_of_row _ _ _ _ _ _ RC13.out]; rfl
  have g4 : w13.cell? ⟨w12.heap.size, 1, none⟩ = some (.slice Bd ld dd) := by rw [cell_of_row _ _ _ _ _ _ RD13.out]; rfl
  have g5 : w13.cell? ⟨w8.heap.size, 0, none⟩ = some (.int .i64 fu) := by rw [cell_of_row _ _ _ _ _ _ RU13.out]; rfl
  have g6 : w13.cell? ⟨w8.heap.size, 1, none⟩ = some (.int .i64 tu) := by rw [cell_of_row _ _ _ _ _ _ RU13.out]; rfl
  have g7 : w13.cell? ⟨w8.heap.size, 2, none⟩ = some (.slice Xu lu qu) := by rw [cell_of_row _ _ _ _ _ _ RU13.out]; rfl
  go_wp2_with fail
  have h5 := two_alloc w13 (.cells #[.int .i64 fu, .int .i64 tu, .slice Xu lu qu] 38) (.cells #[.slice Ba la da, .slice Bb lb db, .slice Bc lc dc, .slice Bd ld dd, .slice (some ⟨w13.heap.size, 0, none⟩) 1 1] 25)
  have Y14 := Lib.hid h5.2.2
  have RU14 := Lib.hid h5.1
  have RL14 := Lib.hid h5.2.1
  have xAll := Ext.trans (Ext.trans Y7.out (Ext.trans Y9.out (Ext.trans Y11.out Y13.out))) Y14.out
  have XALL := Lib.hid xAll
  have hsA := Y7.out.size
  have hsB := Y9.out.size
  have hsC := Y11.out.size
  have hsD := Y13.out.size
  have KA := Lib.hid (GA7.out.ext (Ext.trans (Ext.trans Y9.out (Ext.trans Y11.out Y13.out)) Y14.out))
  have KB := Lib.hid ((GB9.out.mono (b' := w5.heap.size) hsA).ext (Ext.trans (Ext.trans Y11.out Y13.out) Y14.out))
  have KC := Lib.hid ((GC11.out.mono (b' := w5.heap.size) (Nat.le_trans hsA hsB)).ext (Ext.trans Y13.out Y14.out))
  have KD := Lib.hid ((GD13.out.mono (b' := w5.heap.size) (Nat.le_trans hsA (Nat.le_trans hsB hsC))).ext Y14.out)
  have xU := Ext.trans YU9.out (Ext.trans (Ext.trans Y11.out Y13.out) Y14.out)
  clear h5 xAll g1 g2 g3 g4 g5 g6 g7
  generalize (w13.alloc (.cells #[.int .i64 fu, .int .i64 tu, .slice Xu lu qu] 38)).alloc (.cells #[.slice Ba la da, .slice Bb lb db, .slice Bc lc dc, .slice Bd ld dd, .slice (some ⟨w13.heap.size, 0, none⟩) 1 1] 25) = wM at *
  have KU : Hid (Good wM w5.heap.size (some ⟨w13.heap.size, 0, none⟩) 1) := by
    refine ⟨by omega, fun k hk => ?_⟩
    have hk0 : k = 0 := by omega
    subst hk0
    obtain ⟨h1, h2⟩ := GU9.out
    refine ⟨_, _, Xu, lu, qu, rfl, by rw [cell_of_row _ _ _ _ _ _ RU14.out]; rfl, h1, fun h0 => ?_⟩
    obtain ⟨xb, xo, h3, h4, h5⟩ := h2 h0
    refine ⟨xb, xo, h3, by omega, fun j hj => ?_⟩
    obtain ⟨⟨y, h6⟩, h7⟩ := h5 j hj
    have hb := World.block_lt_of_cell? _ _ h6
    exact ⟨⟨y, (xU.cell hb).trans h6⟩, (World.frozen?_of_block (w := w8) (xU.block _ hb)).trans h7⟩
  have hsel : ∀ j : Nat, j < 5 → ∃ B n d, wM.cell? ⟨w13.heap.size + 1, j, none⟩ = some (.slice B n d) ∧ Good wM w5.heap.size B n := by
    intro j hj
    have h : j = 0 ∨ j = 1 ∨ j = 2 ∨ j = 3 ∨ j = 4 := by omega
    rcases h with rfl | rfl | rfl | rfl | rfl
    · exact ⟨_, _, _, by rw [cell_of_row _ _ _ _ _ _ RL14.out]; rfl, KA.out⟩
    · exact ⟨_, _, _, by rw [cell_of_row _ _ _ _ _ _ RL14.out]; rfl, KB.out⟩
    · exact ⟨_, _, _, by rw [cell_of_row _ _ _ _ _ _ RL14.out]; rfl, KC.out⟩
    · exact ⟨_, _, _, by rw [cell_of_row _ _ _ _ _ _ RL14.out]; rfl, KD.out⟩
    · exact ⟨_, _, _, by rw [cell_of_row _ _ _ _ _ _ RL14.out]; rfl, KU.out⟩
  have HSEL := Lib.hid hsel
  clear hsel xU hsA hsB hsC hsD
  go_loopw [85] (fun v wr => ∃ j : Nat, j ≤ 5 ∧ v = .int .i64 (j : Int) ∧ MutW w5.heap.size wM wr) (fun v _ => 5 - (intOf v).toNat)
  case atStart => exact ⟨0, by omega, rfl, MutW.refl _ _⟩
  case round =>
    obtain ⟨j1, hj1, rfl, hM1⟩ := hrel
    have HM1 := Lib.hid hM1
    clear hM1
    by_cases hj1l : j1 < 5
    · obtain ⟨Bl, nl, dl, hcl, hgood⟩ := HSEL.out j1 hj1l
      have HGOOD := Lib.hid hgood.2
      have hn1 := hgood.1
      have cl := HM1.out.keep _ _ hcl (slice_ne _ _ _)
      clear hcl hgood
      go_wp2_with fail
      go_loopw [22] (fun v wr => ∃ k : Nat, k ≤ nl ∧ v = .int .i64 (k : Int) ∧ MutW w5.heap.size wM wr) (fun v _ => nl - (intOf v).toNat)
      case atStart => exact ⟨0, by omega, rfl, HM1.out⟩
      case round =>
        obtain ⟨k, hk, rfl, hM2⟩ := hrel
        have HM2 := Lib.hid hM2
        clear hM2
        by_cases hkl : k < nl
        · obtain ⟨b, o2, X, len, cx, rfl, hx1, hx2, hx3⟩ := HGOOD.out k hkl
          have HX3 := Lib.hid hx3
          have HX1 := Lib.hid hx1
          clear hx1 hx3 cl
          go_wp2_with fail
          go_loopw [23] (fun v wr => ∃ j : Nat, j ≤ len ∧ v = .int .i64 (j : Int) ∧ MutW w5.heap.size wM wr) (fun v _ => len - (intOf v).toNat)
          case atStart => exact ⟨0, by omega, rfl, HM2.out⟩
          case round =>
            obtain ⟨j, hj, rfl, hM3⟩ := hrel
            have HM3 := Lib.hid hM3
            have c1 := hM3.keep _ _ HX1.out (slice_ne _ _ _)
            clear hM3
            by_cases hjl : j < len
            · obtain ⟨xb, xo, rfl, hxb, hxc⟩ := HX3.out (by omega)
              obtain ⟨⟨y0, hy0⟩, hfz⟩ := hxc j hjl
              obtain ⟨y, hy⟩ := HM3.out.byte _ _ hy0
              have hfz2 := (HM3.out.frz ⟨xb, xo + j, none⟩).trans hfz
              have hy2 : _ = some (Value.int .u8 (y.toNat : Int)) := hy
              have hyl : y.toNat < 256 := y.toNat_lt
              have HY0 := Lib.hid hy0
              clear hxc hy0 hfz hy
              go_wp2_with fail
              go_roundw
              case rel =>
                obtain ⟨z, hz⟩ := bc_add y
                exact ⟨j + 1, by omega, by go_num, by rw [hz]; exact HM3.out.step HY0.out hxb z⟩
              case measure => simp [intOf]; omega
            · go_wp2_with fail
              go_roundw
              case rel => exact ⟨k + 1, by omega, by go_num, HM3.out⟩
              case measure => simp [intOf]; omega
        · go_wp2_with fail
          go_roundw
          case rel => exact ⟨j1 + 1, by omega, by go_num, HM2.out⟩
          case measure => simp [intOf]; omega
    · have XW := Lib.hid (Below.trans XALL.out HM1.out.below)
      have hj15 : j1 = 5 := by omega
      subst hj15
      clear hj1l hj1
      obtain ⟨L, hL⟩ : ∃ L, L = E.length := ⟨_, rfl⟩
      obtain ⟨zs, hzs⟩ : ∃ zs, zs = E.map EV.t := ⟨_, rfl⟩
      have HL := Lib.hid hL
      have HZS := Lib.hid hzs
      clear hL hzs
      have hL512 : L ≤ 512 := by rw [HL.out]; exact hE5
      go_wp2_with fail
      go_loopw [24, 25] (fun s v wq => ∃ k : Nat, k ≤ m ∧ s = .int .i64 (cntT zs L k : Int) ∧ v = .int .i64 (k : Int) ∧ Ext w5 wq) (fun _ v _ => m - (intOf v).toNat)
      case atStart => exact ⟨0, by omega, rfl, rfl, XW.out⟩
      case round =>
        obtain ⟨k, hk, rfl, rfl, hx⟩ := hrel
        have HXK := Lib.hid hx
        have NK := Lib.hid ((hx.block _ (Array.getElem?_eq_some_iff.1 N5.out).1).trans N5.out)
        have HAK := Lib.hid (HA5.out.below hx)
        have a0 : wr.cell? ⟨w.heap.size, 0, none⟩ = some (.int .i64 (m : Int)) := by rw [cell_of_row _ _ _ _ _ _ NK.out]; rfl
        have a1 : wr.cell? ⟨w.heap.size, 1, none⟩ = some (.slice A E.length c) := by rw [cell_of_row _ _ _ _ _ _ NK.out]; rfl
        clear hx
        by_cases hkm : k < m
        · have hct : Calls Try.prog 20 #[.agg #[.int .i64 (m : Int), .slice A E.length c], .int .i64 (k : Int)] wr fun e w' => ∃ B d, e = .returned (.slice B (upT (k : Int) zs L).length d) ∧ Is w' B d (upT (k : Int) zs L) ∧ (∀ a, B = some a → wr.heap.size ≤ a.block) ∧ Ext wr w' := by
            rw [HZS.out, HL.out]
            exact to_ok (m : Int) (k : Int) A c E rs wr HAK.out (by omega) HCK.out
          obtain ⟨l, hl⟩ : ∃ l, l = upT (k : Int) zs L := ⟨_, rfl⟩
          rw [← hl] at hct
          have hcs : cntT zs L (k + 1) = cntT zs L k + l.length := by rw [cntT, ← hl]
          have hcb : cntT zs L k ≤ 7 * 512 := Nat.le_trans (cntT_le zs L k) (Nat.mul_le_mul (by omega) hL512)
          have hlL : l.length ≤ L := by rw [hl]; exact upT_length _ _ _
          obtain ⟨cn, hcn⟩ : ∃ cn, cn = cntT zs L k := ⟨_, rfl⟩
          rw [← hcn] at hcs hcb ⊢
          have HLl := Lib.hid hl
          have HCS := Lib.hid hcs
          have HCT := Lib.hid hct
          clear hl hcs hcn hct
          go_wp2_with fail
          refine HCT.out.mono ?_
          rintro e wt ⟨Bt, dt, rfl, hI, _, yt⟩
          have HI := Lib.hid hI
          have YT := Lib.hid yt
          clear hI yt a0 a1
          go_wp2_with fail
          go_loopw [27] (fun v wq => ∃ j : Nat, j ≤ l.length ∧ v = .int .i64 (j : Int) ∧ Ext wt wq) (fun v _ => l.length - (intOf v).toNat)
          case atStart => exact ⟨0, by omega, rfl, Ext.refl _⟩
          case round =>
            obtain ⟨j, hj, rfl, hxq⟩ := hrel
            have HXQ := Lib.hid hxq
            clear hxq
            by_cases hjl : j < l.length
            · obtain ⟨z, hz1, hz2, hz3, hz4⟩ := upT_at (k : Int) zs L j (by rw [← HLl.out]; exact hjl)
              have hlj : l[j] = (z : Int) := (List.getElem_of_eq HLl.out hjl).trans hz2
              have hIq := Sl.below HI.out HXQ.out
              obtain ⟨tb, tof, rfl, htc⟩ := Is.at hIq (by omega)
              have c1 := htc j hjl
              rw [hlj] at c1
              have hxw := Ext.trans HXK.out (Ext.trans YT.out HXQ.out)
              have NQ := (hxw.block _ (Array.getElem?_eq_some_iff.1 N5.out).1).trans N5.out
              have c2 : wr.cell? ⟨w.heap.size, 1, none⟩ = some (.slice A E.length c) := by rw [cell_of_row _ _ _ _ _ _ NQ]; rfl
              have hAq := HA5.out.below hxw
              have hzE : z < E.length := by rw [← HL.out]; exact hz1
              obtain ⟨eb, eo, rfl, hec⟩ := hAq.at (by omega)
              have c3 := (hec z hzE (by rw [hAq.len]; exact hzE)).2.1
              have htk : E[z].t = (k : Int) := by
                rw [HZS.out, List.getElem?_map, List.getElem?_eq_getElem hzE] at hz3
                exact hz3
              rw [htk] at c3
              have q1 : decide ((z : Int) < 0) = false := decide_eq_false (by omega)
              have q2 : decide ((E.length : Int) ≤ (z : Int)) = false := decide_eq_false (by omega)
              have HXW := Lib.hid hxw
              by_cases hj0 : j = 0
              case pos =>
                have q3 : decide (0 < (j : Int)) = false := decide_eq_false (by omega)
                have q3' : decide (0 < j) = false := decide_eq_false (by omega)
                have HJ0 := Lib.hid hj0
                clear hz2 hz3 hz4 hlj hIq htc hxw NQ hAq hec htk hj0
                have M1 := Lib.hid (fun u (hu : Ext wr u) => (hu.cell (World.block_lt_of_cell? wr _ c1)).trans c1)
                have M2 := Lib.hid (fun u (hu : Ext wr u) => (hu.cell (World.block_lt_of_cell? wr _ c2)).trans c2)
                have M3 := Lib.hid (fun u (hu : Ext wr u) => (hu.cell (World.block_lt_of_cell? wr _ c3)).trans c3)
                clear c1 c2 c3
                go_wp2_with fail
                refine wp_region_layt [Fact.val (.slice (some ⟨tb, tof, none⟩) l.length dt), Fact.val (.int .i64 (j : Int)), Fact.val (.pointer (some ⟨tb, tof + j, none⟩)), Fact.val (.int .i64 (z : Int)), Fact.val (.bool false), Fact.val (.bool false), Fact.val (.slice (some ⟨tb, tof, none⟩) l.length dt), Fact.val (.int .i64 (j : Int)), Fact.val (.pointer (some ⟨tb, tof + j, none⟩)), Fact.val (.int .i64 (z : Int)), Fact.val (.pointer (some ⟨w.heap.size, 1, none⟩)), Fact.val (.slice (some ⟨eb, eo, none⟩) E.length c), Fact.val (.int .i64 (E.length : Nat)), Fact.val (.bool false), Fact.val (.bool false), Fact.val (.bool false), Fact.val (.pointer (some ⟨w.heap.size, 1, none⟩)), Fact.val (.slice (some ⟨eb, eo, none⟩) E.length c), Fact.val (.slice (some ⟨tb, tof, none⟩) l.length dt), Fact.val (.int .i64 (j : Int)), Fact.val (.pointer (some ⟨tb, tof + j, none⟩)), Fact.val (.int .i64 (z : Int)), Fact.val (.pointer (some ⟨eb, eo + z * 3, none⟩)), Fact.val (.pointer (some ⟨eb, eo + z * 3 + 1, none⟩)), Fact.val (.int .i64 (k : Int)), Fact.val (.int .i64 (k : Int)), Fact.val (.bool false), Fact.val (.bool false), Fact.val (.bool false), Fact.val (.int .i64 (j : Int)), Fact.val (.bool false), Fact.val (.bool false), Fact.val (undef), Fact.val (undef), Fact.val (undef), Fact.val (undef), Fact.val (undef), Fact.val (undef), Fact.val (undef), Fact.val (undef), Fact.val (undef), Fact.val (undef), Fact.val (.bool false), Fact.val (.bool false)] (wr) _ 44 (by kernel_rfl) (by kernel_rfl) (by kernel_rfl) (by kernel_rfl) (by kernel_rfl) (by kernel_rfl) (Ext.refl _) ?_ ?_
                · refine ⟨?_, ?_, ?_, ?_, ?_, ?_, ?_, ?_, ?_, ?_, ?_, ?_, ?_, ?_, ?_, ?_, ?_, ?_, ?_, ?_, ?_, ?_, ?_, ?_, ?_, ?_, ?_, ?_, ?_, ?_, ?_, ?_, ?_, ?_, ?_, ?_, ?_, ?_, ?_, ?_, ?_, ?_, ?_, ?_, trivial⟩
                  · intro a u hx hd hr
                    rw [if_pos (wanted_none rfl)]
                    exact Y_copy (.inl rfl) (hr 26 rfl)
                  · intro a u hx hd hr
                    rw [if_pos (wanted_none rfl)]
                    exact Y_copy (.inl rfl) (hr 27 rfl)
                  · intro a u hx hd hr
                    rw [if_pos (wanted_none rfl)]
                    have e131 : a.eval (.tmp 131) = .slice (some ⟨tb, tof, none⟩) l.length dt := hd 0 131 rfl rfl
                    have e132 : a.eval (.tmp 132) = .int .i64 (j : Int) := hd 1 132 rfl rfl
                    clear hd hr
                    go_light
                    simp only [Act.eval, Array.getD_eq_getD_getElem?] at e131 e132
                    exact Y_val (v := .pointer (some ⟨tb, tof + j, none⟩)) (by go_simp) rfl
                  · intro a u hx hd hr
                    rw [if_pos (wanted_none rfl)]
                    have e133 : a.eval (.tmp 133) = .pointer (some ⟨tb, tof + j, none⟩) := hd 2 133 rfl rfl
                    have ec := M1.out _ hx
                    clear hd hr
                    go_light
                    simp only [Act.eval, Array.getD_eq_getD_getElem?] at e133
                    exact Y_val (v := .int .i64 (z : Int)) (by go_simp) rfl
                  · intro a u hx hd hr
                    rw [if_pos (wanted_none rfl)]
                    have e134 : a.eval (.tmp 134) = .int .i64 (z : Int) := hd 3 134 rfl rfl
                    clear hd hr
                    go_light
                    simp only [Act.eval, Array.getD_eq_getD_getElem?] at e134
                    exact Y_val (v := .bool false) (by go_simp) rfl
                  · intro a u hx hd hr
                    rw [if_pos (wanted_none rfl)]
                    exact Y_copy (.inl rfl) (hd 4 135 rfl rfl)
                  · intro a u hx hd hr
                    have eg : a.eval (.tmp 136) = .bool false := hd 5 136 rfl rfl
                    rw [if_pos (by rw [wanted_some rfl rfl eg]; rfl)]
                    exact Y_copy (.inl rfl) (hr 26 rfl)
                  · intro a u hx hd hr
                    have eg : a.eval (.tmp 136) = .bool false := hd 5 136 rfl rfl
                    rw [if_pos (by rw [wanted_some rfl rfl eg]; rfl)]
                    exact Y_copy (.inl rfl) (hr 27 rfl)
                  · intro a u hx hd hr
                    have eg : a.eval (.tmp 136) = .bool false := hd 5 136 rfl rfl
                    rw [if_pos (by rw [wanted_some rfl rfl eg]; rfl)]
                    have e137 : a.eval (.tmp 137) = .slice (some ⟨tb, tof, none⟩) l.length dt := hd 6 137 rfl rfl
                    have e138 : a.eval (.tmp 138) = .int .i64 (j : Int) := hd 7 138 rfl rfl
                    clear hd hr
                    go_light
                    simp only [Act.eval, Array.getD_eq_getD_getElem?] at e137 e138
                    exact Y_val (v := .pointer (some ⟨tb, tof + j, none⟩)) (by go_simp) rfl
                  · intro a u hx hd hr
                    have eg : a.eval (.tmp 136) = .bool false := hd 5 136 rfl rfl
                    rw [if_pos (by rw [wanted_some rfl rfl eg]; rfl)]
                    have e139 : a.eval (.tmp 139) = .pointer (some ⟨tb, tof + j, none⟩) := hd 8 139 rfl rfl
                    have ec := M1.out _ hx
                    clear hd hr
                    go_light
                    simp only [Act.eval, Array.getD_eq_getD_getElem?] at e139
                    exact Y_val (v := .int .i64 (z : Int)) (by go_simp) rfl
                  · intro a u hx hd hr
                    have eg : a.eval (.tmp 136) = .bool false := hd 5 136 rfl rfl
                    rw [if_pos (by rw [wanted_some rfl rfl eg]; rfl)]
                    have e4 : a.eval (.tmp 4) = .pointer (some ⟨w.heap.size, 0, none⟩) := hr 4 rfl
                    clear hd hr
                    go_light
                    simp only [Act.eval, Array.getD_eq_getD_getElem?] at e4
                    exact Y_val (v := .pointer (some ⟨w.heap.size, 1, none⟩)) (by go_simp) rfl
                  · intro a u hx hd hr
                    have eg : a.eval (.tmp 136) = .bool false := hd 5 136 rfl rfl
                    rw [if_pos (by rw [wanted_some rfl rfl eg]; rfl)]
                    have e141 : a.eval (.tmp 141) = .pointer (some ⟨w.heap.size, 1, none⟩) := hd 10 141 rfl rfl
                    have ec := M2.out _ hx
                    clear hd hr
                    go_light
                    simp only [Act.eval, Array.getD_eq_getD_getElem?] at e141
                    exact Y_val (v := .slice (some ⟨eb, eo, none⟩) E.length c) (by go_simp) rfl
                  · intro a u hx hd hr
                    have eg : a.eval (.tmp 136) = .bool false := hd 5 136 rfl rfl
                    rw [if_pos (by rw [wanted_some rfl rfl eg]; rfl)]
                    have e142 : a.eval (.tmp 142) = .slice (some ⟨eb, eo, none⟩) E.length c := hd 11 142 rfl rfl
                    clear hd hr
                    go_light
                    simp only [Act.eval, Array.getD_eq_getD_getElem?] at e142
                    exact Y_val (v := .int .i64 (E.length : Nat)) (by go_simp) rfl
                  · intro a u hx hd hr
                    have eg : a.eval (.tmp 136) = .bool false := hd 5 136 rfl rfl
                    rw [if_pos (by rw [wanted_some rfl rfl eg]; rfl)]
                    have e140 : a.eval (.tmp 140) = .int .i64 (z : Int) := hd 9 140 rfl rfl
                    have e143 : a.eval (.tmp 143) = .int .i64 (E.length : Nat) := hd 12 143 rfl rfl
                    clear hd hr
                    go_light
                    simp only [Act.eval, Array.getD_eq_getD_getElem?] at e140 e143
                    exact Y_val (v := .bool false) (by go_simp) rfl
                  · intro a u hx hd hr
                    rw [if_pos (wanted_none rfl)]
                    have e136 : a.eval (.tmp 136) = .bool false := hd 5 136 rfl rfl
                    exact Y_pick rfl e136 (hd 13 144 rfl rfl)
                  · intro a u hx hd hr
                    rw [if_pos (wanted_none rfl)]
                    exact Y_copy (.inl rfl) (hd 14 145 rfl rfl)
                  · intro a u hx hd hr
                    have eg : a.eval (.tmp 146) = .bool false := hd 15 146 rfl rfl
                    rw [if_pos (by rw [wanted_some rfl rfl eg]; rfl)]
                    have e4 : a.eval (.tmp 4) = .pointer (some ⟨w.heap.size, 0, none⟩) := hr 4 rfl
                    clear hd hr
                    go_light
                    simp only [Act.eval, Array.getD_eq_getD_getElem?] at e4
                    exact Y_val (v := .pointer (some ⟨w.heap.size, 1, none⟩)) (by go_simp) rfl
                  · intro a u hx hd hr
                    have eg : a.eval (.tmp 146) = .bool false := hd 15 146 rfl rfl
                    rw [if_pos (by rw [wanted_some rfl rfl eg]; rfl)]
                    have e147 : a.eval (.tmp 147) = .pointer (some ⟨w.heap.size, 1, none⟩) := hd 16 147 rfl rfl
                    have ec := M2.out _ hx
                    clear hd hr
                    go_light
                    simp only [Act.eval, Array.getD_eq_getD_getElem?] at e147
                    exact Y_val (v := .slice (some ⟨eb, eo, none⟩) E.length c) (by go_simp) rfl
                  · intro a u hx hd hr
                    have eg : a.eval (.tmp 146) = .bool false := hd 15 146 rfl rfl
                    rw [if_pos (by rw [wanted_some rfl rfl eg]; rfl)]
                    exact Y_copy (.inl rfl) (hr 26 rfl)
                  · intro a u hx hd hr
                    have eg : a.eval (.tmp 146) = .bool false := hd 15 146 rfl rfl
                    rw [if_pos (by rw [wanted_some rfl rfl eg]; rfl)]
                    exact Y_copy (.inl rfl) (hr 27 rfl)
                  · intro a u hx hd hr
                    have eg : a.eval (.tmp 146) = .bool false := hd 15 146 rfl rfl
                    rw [if_pos (by rw [wanted_some rfl rfl eg]; rfl)]
                    have e149 : a.eval (.tmp 149) = .slice (some ⟨tb, tof, none⟩) l.length dt := hd 18 149 rfl rfl
                    have e150 : a.eval (.tmp 150) = .int .i64 (j : Int) := hd 19 150 rfl rfl
                    clear hd hr
                    go_light
                    simp only [Act.eval, Array.getD_eq_getD_getElem?] at e149 e150
                    exact Y_val (v := .pointer (some ⟨tb, tof + j, none⟩)) (by go_simp) rfl
                  · intro a u hx hd hr
                    have eg : a.eval (.tmp 146) = .bool false := hd 15 146 rfl rfl
                    rw [if_pos (by rw [wanted_some rfl rfl eg]; rfl)]
                    have e151 : a.eval (.tmp 151) = .pointer (some ⟨tb, tof + j, none⟩) := hd 20 151 rfl rfl
                    have ec := M1.out _ hx
                    clear hd hr
                    go_light
                    simp only [Act.eval, Array.getD_eq_getD_getElem?] at e151
                    exact Y_val (v := .int .i64 (z : Int)) (by go_simp) rfl
                  · intro a u hx hd hr
                    have eg : a.eval (.tmp 146) = .bool false := hd 15 146 rfl rfl
                    rw [if_pos (by rw [wanted_some rfl rfl eg]; rfl)]
                    have e148 : a.eval (.tmp 148) = .slice (some ⟨eb, eo, none⟩) E.length c := hd 17 148 rfl rfl
                    have e152 : a.eval (.tmp 152) = .int .i64 (z : Int) := hd 21 152 rfl rfl
                    clear hd hr
                    go_light
                    simp only [Act.eval, Array.getD_eq_getD_getElem?] at e148 e152
                    exact Y_val (v := .pointer (some ⟨eb, eo + z * 3, none⟩)) (by go_simp) rfl
                  · intro a u hx hd hr
                    have eg : a.eval (.tmp 146) = .bool false := hd 15 146 rfl rfl
                    rw [if_pos (by rw [wanted_some rfl rfl eg]; rfl)]
                    have e153 : a.eval (.tmp 153) = .pointer (some ⟨eb, eo + z * 3, none⟩) := hd 22 153 rfl rfl
                    clear hd hr
                    go_light
                    simp only [Act.eval, Array.getD_eq_getD_getElem?] at e153
                    exact Y_val (v := .pointer (some ⟨eb, eo + z * 3 + 1, none⟩)) (by go_simp) rfl
                  · intro a u hx hd hr
                    have eg : a.eval (.tmp 146) = .bool false := hd 15 146 rfl rfl
                    rw [if_pos (by rw [wanted_some rfl rfl eg]; rfl)]
                    have e154 : a.eval (.tmp 154) = .pointer (some ⟨eb, eo + z * 3 + 1, none⟩) := hd 23 154 rfl rfl
                    have ec := M3.out _ hx
                    clear hd hr
                    go_light
                    simp only [Act.eval, Array.getD_eq_getD_getElem?] at e154
                    exact Y_val (v := .int .i64 (k : Int)) (by go_simp) rfl
                  · intro a u hx hd hr
                    have eg : a.eval (.tmp 146) = .bool false := hd 15 146 rfl rfl
                    rw [if_pos (by rw [wanted_some rfl rfl eg]; rfl)]
                    exact Y_copy (.inl rfl) (hr 25 rfl)
                  · intro a u hx hd hr
                    have eg : a.eval (.tmp 146) = .bool false := hd 15 146 rfl rfl
                    rw [if_pos (by rw [wanted_some rfl rfl eg]; rfl)]
                    have e155 : a.eval (.tmp 155) = .int .i64 (k : Int) := hd 24 155 rfl rfl
                    have e156 : a.eval (.tmp 156) = .int .i64 (k : Int) := hd 25 156 rfl rfl
                    clear hd hr
                    go_light
                    simp only [Act.eval, Array.getD_eq_getD_getElem?] at e155 e156
                    exact Y_val (v := .bool false) (by go_simp) rfl
                  · intro a u hx hd hr
                    rw [if_pos (wanted_none rfl)]
                    have e146 : a.eval (.tmp 146) = .bool false := hd 15 146 rfl rfl
                    exact Y_pick rfl e146 (hd 26 157 rfl rfl)
                  · intro a u hx hd hr
                    rw [if_pos (wanted_none rfl)]
                    exact Y_copy (.inl rfl) (hd 27 158 rfl rfl)
                  · intro a u hx hd hr
                    have eg : a.eval (.tmp 159) = .bool false := hd 28 159 rfl rfl
                    rw [if_pos (by rw [wanted_some rfl rfl eg]; rfl)]
                    exact Y_copy (.inl rfl) (hr 27 rfl)
                  · intro a u hx hd hr
                    have eg : a.eval (.tmp 159) = .bool false := hd 28 159 rfl rfl
                    rw [if_pos (by rw [wanted_some rfl rfl eg]; rfl)]
                    have e160 : a.eval (.tmp 160) = .int .i64 (j : Int) := hd 29 160 rfl rfl
                    clear hd hr
                    go_light
                    simp only [Act.eval, Array.getD_eq_getD_getElem?] at e160
                    exact Y_val (v := .bool false) (by go_simp) rfl
                  · intro a u hx hd hr
                    have eg : a.eval (.tmp 159) = .bool false := hd 28 159 rfl rfl
                    rw [if_pos (by rw [wanted_some rfl rfl eg]; rfl)]
                    exact Y_copy (.inl rfl) (hd 30 161 rfl rfl)
                  · intro a u hx hd hr
                    have eg : a.eval (.tmp 162) = .bool false := hd 31 162 rfl rfl
                    rw [if_neg (by rw [wanted_some rfl rfl eg]; exact Bool.noConfusion)]
                    exact rfl
                  · intro a u hx hd hr
                    have eg : a.eval (.tmp 162) = .bool false := hd 31 162 rfl rfl
                    rw [if_neg (by rw [wanted_some rfl rfl eg]; exact Bool.noConfusion)]
                    exact rfl
                  · intro a u hx hd hr
                    have eg : a.eval (.tmp 162) = .bool false := hd 31 162 rfl rfl
                    rw [if_neg (by rw [wanted_some rfl rfl eg]; exact Bool.noConfusion)]
                    exact rfl
                  · intro a u hx hd hr
                    have eg : a.eval (.tmp 162) = .bool false := hd 31 162 rfl rfl
                    rw [if_neg (by rw [wanted_some rfl rfl eg]; exact Bool.noConfusion)]
                    exact rfl
                  · intro a u hx hd hr
                    have eg : a.eval (.tmp 162) = .bool false := hd 31 162 rfl rfl
                    rw [if_neg (by rw [wanted_some rfl rfl eg]; exact Bool.noConfusion)]
                    exact rfl
                  · intro a u hx hd hr
                    have eg : a.eval (.tmp 162) = .bool false := hd 31 162 rfl rfl
                    rw [if_neg (by rw [wanted_some rfl rfl eg]; exact Bool.noConfusion)]
                    exact rfl
                  · intro a u hx hd hr
                    have eg : a.eval (.tmp 162) = .bool false := hd 31 162 rfl rfl
                    rw [if_neg (by rw [wanted_some rfl rfl eg]; exact Bool.noConfusion)]
                    exact rfl
                  · intro a u hx hd hr
                    have eg : a.eval (.tmp 162) = .bool false := hd 31 162 rfl rfl
                    rw [if_neg (by rw [wanted_some rfl rfl eg]; exact Bool.noConfusion)]
                    exact rfl
                  · intro a u hx hd hr
                    have eg : a.eval (.tmp 162) = .bool false := hd 31 162 rfl rfl
                    rw [if_neg (by rw [wanted_some rfl rfl eg]; exact Bool.noConfusion)]
                    exact rfl
                  · intro a u hx hd hr
                    have eg : a.eval (.tmp 162) = .bool false := hd 31 162 rfl rfl
                    rw [if_neg (by rw [wanted_some rfl rfl eg]; exact Bool.noConfusion)]
                    exact rfl
                  · intro a u hx hd hr
                    have eg : a.eval (.tmp 159) = .bool false := hd 28 159 rfl rfl
                    rw [if_pos (by rw [wanted_some rfl rfl eg]; rfl)]
                    have e162 : a.eval (.tmp 162) = .bool false := hd 31 162 rfl rfl
                    exact Y_pick rfl e162 rfl
                  · intro a u hx hd hr
                    rw [if_pos (wanted_none rfl)]
                    have e159 : a.eval (.tmp 159) = .bool false := hd 28 159 rfl rfl
                    exact Y_pick rfl e159 (hd 42 173 rfl rfl)
                intro f wq hwq hF
                have f0 : f 0 = .slice (some ⟨tb, tof, none⟩) l.length dt := hF 0 131 (by decide) rfl
                have f1 : f 1 = .int .i64 (j : Int) := hF 1 132 (by decide) rfl
                have f2 : f 2 = .pointer (some ⟨tb, tof + j, none⟩) := hF 2 133 (by decide) rfl
                have f3 : f 3 = .int .i64 (z : Int) := hF 3 134 (by decide) rfl
                have f4 : f 4 = .bool false := hF 4 135 (by decide) rfl
                have f5 : f 5 = .bool false := hF 5 136 (by decide) rfl
                have f6 : f 6 = .slice (some ⟨tb, tof, none⟩) l.length dt := hF 6 137 (by decide) rfl
                have f7 : f 7 = .int .i64 (j : Int) := hF 7 138 (by decide) rfl
                have f8 : f 8 = .pointer (some ⟨tb, tof + j, none⟩) := hF 8 139 (by decide) rfl
                have f9 : f 9 = .int .i64 (z : Int) := hF 9 140 (by decide) rfl
                have f10 : f 10 = .pointer (some ⟨w.heap.size, 1, none⟩) := hF 10 141 (by decide) rfl
                have f11 : f 11 = .slice (some ⟨eb, eo, none⟩) E.length c := hF 11 142 (by decide) rfl
                have f12 : f 12 = .int .i64 (E.length : Nat) := hF 12 143 (by decide) rfl
                have f13 : f 13 = .bool false := hF 13 144 (by decide) rfl
                have f14 : f 14 = .bool false := hF 14 145 (by decide) rfl
                have f15 : f 15 = .bool false := hF 15 146 (by decide) rfl
                have f16 : f 16 = .pointer (some ⟨w.heap.size, 1, none⟩) := hF 16 147 (by decide) rfl
                have f17 : f 17 = .slice (some ⟨eb, eo, none⟩) E.length c := hF 17 148 (by decide) rfl
                have f18 : f 18 = .slice (some ⟨tb, tof, none⟩) l.length dt := hF 18 149 (by decide) rfl
                have f19 : f 19 = .int .i64 (j : Int) := hF 19 150 (by decide) rfl
                have f20 : f 20 = .pointer (some ⟨tb, tof + j, none⟩) := hF 20 151 (by decide) rfl
                have f21 : f 21 = .int .i64 (z : Int) := hF 21 152 (by decide) rfl
                have f22 : f 22 = .pointer (some ⟨eb, eo + z * 3, none⟩) := hF 22 153 (by decide) rfl
                have f23 : f 23 = .pointer (some ⟨eb, eo + z * 3 + 1, none⟩) := hF 23 154 (by decide) rfl
                have f24 : f 24 = .int .i64 (k : Int) := hF 24 155 (by decide) rfl
                have f25 : f 25 = .int .i64 (k : Int) := hF 25 156 (by decide) rfl
                have f26 : f 26 = .bool false := hF 26 157 (by decide) rfl
                have f27 : f 27 = .bool false := hF 27 158 (by decide) rfl
                have f28 : f 28 = .bool false := hF 28 159 (by decide) rfl
                have f29 : f 29 = .int .i64 (j : Int) := hF 29 160 (by decide) rfl
                have f30 : f 30 = .bool false := hF 30 161 (by decide) rfl
                have f31 : f 31 = .bool false := hF 31 162 (by decide) rfl
                have f32 : f 32 = undef := hF 32 163 (by decide) rfl
                have f33 : f 33 = undef := hF 33 164 (by decide) rfl
                have f34 : f 34 = undef := hF 34 165 (by decide) rfl
                have f35 : f 35 = undef := hF 35 166 (by decide) rfl
                have f36 : f 36 = undef := hF 36 167 (by decide) rfl
                have f37 : f 37 = undef := hF 37 168 (by decide) rfl
                have f38 : f 38 = undef := hF 38 169 (by decide) rfl
                have f39 : f 39 = undef := hF 39 170 (by decide) rfl
                have f40 : f 40 = undef := hF 40 171 (by decide) rfl
                have f41 : f 41 = undef := hF 41 172 (by decide) rfl
                have f42 : f 42 = .bool false := hF 42 173 (by decide) rfl
                have f43 : f 43 = .bool false := hF 43 174 (by decide) rfl
                clear hF
                simp only [List.take_succ_cons, List.take_zero, List.drop_succ_cons, List.drop_zero, puts, Act.put, List.setIfInBounds_toArray, List.set_cons_succ, List.set_cons_zero, Nat.zero_add, Nat.reduceAdd, f0, f1, f2, f3, f4, f5, f6, f7, f8, f9, f10, f11, f12, f13, f14, f15, f16, f17, f18, f19, f20, f21, f22, f23, f24, f25, f26, f27, f28, f29, f30, f31, f32, f33, f34, f35, f36, f37, f38, f39, f40, f41, f42, f43]
                clear f0 f1 f2 f3 f4 f5 f6 f7 f8 f9 f10 f11 f12 f13 f14 f15 f16 f17 f18 f19 f20 f21 f22 f23 f24 f25 f26 f27 f28 f29 f30 f31 f32 f33 f34 f35 f36 f37 f38 f39 f40 f41 f42 f43
                refine wpList_nil ?_
                go_wp2_with fail
                go_roundw
                case rel => exact ⟨j + 1, by omega, by go_num, Ext.trans HXQ.out hwq⟩
                case measure => simp [intOf]; omega
              case neg =>
                have q3 : decide (0 < (j : Int)) = true := decide_eq_true (by omega)
                have q3' : decide (0 < j) = true := decide_eq_true (by omega)
                obtain ⟨i0, hi0⟩ : ∃ i0 : Nat, i0 + 1 = j := ⟨j - 1, by omega⟩
                obtain ⟨y, hy1, hy2⟩ := hz4 i0 (by omega)
                have hli : l[i0]'(by omega) = (y : Int) := (List.getElem_of_eq HLl.out (by omega)).trans hy1
                have c4 := htc i0 (by omega)
                rw [hli] at c4
                have q4 : decide ((z : Int) ≤ (y : Int)) = false := decide_eq_false (by omega)
                have q4' : decide (z ≤ y) = false := decide_eq_false (by omega)
                have q5 : IntKind.i64.wrap ((j : Int) - 1) = (i0 : Int) := by rw [IntWalk.i64_in _ (by omega)]; omega
                have q6 : (j : Int) - 1 = (i0 : Int) := by omega
                have q7 : IntKind.i64.wrap (i0 : Int) = (i0 : Int) := IntWalk.i64_in _ (by omega)
                have hi0l : i0 < l.length := by omega
                have HI0 := Lib.hid hi0
                clear hz2 hz3 hz4 hlj hIq htc hxw NQ hAq hec htk hj0 hy1 hli hi0
                have M1 := Lib.hid (fun u (hu : Ext wr u) => (hu.cell (World.block_lt_of_cell? wr _ c1)).trans c1)
                have M2 := Lib.hid (fun u (hu : Ext wr u) => (hu.cell (World.block_lt_of_cell? wr _ c2)).trans c2)
                have M3 := Lib.hid (fun u (hu : Ext wr u) => (hu.cell (World.block_lt_of_cell? wr _ c3)).trans c3)
                have M4 := Lib.hid (fun u (hu : Ext wr u) => (hu.cell (World.block_lt_of_cell? wr _ c4)).trans c4)
                clear c1 c2 c3 c4
                go_wp2_with fail
                refine wp_region_layt [Fact.val (.slice (some ⟨tb, tof, none⟩) l.length dt), Fact.val (.int .i64 (j : Int)), Fact.val (.pointer (some ⟨tb, tof + j, none⟩)), Fact.val (.int .i64 (z : Int)), Fact.val (.bool false), Fact.val (.bool false), Fact.val (.slice (some ⟨tb, tof, none⟩) l.length dt), Fact.val (.int .i64 (j : Int)), Fact.val (.pointer (some ⟨tb, tof + j, none⟩)), Fact.val (.int .i64 (z : Int)), Fact.val (.pointer (some ⟨w.heap.size, 1, none⟩)), Fact.val (.slice (some ⟨eb, eo, none⟩) E.length c), Fact.val (.int .i64 (E.length : Nat)), Fact.val (.bool false), Fact.val (.bool false), Fact.val (.bool false), Fact.val (.pointer (some ⟨w.heap.size, 1, none⟩)), Fact.val (.slice (some ⟨eb, eo, none⟩) E.length c), Fact.val (.slice (some ⟨tb, tof, none⟩) l.length dt), Fact.val (.int .i64 (j : Int)), Fact.val (.pointer (some ⟨tb, tof + j, none⟩)), Fact.val (.int .i64 (z : Int)), Fact.val (.pointer (some ⟨eb, eo + z * 3, none⟩)), Fact.val (.pointer (some ⟨eb, eo + z * 3 + 1, none⟩)), Fact.val (.int .i64 (k : Int)), Fact.val (.int .i64 (k : Int)), Fact.val (.bool false), Fact.val (.bool false), Fact.val (.bool false), Fact.val (.int .i64 (j : Int)), Fact.val (.bool true), Fact.val (.bool true), Fact.val (.slice (some ⟨tb, tof, none⟩) l.length dt), Fact.val (.int .i64 (j : Int)), Fact.val (.int .i64 (i0 : Int)), Fact.val (.pointer (some ⟨tb, tof + i0, none⟩)), Fact.val (.int .i64 (y : Int)), Fact.val (.slice (some ⟨tb, tof, none⟩) l.length dt), Fact.val (.int .i64 (j : Int)), Fact.val (.pointer (some ⟨tb, tof + j, none⟩)), Fact.val (.int .i64 (z : Int)), Fact.val (.bool false), Fact.val (.bool false), Fact.val (.bool false)] (wr) _ 44 (by kernel_rfl) (by kernel_rfl) (by kernel_rfl) (by kernel_rfl) (by kernel_rfl) (by kernel_rfl) (Ext.refl _) ?_ ?_
                · refine ⟨?_, ?_, ?_, ?_, ?_, ?_, ?_, ?_, ?_, ?_, ?_, ?_, ?_, ?_, ?_, ?_, ?_, ?_, ?_, ?_, ?_, ?_, ?_, ?_, ?_, ?_, ?_, ?_, ?_, ?_, ?_, ?_, ?_, ?_, ?_, ?_, ?_, ?_, ?_, ?_, ?_, ?_, ?_, ?_, trivial⟩
                  · intro a u hx hd hr
                    rw [if_pos (wanted_none rfl)]
                    exact Y_copy (.inl rfl) (hr 26 rfl)
                  · intro a u hx hd hr
                    rw [if_pos (wanted_none rfl)]
                    exact Y_copy (.inl rfl) (hr 27 rfl)
                  · intro a u hx hd hr
                    rw [if_pos (wanted_none rfl)]
                    have e131 : a.eval (.tmp 131) = .slice (some ⟨tb, tof, none⟩) l.length dt := hd 0 131 rfl rfl
                    have e132 : a.eval (.tmp 132) = .int .i64 (j : Int) := hd 1 132 rfl rfl
                    clear hd hr
                    go_light
                    simp only [Act.eval, Array.getD_eq_getD_getElem?] at e131 e132
                    exact Y_val (v := .pointer (some ⟨tb, tof + j, none⟩)) (by go_simp) rfl
                  · intro a u hx hd hr
                    rw [if_pos (wanted_none rfl)]
                    have e133 : a.eval (.tmp 133) = .pointer (some ⟨tb, tof + j, none⟩) := hd 2 133 rfl rfl
                    have ec := M1.out _ hx
                    clear hd hr
                    go_light
                    simp only [Act.eval, Array.getD_eq_getD_getElem?] at e133
                    exact Y_val (v := .int .i64 (z : Int)) (by go_simp) rfl
                  · intro a u hx hd hr
                    rw [if_pos (wanted_none rfl)]
                    have e134 : a.eval (.tmp 134) = .int .i64 (z : Int) := hd 3 134 rfl rfl
                    clear hd hr
                    go_light
                    simp only [Act.eval, Array.getD_eq_getD_getElem?] at e134
                    exact Y_val (v := .bool false) (by go_simp) rfl
                  · intro a u hx hd hr
                    rw [if_pos (wanted_none rfl)]
                    exact Y_copy (.inl rfl) (hd 4 135 rfl rfl)
                  · intro a u hx hd hr
                    have eg : a.eval (.tmp 136) = .bool false := hd 5 136 rfl rfl
                    rw [if_pos (by rw [wanted_some rfl rfl eg]; rfl)]
                    exact Y_copy (.inl rfl) (hr 26 rfl)
                  · intro a u hx hd hr
                    have eg : a.eval (.tmp 136) = .bool false := hd 5 136 rfl rfl
                    rw [if_pos (by rw [wanted_some rfl rfl eg]; rfl)]
                    exact Y_copy (.inl rfl) (hr 27 rfl)
                  · intro a u hx hd hr
                    have eg : a.eval (.tmp 136) = .bool false := hd 5 136 rfl rfl
                    rw [if_pos (by rw [wanted_some rfl rfl eg]; rfl)]
                    have e137 : a.eval (.tmp 137) = .slice (some ⟨tb, tof, none⟩) l.length dt := hd 6 137 rfl rfl
                    have e138 : a.eval (.tmp 138) = .int .i64 (j : Int) := hd 7 138 rfl rfl
                    clear hd hr
                    go_light
                    simp only [Act.eval, Array.getD_eq_getD_getElem?] at e137 e138
                    exact Y_val (v := .pointer (some ⟨tb, tof + j, none⟩)) (by go_simp) rfl
                  · intro a u hx hd hr
                    have eg : a.eval (.tmp 136) = .bool false := hd 5 136 rfl rfl
                    rw [if_pos (by rw [wanted_some rfl rfl eg]; rfl)]
                    have e139 : a.eval (.tmp 139) = .pointer (some ⟨tb, tof + j, none⟩) := hd 8 139 rfl rfl
                    have ec := M1.out _ hx
                    clear hd hr
                    go_light
                    simp only [Act.eval, Array.getD_eq_getD_getElem?] at e139
                    exact Y_val (v := .int .i64 (z : Int)) (by go_simp) rfl
                  · intro a u hx hd hr
                    have eg : a.eval (.tmp 136) = .bool false := hd 5 136 rfl rfl
                    rw [if_pos (by rw [wanted_some rfl rfl eg]; rfl)]
                    have e4 : a.eval (.tmp 4) = .pointer (some ⟨w.heap.size, 0, none⟩) := hr 4 rfl
                    clear hd hr
                    go_light
                    simp only [Act.eval, Array.getD_eq_getD_getElem?] at e4
                    exact Y_val (v := .pointer (some ⟨w.heap.size, 1, none⟩)) (by go_simp) rfl
                  · intro a u hx hd hr
                    have eg : a.eval (.tmp 136) = .bool false := hd 5 136 rfl rfl
                    rw [if_pos (by rw [wanted_some rfl rfl eg]; rfl)]
                    have e141 : a.eval (.tmp 141) = .pointer (some ⟨w.heap.size, 1, none⟩) := hd 10 141 rfl rfl
                    have ec := M2.out _ hx
                    clear hd hr
                    go_light
                    simp only [Act.eval, Array.getD_eq_getD_getElem?] at e141
                    exact Y_val (v := .slice (some ⟨eb, eo, none⟩) E.length c) (by go_simp) rfl
                  · intro a u hx hd hr
                    have eg : a.eval (.tmp 136) = .bool false := hd 5 136 rfl rfl
                    rw [if_pos (by rw [wanted_some rfl rfl eg]; rfl)]
                    have e142 : a.eval (.tmp 142) = .slice (some ⟨eb, eo, none⟩) E.length c := hd 11 142 rfl rfl
                    clear hd hr
                    go_light
                    simp only [Act.eval, Array.getD_eq_getD_getElem?] at e142
                    exact Y_val (v := .int .i64 (E.length : Nat)) (by go_simp) rfl
                  · intro a u hx hd hr
                    have eg : a.eval (.tmp 136) = .bool false := hd 5 136 rfl rfl
                    rw [if_pos (by rw [wanted_some rfl rfl eg]; rfl)]
                    have e140 : a.eval (.tmp 140) = .int .i64 (z : Int) := hd 9 140 rfl rfl
                    have e143 : a.eval (.tmp 143) = .int .i64 (E.length : Nat) := hd 12 143 rfl rfl
                    clear hd hr
                    go_light
                    simp only [Act.eval, Array.getD_eq_getD_getElem?] at e140 e143
                    exact Y_val (v := .bool false) (by go_simp) rfl
                  · intro a u hx hd hr
                    rw [if_pos (wanted_none rfl)]
                    have e136 : a.eval (.tmp 136) = .bool false := hd 5 136 rfl rfl
                    exact Y_pick rfl e136 (hd 13 144 rfl rfl)
                  · intro a u hx hd hr
                    rw [if_pos (wanted_none rfl)]
                    exact Y_copy (.inl rfl) (hd 14 145 rfl rfl)
                  · intro a u hx hd hr
                    have eg : a.eval (.tmp 146) = .bool false := hd 15 146 rfl rfl
                    rw [if_pos (by rw [wanted_some rfl rfl eg]; rfl)]
                    have e4 : a.eval (.tmp 4) = .pointer (some ⟨w.heap.size, 0, none⟩) := hr 4 rfl
                    clear hd hr
                    go_light
                    simp only [Act.eval, Array.getD_eq_getD_getElem?] at e4
                    exact Y_val (v := .pointer (some ⟨w.heap.size, 1, none⟩)) (by go_simp) rfl
                  · intro a u hx hd hr
                    have eg : a.eval (.tmp 146) = .bool false := hd 15 146 rfl rfl
                    rw [if_pos (by rw [wanted_some rfl rfl eg]; rfl)]
                    have e147 : a.eval (.tmp 147) = .pointer (some ⟨w.heap.size, 1, none⟩) := hd 16 147 rfl rfl
                    have ec := M2.out _ hx
                    clear hd hr
                    go_light
                    simp only [Act.eval, Array.getD_eq_getD_getElem?] at e147
                    exact Y_val (v := .slice (some ⟨eb, eo, none⟩) E.length c) (by go_simp) rfl
                  · intro a u hx hd hr
                    have eg : a.eval (.tmp 146) = .bool false := hd 15 146 rfl rfl
                    rw [if_pos (by rw [wanted_some rfl rfl eg]; rfl)]
                    exact Y_copy (.inl rfl) (hr 26 rfl)
                  · intro a u hx hd hr
                    have eg : a.eval (.tmp 146) = .bool false := hd 15 146 rfl rfl
                    rw [if_pos (by rw [wanted_some rfl rfl eg]; rfl)]
                    exact Y_copy (.inl rfl) (hr 27 rfl)
                  · intro a u hx hd hr
                    have eg : a.eval (.tmp 146) = .bool false := hd 15 146 rfl rfl
                    rw [if_pos (by rw [wanted_some rfl rfl eg]; rfl)]
                    have e149 : a.eval (.tmp 149) = .slice (some ⟨tb, tof, none⟩) l.length dt := hd 18 149 rfl rfl
                    have e150 : a.eval (.tmp 150) = .int .i64 (j : Int) := hd 19 150 rfl rfl
                    clear hd hr
                    go_light
                    simp only [Act.eval, Array.getD_eq_getD_getElem?] at e149 e150
                    exact Y_val (v := .pointer (some ⟨tb, tof + j, none⟩)) (by go_simp) rfl
                  · intro a u hx hd hr
                    have eg : a.eval (.tmp 146) = .bool false := hd 15 146 rfl rfl
                    rw [if_pos (by rw [wanted_some rfl rfl eg]; rfl)]
                    have e151 : a.eval (.tmp 151) = .pointer (some ⟨tb, tof + j, none⟩) := hd 20 151 rfl rfl
                    have ec := M1.out _ hx
                    clear hd hr
                    go_light
                    simp only [Act.eval, Array.getD_eq_getD_getElem?] at e151
                    exact Y_val (v := .int .i64 (z : Int)) (by go_simp) rfl
                  · intro a u hx hd hr
                    have eg : a.eval (.tmp 146) = .bool false := hd 15 146 rfl rfl
                    rw [if_pos (by rw [wanted_some rfl rfl eg]; rfl)]
                    have e148 : a.eval (.tmp 148) = .slice (some ⟨eb, eo, none⟩) E.length c := hd 17 148 rfl rfl
                    have e152 : a.eval (.tmp 152) = .int .i64 (z : Int) := hd 21 152 rfl rfl
                    clear hd hr
                    go_light
                    simp only [Act.eval, Array.getD_eq_getD_getElem?] at e148 e152
                    exact Y_val (v := .pointer (some ⟨eb, eo + z * 3, none⟩)) (by go_simp) rfl
                  · intro a u hx hd hr
                    have eg : a.eval (.tmp 146) = .bool false := hd 15 146 rfl rfl
                    rw [if_pos (by rw [wanted_some rfl rfl eg]; rfl)]
                    have e153 : a.eval (.tmp 153) = .pointer (some ⟨eb, eo + z * 3, none⟩) := hd 22 153 rfl rfl
                    clear hd hr
                    go_light
                    simp only [Act.eval, Array.getD_eq_getD_getElem?] at e153
                    exact Y_val (v := .pointer (some ⟨eb, eo + z * 3 + 1, none⟩)) (by go_simp) rfl
                  · intro a u hx hd hr
                    have eg : a.eval (.tmp 146) = .bool false := hd 15 146 rfl rfl
                    rw [if_pos (by rw [wanted_some rfl rfl eg]; rfl)]
                    have e154 : a.eval (.tmp 154) = .pointer (some ⟨eb, eo + z * 3 + 1, none⟩) := hd 23 154 rfl rfl
                    have ec := M3.out _ hx
                    clear hd hr
                    go_light
                    simp only [Act.eval, Array.getD_eq_getD_getElem?] at e154
                    exact Y_val (v := .int .i64 (k : Int)) (by go_simp) rfl
                  · intro a u hx hd hr
                    have eg : a.eval (.tmp 146) = .bool false := hd 15 146 rfl rfl
                    rw [if_pos (by rw [wanted_some rfl rfl eg]; rfl)]
                    exact Y_copy (.inl rfl) (hr 25 rfl)
                  · intro a u hx hd hr
                    have eg : a.eval (.tmp 146) = .bool false := hd 15 146 rfl rfl
                    rw [if_pos (by rw [wanted_some rfl rfl eg]; rfl)]
                    have e155 : a.eval (.tmp 155) = .int .i64 (k : Int) := hd 24 155 rfl rfl
                    have e156 : a.eval (.tmp 156) = .int .i64 (k : Int) := hd 25 156 rfl rfl
                    clear hd hr
                    go_light
                    simp only [Act.eval, Array.getD_eq_getD_getElem?] at e155 e156
                    exact Y_val (v := .bool false) (by go_simp) rfl
                  · intro a u hx hd hr
                    rw [if_pos (wanted_none rfl)]
                    have e146 : a.eval (.tmp 146) = .bool false := hd 15 146 rfl rfl
                    exact Y_pick rfl e146 (hd 26 157 rfl rfl)
                  · intro a u hx hd hr
                    rw [if_pos (wanted_none rfl)]
                    exact Y_copy (.inl rfl) (hd 27 158 rfl rfl)
                  · intro a u hx hd hr
                    have eg : a.eval (.tmp 159) = .bool false := hd 28 159 rfl rfl
                    rw [if_pos (by rw [wanted_some rfl rfl eg]; rfl)]
                    exact Y_copy (.inl rfl) (hr 27 rfl)
                  · intro a u hx hd hr
                    have eg : a.eval (.tmp 159) = .bool false := hd 28 159 rfl rfl
                    rw [if_pos (by rw [wanted_some rfl rfl eg]; rfl)]
                    have e160 : a.eval (.tmp 160) = .int .i64 (j : Int) := hd 29 160 rfl rfl
                    clear hd hr
                    go_light
                    simp only [Act.eval, Array.getD_eq_getD_getElem?] at e160
                    exact Y_val (v := .bool true) (by go_simp) rfl
                  · intro a u hx hd hr
                    have eg : a.eval (.tmp 159) = .bool false := hd 28 159 rfl rfl
                    rw [if_pos (by rw [wanted_some rfl rfl eg]; rfl)]
                    exact Y_copy (.inl rfl) (hd 30 161 rfl rfl)
                  · intro a u hx hd hr
                    have eg : a.eval (.tmp 162) = .bool true := hd 31 162 rfl rfl
                    rw [if_pos (by rw [wanted_some rfl rfl eg]; rfl)]
                    exact Y_copy (.inl rfl) (hr 26 rfl)
                  · intro a u hx hd hr
                    have eg : a.eval (.tmp 162) = .bool true := hd 31 162 rfl rfl
                    rw [if_pos (by rw [wanted_some rfl rfl eg]; rfl)]
                    exact Y_copy (.inl rfl) (hr 27 rfl)
                  · intro a u hx hd hr
                    have eg : a.eval (.tmp 162) = .bool true := hd 31 162 rfl rfl
                    rw [if_pos (by rw [wanted_some rfl rfl eg]; rfl)]
                    have e164 : a.eval (.tmp 164) = .int .i64 (j : Int) := hd 33 164 rfl rfl
                    clear hd hr
                    go_light
                    simp only [Act.eval, Array.getD_eq_getD_getElem?] at e164
                    exact Y_val (v := .int .i64 (i0 : Int)) (by go_simp) rfl
                  · intro a u hx hd hr
                    have eg : a.eval (.tmp 162) = .bool true := hd 31 162 rfl rfl
                    rw [if_pos (by rw [wanted_some rfl rfl eg]; rfl)]
                    have e163 : a.eval (.tmp 163) = .slice (some ⟨tb, tof, none⟩) l.length dt := hd 32 163 rfl rfl
                    have e165 : a.eval (.tmp 165) = .int .i64 (i0 : Int) := hd 34 165 rfl rfl
                    clear hd hr
                    go_light
                    simp only [Act.eval, Array.getD_eq_getD_getElem?] at e163 e165
                    exact Y_val (v := .pointer (some ⟨tb, tof + i0, none⟩)) (by go_simp) rfl
                  · intro a u hx hd hr
                    have eg : a.eval (.tmp 162) = .bool true := hd 31 162 rfl rfl
                    rw [if_pos (by rw [wanted_some rfl rfl eg]; rfl)]
                    have e166 : a.eval (.tmp 166) = .pointer (some ⟨tb, tof + i0, none⟩) := hd 35 166 rfl rfl
                    have ec := M4.out _ hx
                    clear hd hr
                    go_light
                    simp only [Act.eval, Array.getD_eq_getD_getElem?] at e166
                    exact Y_val (v := .int .i64 (y : Int)) (by go_simp) rfl
                  · intro a u hx hd hr
                    have eg : a.eval (.tmp 162) = .bool true := hd 31 162 rfl rfl
                    rw [if_pos (by rw [wanted_some rfl rfl eg]; rfl)]
                    exact Y_copy (.inl rfl) (hr 26 rfl)
                  · intro a u hx hd hr
                    have eg : a.eval (.tmp 162) = .bool true := hd 31 162 rfl rfl
                    rw [if_pos (by rw [wanted_some rfl rfl eg]; rfl)]
                    exact Y_copy (.inl rfl) (hr 27 rfl)
                  · intro a u hx hd hr
                    have eg : a.eval (.tmp 162) = .bool true := hd 31 162 rfl rfl
                    rw [if_pos (by rw [wanted_some rfl rfl eg]; rfl)]
                    have e168 : a.eval (.tmp 168) = .slice (some ⟨tb, tof, none⟩) l.length dt := hd 37 168 rfl rfl
                    have e169 : a.eval (.tmp 169) = .int .i64 (j : Int) := hd 38 169 rfl rfl
                    clear hd hr
                    go_light
                    simp only [Act.eval, Array.getD_eq_getD_getElem?] at e168 e169
                    exact Y_val (v := .pointer (some ⟨tb, tof + j, none⟩)) (by go_simp) rfl
                  · intro a u hx hd hr
                    have eg : a.eval (.tmp 162) = .bool true := hd 31 162 rfl rfl
                    rw [if_pos (by rw [wanted_some rfl rfl eg]; rfl)]
                    have e170 : a.eval (.tmp 170) = .pointer (some ⟨tb, tof + j, none⟩) := hd 39 170 rfl rfl
                    have ec := M1.out _ hx
                    clear hd hr
                    go_light
                    simp only [Act.eval, Array.getD_eq_getD_getElem?] at e170
                    exact Y_val (v := .int .i64 (z : Int)) (by go_simp) rfl
                  · intro a u hx hd hr
                    have eg : a.eval (.tmp 162) = .bool true := hd 31 162 rfl rfl
                    rw [if_pos (by rw [wanted_some rfl rfl eg]; rfl)]
                    have e167 : a.eval (.tmp 167) = .int .i64 (y : Int) := hd 36 167 rfl rfl
                    have e171 : a.eval (.tmp 171) = .int .i64 (z : Int) := hd 40 171 rfl rfl
                    clear hd hr
                    go_light
                    simp only [Act.eval, Array.getD_eq_getD_getElem?] at e167 e171
                    exact Y_val (v := .bool false) (by go_simp) rfl
                  · intro a u hx hd hr
                    have eg : a.eval (.tmp 159) = .bool false := hd 28 159 rfl rfl
                    rw [if_pos (by rw [wanted_some rfl rfl eg]; rfl)]
                    have e162 : a.eval (.tmp 162) = .bool true := hd 31 162 rfl rfl
                    exact Y_pick rfl e162 (hd 41 172 rfl rfl)
                  · intro a u hx hd hr
                    rw [if_pos (wanted_none rfl)]
                    have e159 : a.eval (.tmp 159) = .bool false := hd 28 159 rfl rfl
                    exact Y_pick rfl e159 (hd 42 173 rfl rfl)
                intro f wq hwq hF
                have f0 : f 0 = .slice (some ⟨tb, tof, none⟩) l.length dt := hF 0 131 (by decide) rfl
                have f1 : f 1 = .int .i64 (j : Int) := hF 1 132 (by decide) rfl
                have f2 : f 2 = .pointer (some ⟨tb, tof + j, none⟩) := hF 2 133 (by decide) rfl
                have f3 : f 3 = .int .i64 (z : Int) := hF 3 134 (by decide) rfl
                have f4 : f 4 = .bool false := hF 4 135 (by decide) rfl
                have f5 : f 5 = .bool false := hF 5 136 (by decide) rfl
                have f6 : f 6 = .slice (some ⟨tb, tof, none⟩) l.length dt := hF 6 137 (by decide) rfl
                have f7 : f 7 = .int .i64 (j : Int) := hF 7 138 (by decide) rfl
                have f8 : f 8 = .pointer (some ⟨tb, tof + j, none⟩) := hF 8 139 (by decide) rfl
                have f9 : f 9 = .int .i64 (z : Int) := hF 9 140 (by decide) rfl
                have f10 : f 10 = .pointer (some ⟨w.heap.size, 1, none⟩) := hF 10 141 (by decide) rfl
                have f11 : f 11 = .slice (some ⟨eb, eo, none⟩) E.length c := hF 11 142 (by decide) rfl
                have f12 : f 12 = .int .i64 (E.length : Nat) := hF 12 143 (by decide) rfl
                have f13 : f 13 = .bool false := hF 13 144 (by decide) rfl
                have f14 : f 14 = .bool false := hF 14 145 (by decide) rfl
                have f15 : f 15 = .bool false := hF 15 146 (by decide) rfl
                have f16 : f 16 = .pointer (some ⟨w.heap.size, 1, none⟩) := hF 16 147 (by decide) rfl
                have f17 : f 17 = .slice (some ⟨eb, eo, none⟩) E.length c := hF 17 148 (by decide) rfl
                have f18 : f 18 = .slice (some ⟨tb, tof, none⟩) l.length dt := hF 18 149 (by decide) rfl
                have f19 : f 19 = .int .i64 (j : Int) := hF 19 150 (by decide) rfl
                have f20 : f 20 = .pointer (some ⟨tb, tof + j, none⟩) := hF 20 151 (by decide) rfl
                have f21 : f 21 = .int .i64 (z : Int) := hF 21 152 (by decide) rfl
                have f22 : f 22 = .pointer (some ⟨eb, eo + z * 3, none⟩) := hF 22 153 (by decide) rfl
                have f23 : f 23 = .pointer (some ⟨eb, eo + z * 3 + 1, none⟩) := hF 23 154 (by decide) rfl
                have f24 : f 24 = .int .i64 (k : Int) := hF 24 155 (by decide) rfl
                have f25 : f 25 = .int .i64 (k : Int) := hF 25 156 (by decide) rfl
                have f26 : f 26 = .bool false := hF 26 157 (by decide) rfl
                have f27 : f 27 = .bool false := hF 27 158 (by decide) rfl
                have f28 : f 28 = .bool false := hF 28 159 (by decide) rfl
                have f29 : f 29 = .int .i64 (j : Int) := hF 29 160 (by decide) rfl
                have f30 : f 30 = .bool true := hF 30 161 (by decide) rfl
                have f31 : f 31 = .bool true := hF 31 162 (by decide) rfl
                have f32 : f 32 = .slice (some ⟨tb, tof, none⟩) l.length dt := hF 32 163 (by decide) rfl
                have f33 : f 33 = .int .i64 (j : Int) := hF 33 164 (by decide) rfl
                have f34 : f 34 = .int .i64 (i0 : Int) := hF 34 165 (by decide) rfl
                have f35 : f 35 = .pointer (some ⟨tb, tof + i0, none⟩) := hF 35 166 (by decide) rfl
                have f36 : f 36 = .int .i64 (y : Int) := hF 36 167 (by decide) rfl
                have f37 : f 37 = .slice (some ⟨tb, tof, none⟩) l.length dt := hF 37 168 (by decide) rfl
                have f38 : f 38 = .int .i64 (j : Int) := hF 38 169 (by decide) rfl
                have f39 : f 39 = .pointer (some ⟨tb, tof + j, none⟩) := hF 39 170 (by decide) rfl
                have f40 : f 40 = .int .i64 (z : Int) := hF 40 171 (by decide) rfl
                have f41 : f 41 = .bool false := hF 41 172 (by decide) rfl
                have f42 : f 42 = .bool false := hF 42 173 (by decide) rfl
                have f43 : f 43 = .bool false := hF 43 174 (by decide) rfl
                clear hF
                simp only [List.take_succ_cons, List.take_zero, List.drop_succ_cons, List.drop_zero, puts, Act.put, List.setIfInBounds_toArray, List.set_cons_succ, List.set_cons_zero, Nat.zero_add, Nat.reduceAdd, f0, f1, f2, f3, f4, f5, f6, f7, f8, f9, f10, f11, f12, f13, f14, f15, f16, f17, f18, f19, f20, f21, f22, f23, f24, f25, f26, f27, f28, f29, f30, f31, f32, f33, f34, f35, f36, f37, f38, f39, f40, f41, f42, f43]
                clear f0 f1 f2 f3 f4 f5 f6 f7 f8 f9 f10 f11 f12 f13 f14 f15 f16 f17 f18 f19 f20 f21 f22 f23 f24 f25 f26 f27 f28 f29 f30 f31 f32 f33 f34 f35 f36 f37 f38 f39 f40 f41 f42 f43
                refine wpList_nil ?_
                go_wp2_with fail
                go_roundw
                case rel => exact ⟨j + 1, by omega, by go_num, Ext.trans HXQ.out hwq⟩
                case measure => simp [intOf]; omega
            · go_wp2_with fail
              refine ⟨⟨_, _, _, _, _, _, _, _, _, _, _, _, _, _, _, _, _, _, _, _, _, _, _, _, _, _, _, _, _, _, _, _, _, _, _, _, _, _, _, _, _, _, _, _, _, _, _, _, _, _, _, _, _, _, _, _, _, _, _, _, _, _, _, _, _, _, _, _, ?rel2, rfl⟩, ?mea2⟩
              case rel2 =>
                refine ⟨k + 1, by omega, ?_, by go_num, Ext.trans HXK.out (Ext.trans YT.out HXQ.out)⟩
                rw [HCS.out]
                go_num
              case mea2 => simp [intOf]; omega
        · have hkm2 : k = m := by omega
          subst hkm2
          clear hkm hk
          have hcm : cntT zs L k = E.length := by
            rw [HL.out]
            refine cntT_all zs k E.length (by rw [HZS.out]; simp) (fun z hz => ?_)
            rw [HZS.out] at hz
            obtain ⟨e, he, rfl⟩ := List.mem_map.1 hz
            exact ⟨(HEE.out e he).1, (HEE.out e he).2.1⟩
          rw [hcm]
          have WK := (HXK.out.block _ (Array.getElem?_eq_some_iff.1 W5.out).1).trans W5.out
          have d0 : wr.cell? ⟨w4.heap.size, 0, none⟩ = some (.int .i64 (k : Int)) := by rw [cell_of_row _ _ _ _ _ _ WK]; rfl
          have d1 : wr.cell? ⟨w4.heap.size, 1, none⟩ = some (.slice Bw E.length dw) := by rw [cell_of_row _ _ _ _ _ _ WK]; rfl
          have hkn := kitnet_any (k : Int) (k : Int) A c E rs Bw dw E sw wr HAK.out (HW5.out.below HXK.out) (by omega) (by omega)
          have hsn : sameN ⟨(k : Int), E⟩ ⟨(k : Int), E⟩ = true := by rw [sameN_iff]
          rw [hsn] at hkn
          have HKN := Lib.hid hkn
          clear hkn hsn hcm WK
          go_wp2_with fail
          refine HKN.out.mono ?_
          rintro e wz ⟨rfl, yz⟩
          have YZ := Lib.hid yz
          clear yz
          go_wp2_with fail
          go_ret
          exact ⟨rfl, Ext.trans X5.out (Ext.trans HXK.out YZ.out)⟩
end Go.Proofs.Ytomdplbdndadcaa
