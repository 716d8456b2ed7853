import Derived.Test.YtomdplbdndadcaaNtZ
import Derived.IntWalk
import Derived.Deep.Cut
import Derived.Deep.RegionWith
namespace Go.Proofs.Ytomdplbdndadcaa
open Go.RowKit

/-- what is on its way after i rounds -/
def FE (r : List UInt8) : Nat → List EV
  | 0 => []
  | i + 1 => FE r i ++ freshN ((i % 3 : Nat) : Int) (-1) r 3
theorem fresh3 (r : List UInt8) (k : Nat) (hk : k < 3) : (freshN (k : Int) (-1) r 3).length = 2 ∧ ∀ e ∈ freshN (k : Int) (-1) r 3, e.r = r ∧ (r.length ≤ 16384 → badE 3 e = false) := by
  have h3 : k = 0 ∨ k = 1 ∨ k = 2 := by omega
  rcases h3 with rfl | rfl | rfl
  · have h : freshN ((0 : Nat) : Int) (-1) r 3 = [⟨0, 1, r⟩, ⟨0, 2, r⟩] := rfl
    rw [h]
    refine ⟨rfl, ?_⟩
    intro e he
    simp at he
    rcases he with rfl | rfl <;> exact ⟨rfl, fun hl => by simp [badE]; omega⟩
  · have h : freshN ((1 : Nat) : Int) (-1) r 3 = [⟨1, 0, r⟩, ⟨1, 2, r⟩] := rfl
    rw [h]
    refine ⟨rfl, ?_⟩
    intro e he
    simp at he
    rcases he with rfl | rfl <;> exact ⟨rfl, fun hl => by simp [badE]; omega⟩
  · have h : freshN ((2 : Nat) : Int) (-1) r 3 = [⟨2, 0, r⟩, ⟨2, 1, r⟩] := rfl
    rw [h]
    refine ⟨rfl, ?_⟩
    intro e he
    simp at he
    rcases he with rfl | rfl <;> exact ⟨rfl, fun hl => by simp [badE]; omega⟩
theorem FE_ok (r : List UInt8) (hr : r.length ≤ 16384) : ∀ i, (FE r i).length = 2 * i ∧ ∀ e ∈ FE r i, e.r = r ∧ badE 3 e = false
  | 0 => ⟨rfl, fun e he => by cases he⟩
  | i + 1 => by
    obtain ⟨h1, h2⟩ := FE_ok r hr i
    obtain ⟨h3, h4⟩ := fresh3 r (i % 3) (Nat.mod_lt _ (by decide))
    refine ⟨by rw [FE, List.length_append, h1, h3]; omega, fun e he => ?_⟩
    rw [FE, List.mem_append] at he
    rcases he with he | he
    · exact h2 e he
    · exact ⟨(h4 e he).1, (h4 e he).2 hr⟩
theorem check_of (E : List EV) (hl : E.length ≤ 512) (hb : ∀ e ∈ E, badE 3 e = false) : checkN ⟨3, E⟩ = 0 := by
  unfold checkN
  rw [if_neg]
  rintro (h | h | h | h)
  · dsimp only at h; omega
  · dsimp only at h; omega
  · dsimp only at h; omega
  · dsimp only at h
    rw [List.any_eq_true] at h
    obtain ⟨e, he, h2⟩ := h
    rw [hb e he] at h2
    cases h2
theorem fresh01 (r : List UInt8) : freshN 0 1 r 3 = [⟨0, 1, r⟩] := rfl
theorem fresh02 (r : List UInt8) : freshN 0 (-1) r 3 = [⟨0, 1, r⟩, ⟨0, 2, r⟩] := rfl

section
variable (w : World) (B C : Option Addr) (d c n : Nat) (E : List EV) (rs : List Raw) (r : List UInt8)
theorem fu_put (k : Nat) (hk : k < 3) (hE : Es w B d E rs) (hn : E.length = n) (hn2 : n + 2 ≤ 512) (hb : ∀ e ∈ E, e.r = r ∧ badE 3 e = false) (hC : Bs w C c r) (hr : r.length ≤ 300) (M : List EV) (hM : M = E ++ freshN (k : Int) (-1) r 3) :
    Calls Try.prog 14 #[.agg #[.int .i64 3, .slice B n d], .int .i64 (k : Int), .agg #[.int .i64 (-1), .slice C r.length c]] w fun e w' => ∃ B d ss, e = .returned (.tuple #[.agg #[.int .i64 3, .slice B (n + 2) d], .int .i64 2, .int .i64 0]) ∧ Es w' B d M ss ∧ (∀ a, B = some a → w.heap.size ≤ a.block) ∧ Fr w' w.heap.size ss ∧ Ext w w' := by
  subst hn
  obtain ⟨h3, h4⟩ := fresh3 r k hk
  have hc := check_of E (by omega) (fun e he => (hb e he).2)
  have h := put_good 3 B d E rs (k : Int) (-1) C c r w hE hC hc (by omega) (by omega) (fun e he => by rw [(hb e he).1]; omega) (by omega) (by omega) (by omega) (by omega) (by omega) (by omega)
  refine h.mono ?_
  rintro e w' (⟨h5, _⟩ | ⟨_, B', d', ss, rfl, h6, h7, h8, h9⟩)
  · omega
  · refine ⟨B', d', ss, ?_, by rw [hM]; exact h6, h7, h8, h9⟩
    rw [List.length_append, h3]
    rfl
theorem fu_full (o : Int) (ho : o = 1 ∨ o = -1) (hE : Es w B d E rs) (hn : E.length = n) (hn2 : n ≤ 512) (hn3 : o = 1 → n = 512) (hn4 : 511 ≤ n) (hb : ∀ e ∈ E, e.r = r ∧ badE 3 e = false) (hC : Bs w C c r) (hr : r.length ≤ 300) :
    Calls Try.prog 14 #[.agg #[.int .i64 3, .slice B n d], .int .i64 0, .agg #[.int .i64 o, .slice C r.length c]] w fun e w' => e = .returned (.tuple #[.agg #[.int .i64 0, .slice none 0 0], .int .i64 0, .int .i64 7]) ∧ Ext w w' := by
  subst hn
  have hc := check_of E (by omega) (fun e he => (hb e he).2)
  have h := put_good 3 B d E rs 0 o C c r w hE hC hc (by omega) (by omega) (fun e he => by rw [(hb e he).1]; omega) (by omega) (by omega) (by omega) (by omega) (by omega) (by omega)
  refine h.mono ?_
  rintro e w' (⟨_, h5, h6⟩ | ⟨h5, _⟩)
  · exact ⟨h5, h6⟩
  · exfalso
    rcases ho with rfl | rfl
    · rw [fresh01] at h5; have := hn3 rfl; simp at h5; omega
    · rw [fresh02] at h5; simp at h5; omega
theorem fu_one (hE : Es w B d E rs) (hn : E.length = 511) (hb : ∀ e ∈ E, e.r = r ∧ badE 3 e = false) (hC : Bs w C c r) (hr : r.length ≤ 300) :
    Calls Try.prog 14 #[.agg #[.int .i64 3, .slice B 511 d], .int .i64 0, .agg #[.int .i64 1, .slice C r.length c]] w fun e w' => ∃ B d ss M, e = .returned (.tuple #[.agg #[.int .i64 3, .slice B 512 d], .int .i64 1, .int .i64 0]) ∧ Es w' B d M ss ∧ Ext w w' := by
  have hc := check_of E (by omega) (fun e he => (hb e he).2)
  have h := put_good 3 B d E rs 0 1 C c r w hE hC hc (by omega) (by omega) (fun e he => by rw [(hb e he).1]; omega) (by omega) (by omega) (by omega) (by omega) (by omega) (by omega)
  rw [hn] at h
  refine h.mono ?_
  rintro e w' (⟨h5, _⟩ | ⟨_, B', d', ss, rfl, h6, h7, h8, h9⟩)
  · rw [fresh01] at h5; simp at h5
  · refine ⟨B', d', ss, E ++ freshN 0 1 r ((3 : Nat)), ?_, h6, h9⟩
    rw [List.length_append, hn, fresh01]
    rfl
theorem fu_twice (hE : Es w B d E rs) (hn : E.length = 512) (hb : ∀ e ∈ E, e.r = r ∧ badE 3 e = false) :
    Calls Try.prog 13 #[.agg #[.int .i64 3, .slice B 512 d], .int .i64 5] w fun e w' => e = .returned (.tuple #[.agg #[.int .i64 0, .slice none 0 0], .int .i64 7]) ∧ Ext w w' := by
  have hc := check_of E (by omega) (fun e he => (hb e he).2)
  have hat : atN ⟨3, E⟩ 5 = 0 := by unfold atN; rw [if_neg (by simp [hc]), if_neg (by dsimp only; omega)]
  have h := twice_full 3 B d E rs 5 w hE hat (by omega)
  rw [hn] at h
  exact h
theorem fu_take (hE : Es w B d E rs) (hn : E.length = 512) (hb : ∀ e ∈ E, e.r = r ∧ badE 3 e = false) (hr : r.length ≤ 300) :
    Calls Try.prog 11 #[.agg #[.int .i64 3, .slice B 512 d], .int .i64 7] w fun e w' => ∃ f t X q k B d ss M, e = .returned (.tuple #[.agg #[.int .i64 f, .int .i64 t, .slice X k q], .agg #[.int .i64 3, .slice B 511 d], .int .i64 0]) ∧ Es w' B d M ss ∧ M.length = 511 ∧ (∀ e ∈ M, e.r = r ∧ badE 3 e = false) ∧ Ext w w' := by
  have hc := check_of E (by omega) (fun e he => (hb e he).2)
  have hat : atN ⟨3, E⟩ ((7 : Nat) : Int) = 0 := by unfold atN; rw [if_neg (by simp [hc]), if_neg (by dsimp only; omega)]
  have h := take_ok 3 B d E rs 7 w hE hat (by omega) (by omega) (fun e he => by rw [(hb e he).1]; omega)
  have hl : (E.eraseIdx 7).length = 511 := by rw [List.length_eraseIdx]; simp [hn]
  have h' : Calls Try.prog 11 #[.agg #[.int .i64 3, .slice B E.length d], .int .i64 7] w fun e w' => ∃ f t X q k B d ss, e = .returned (.tuple #[.agg #[.int .i64 f, .int .i64 t, .slice X k q], .agg #[.int .i64 3, .slice B (E.eraseIdx 7).length d], .int .i64 0]) ∧ Es w' B d (E.eraseIdx 7) ss ∧ Ext w w' :=
    h.mono fun e w' ⟨B', d', ss, X, q, he, h1, _, _, _, _, h2⟩ => ⟨_, _, X, q, _, B', d', ss, he, h1, h2⟩
  rw [hn, hl] at h'
  refine h'.mono ?_
  rintro e w' ⟨f, t, X, q, k, B', d', ss, rfl, h1, h2⟩
  exact ⟨f, t, X, q, k, B', d', ss, E.eraseIdx 7, rfl, h1, hl, fun e he => hb e (List.mem_of_mem_eraseIdx he), h2⟩
end

set_option maxHeartbeats 4000000 in
theorem full_any (A : Option Addr) (c : Nat) (l : List UInt8) (w : World) (hA : Bs w A c l) : Calls Try.prog 5 #[.slice A l.length c] w fun e w' => e = .returned (.bool true) ∧ Ext w w' := by
  by_cases hl : l.length ≤ 300
  case neg =>
    have q1 : decide (300 < (l.length : Int)) = true := decide_eq_true (by omega)
    have HA := Lib.hid hA
    clear hA hl
    go_enter Try.func5, Try.ntmps5
    go_wp2_with fail
    refine (lives_any w).mono ?_
    rintro e w1 ⟨rfl, y1⟩
    go_wp2_with fail
    go_ret
    exact ⟨rfl, y1⟩
  case pos =>
    have q1 : decide (300 < (l.length : Int)) = false := decide_eq_false (by omega)
    have HA := Lib.hid hA
    have HL := Lib.hid hl
    clear hA hl
    go_enter Try.func5, Try.ntmps5
    go_wp2_with fail
    refine (lives_any w).mono ?_
    rintro e w1 ⟨rfl, y1⟩
    have Y1 := Lib.hid y1
    clear y1
    go_wp2_with fail
    refine (new_lives w1).mono ?_
    rintro e w2 ⟨rfl, y2⟩
    have xa := Ext.alloc w2 (.cells #[.int .i64 3, .slice none 0 0] 27)
    have r1 := heap_alloc_new w2 (.cells #[.int .i64 3, .slice none 0 0] 27)
    have R1 := Lib.hid r1
    have XA := Lib.hid xa
    have X2 := Lib.hid (Ext.trans Y1.out y2)
    clear y2 xa r1
    go_upto_region 6 with fail
    generalize w2.alloc _ = wa at *
    go_wp2_with fail
    go_loopw [4, 5] (fun v i wr => v = .int .i64 0 ∧ ∃ j : Nat, j ≤ 256 ∧ i = .int .i64 (j : Int) ∧ ∃ B d ss, wr.heap[w2.heap.size]? = some (.cells #[.int .i64 3, .slice B (2 * j) d] 27 (0, 0)) ∧ Es wr B d (FE l j) ss ∧ (∀ a, B = some a → a.block ≠ w2.heap.size) ∧ Fr wr 0 ss ∧ Ext w2 wr) (fun _ i _ => 256 - (intOf i).toNat)
    case atStart => exact ⟨rfl, 0, by omega, rfl, none, 0, [], R1.out, Es.nil _, (fun a ha => by cases ha), (fun q hq => by cases hq), XA.out⟩
    case round =>
      obtain ⟨rfl, j, hj, rfl, B, d, ss, hrow, hE, hB, hF, hx⟩ := hrel
      have hAr := Sl.below HA.out (Ext.trans X2.out hx)
      have hlen := (FE_ok l (by have := HL.out; omega) j).1
      have hok := (FE_ok l (by have := HL.out; omega) j).2
      have HROW := Lib.hid hrow
      have HE := Lib.hid hE
      have HB := Lib.hid hB
      have HF := Lib.hid hF
      have HX := Lib.hid hx
      have HAR := Lib.hid hAr
      have HOK := Lib.hid hok
      have HLEN := Lib.hid hlen
      obtain ⟨n, hn⟩ : ∃ n, n = 2 * j := ⟨_, rfl⟩
      rw [← hn] at hrow
      have c0 : wr.cell? ⟨w2.heap.size, 0, none⟩ = some (.int .i64 3) := by rw [cell_of_row _ _ _ _ _ _ hrow]; rfl
      have c1 : wr.cell? ⟨w2.heap.size, 1, none⟩ = some (.slice B n d) := by rw [cell_of_row _ _ _ _ _ _ hrow]; rfl
      have HN := Lib.hid hn
      clear hrow hE hB hF hx hAr hlen hok hn
      by_cases hj2 : j < 256
      · have q2 : decide ((j : Int) < 256) = true := decide_eq_true (by omega)
        have hm : (j : Int).tmod 3 = ((j % 3 : Nat) : Int) := by rw [Int.tmod_eq_emod_of_nonneg (by omega)]; omega
        have hk3 : j % 3 < 3 := Nat.mod_lt _ (by decide)
        obtain ⟨k, hk⟩ : ∃ k, k = j % 3 := ⟨_, rfl⟩
        rw [← hk] at hm hk3
        obtain ⟨M, hM⟩ : ∃ M, M = FE l j ++ freshN (k : Int) (-1) l 3 := ⟨_, rfl⟩
        have hMF : FE l (j + 1) = M := by rw [hM, hk]; rfl
        have HM := Lib.hid hM
        have HMF := Lib.hid hMF
        have HK := Lib.hid hk
        clear hk hM hMF
        have hl3 := HL.out
        have hn2 : n + 2 ≤ 512 := by have := HN.out; omega
        have hel : (FE l j).length = n := by rw [HLEN.out, HN.out]
        have HEL := Lib.hid hel
        clear hel
        go_upto_region 9 with fail
        go_region_with (first
          | (go_at_call 15
             refine (kitown_any A c l wr.drew (Sl.drew HAR.out) (by omega)).mono ?_
             rintro e u3 ⟨v, rfl, hv, y3⟩
             obtain ⟨C, q, rfl, hC, _⟩ := Sl.of_own hv
             have z0 : u3.cell? ⟨w2.heap.size, 0, none⟩ = some (.int .i64 3) := by rw [Below.cell y3 (World.block_lt_of_cell? wr _ c0)]; exact c0
             have z1 : u3.cell? ⟨w2.heap.size, 1, none⟩ = some (.slice B n d) := by rw [Below.cell y3 (World.block_lt_of_cell? wr _ c1)]; exact c1
             have Y3 := Lib.hid y3
             have HC := Lib.hid hC
             clear hv hC y3)
          | (go_at_call 14
             have hcp := fu_put u3 B C d q n (FE l j) ss l k hk3 ((HE.out.drew).below Y3.out) HEL.out hn2 HOK.out HC.out hl3 M HM.out
             refine hcp.mono ?_
             clear hcp
             rintro e u4 ⟨B2, d2, ss2, rfl, hE2, hB2, hF2, y4⟩
             have J := (Below.block (Ext.trans (Ext.drew wr) (Ext.trans Y3.out y4)) _ (Array.getElem?_eq_some_iff.1 HROW.out).1).trans HROW.out
             have z2 : u4.cell? ⟨w2.heap.size, 0, none⟩ = some (.int .i64 3) := by rw [cell_of_row _ _ _ _ _ _ J]; rfl
             have z3 : u4.cell? ⟨w2.heap.size, 1, none⟩ = some (.slice B (2 * j) d) := by rw [cell_of_row _ _ _ _ _ _ J]; rfl
             have z4 := frozen_of_row u4 w2.heap.size 0 _ _ J
             have z5 := frozen_of_row u4 w2.heap.size 1 _ _ J
             have HJ := Lib.hid J
             have HE2 := Lib.hid hE2
             have HB2 := Lib.hid hB2
             have HF2 := Lib.hid hF2
             have Y4 := Lib.hid y4
             clear J hE2 hB2 hF2 y4)
          | fail)
        all_goals
          have hu3 : wr.heap.size ≤ u3.heap.size := Y3.out.size
          have hgw : w2.heap.size < wr.heap.size := (Array.getElem?_eq_some_iff.1 HROW.out).1
          go_wp2_with fail
          go_roundw
          case rel =>
            refine ⟨rfl, j + 1, by omega, by go_num, B2, d2, ss2, ?_, ?_, fun a ha => by have := HB2.out a ha; omega, ?_, ?_⟩
            · have := cells2 (.int .i64 3) (.slice B2 (n + 2) d2) HJ.out
              rw [show 2 * (j + 1) = n + 2 by have := HN.out; omega]
              exact this
            · rw [HMF.out]
              exact ⟨HE2.out.len, HE2.out.sl.keep (fun a ha _ => other2 _ _ _ (by have := HB2.out a ha; omega)), fun i h1 h2 => Sl.keep (HE2.out.raw i h1 h2) (fun a ha _ => other2 _ _ _ (HF2.out.ne (List.getElem_mem h2) ha HJ.out (by decide)))⟩
            · exact HF2.out.kept (Nat.zero_le _) (fun q hq a ha _ => other2 _ _ _ (HF2.out.ne hq ha HJ.out (by decide)))
            · exact Ext.set2 (Ext.trans HX.out (Ext.trans (Ext.drew wr) (Ext.trans Y3.out Y4.out))) (Nat.le_refl _) _ _
          case measure => simp [intOf]; omega
      · have hj3 : j = 256 := by omega
        subst hj3
        have hn3 : n = 512 := by have := HN.out; omega
        subst hn3
        have hel : (FE l 256).length = 512 := by rw [HLEN.out]
        obtain ⟨E, hEd⟩ : ∃ E, E = FE l 256 := ⟨_, rfl⟩
        rw [← hEd] at hel HE HOK
        have HEL := Lib.hid hel
        have hl3 := HL.out
        clear hel hj2 hEd HLEN
        go_wp2_with fail
        refine (fu_full wr B A d c 512 E ss l 1 (.inl rfl) HE.out HEL.out (by decide) (fun _ => rfl) (by decide) HOK.out HAR.out hl3).mono ?_
        rintro e u1 ⟨rfl, y1⟩
        have xb := Ext.alloc u1 (.cells #[.int .i64 0, .slice none 0 0] 27)
        have X3 := Lib.hid (Ext.trans y1 xb)
        have R3 := Lib.hid ((X3.out.block _ (Array.getElem?_eq_some_iff.1 HROW.out).1).trans HROW.out)
        clear y1 xb c0 c1
        go_upto_region 11 with fail
        generalize u1.alloc _ = u2 at *
        have c0 : u2.cell? ⟨w2.heap.size, 0, none⟩ = some (.int .i64 3) := by rw [cell_of_row _ _ _ _ _ _ R3.out]; rfl
        have c1 : u2.cell? ⟨w2.heap.size, 1, none⟩ = some (.slice B 512 d) := by rw [cell_of_row _ _ _ _ _ _ R3.out]; rfl
        go_wp2_with fail
        refine (fu_twice u2 B d E ss l (HE.out.below X3.out) HEL.out HOK.out).mono ?_
        rintro e u3 ⟨rfl, y3⟩
        have xb := Ext.alloc u3 (.cells #[.int .i64 0, .slice none 0 0] 27)
        have X4 := Lib.hid (Ext.trans X3.out (Ext.trans y3 xb))
        have R4 := Lib.hid ((X4.out.block _ (Array.getElem?_eq_some_iff.1 HROW.out).1).trans HROW.out)
        clear y3 xb c0 c1
        go_upto_region 12 with fail
        generalize u3.alloc _ = u4 at *
        have c0 : u4.cell? ⟨w2.heap.size, 0, none⟩ = some (.int .i64 3) := by rw [cell_of_row _ _ _ _ _ _ R4.out]; rfl
        have c1 : u4.cell? ⟨w2.heap.size, 1, none⟩ = some (.slice B 512 d) := by rw [cell_of_row _ _ _ _ _ _ R4.out]; rfl
        go_wp2_with fail
        refine (fu_take u4 B d E ss l (HE.out.below X4.out) HEL.out HOK.out hl3).mono ?_
        rintro e u5 ⟨f, t, X, q, k, B5, d5, ss5, M, rfl, hE5, hM5, hok5, y5⟩
        have xa := Ext.alloc u5 (.cells #[.int .i64 f, .int .i64 t, .slice X k q] 38)
        have xb := Ext.alloc (u5.alloc (.cells #[.int .i64 f, .int .i64 t, .slice X k q] 38)) (.cells #[.int .i64 3, .slice B5 511 d5] 27)
        have hs5 : (u5.alloc (.cells #[.int .i64 f, .int .i64 t, .slice X k q] 38)).heap.size = u5.heap.size + 1 := by simp only [World.alloc, Array.size_push]
        have r5 := heap_alloc_new (u5.alloc (.cells #[.int .i64 f, .int .i64 t, .slice X k q] 38)) (.cells #[.int .i64 3, .slice B5 511 d5] 27)
        rw [hs5] at r5
        have RM := Lib.hid r5
        have X5 := Lib.hid (Ext.trans X4.out (Ext.trans y5 (Ext.trans xa xb)))
        have XM := Lib.hid (Ext.trans xa xb)
        have R5 := Lib.hid ((X5.out.block _ (Array.getElem?_eq_some_iff.1 HROW.out).1).trans HROW.out)
        have HE5 := Lib.hid (hE5.below XM.out)
        have HOK5 := Lib.hid hok5
        have HM5 := Lib.hid hM5
        clear y5 xa xb c0 c1 hs5 r5 hE5 hok5 hM5
        go_upto_region 13 with fail
        generalize (u5.alloc _).alloc _ = u6 at *
        have c0 : u6.cell? ⟨u5.heap.size + 1, 0, none⟩ = some (.int .i64 3) := by rw [cell_of_row _ _ _ _ _ _ RM.out]; rfl
        have c1 : u6.cell? ⟨u5.heap.size + 1, 1, none⟩ = some (.slice B5 511 d5) := by rw [cell_of_row _ _ _ _ _ _ RM.out]; rfl
        go_wp2_with fail
        refine (fu_full u6 B5 A d5 c 511 M ss5 l (-1) (.inr rfl) HE5.out HM5.out (by decide) (fun h => by cases h) (by decide) HOK5.out (Sl.below HAR.out X5.out) hl3).mono ?_
        rintro e u7 ⟨rfl, y7⟩
        have xb := Ext.alloc u7 (.cells #[.int .i64 0, .slice none 0 0] 27)
        have X7 := Lib.hid (Ext.trans y7 xb)
        have RM7 := Lib.hid ((X7.out.block _ (Array.getElem?_eq_some_iff.1 RM.out).1).trans RM.out)
        have R7 := Lib.hid ((X7.out.block _ (Array.getElem?_eq_some_iff.1 R5.out).1).trans R5.out)
        clear y7 xb c0 c1
        go_upto_region 14 with fail
        generalize u7.alloc _ = u8 at *
        have c0 : u8.cell? ⟨u5.heap.size + 1, 0, none⟩ = some (.int .i64 3) := by rw [cell_of_row _ _ _ _ _ _ RM7.out]; rfl
        have c1 : u8.cell? ⟨u5.heap.size + 1, 1, none⟩ = some (.slice B5 511 d5) := by rw [cell_of_row _ _ _ _ _ _ RM7.out]; rfl
        go_wp2_with fail
        refine (fu_one u8 B5 A d5 c M ss5 l (HE5.out.below X7.out) HM5.out HOK5.out (Sl.below HAR.out (Ext.trans X5.out X7.out)) hl3).mono ?_
        rintro e u9 ⟨B9, d9, ss9, M9, rfl, hE9, y9⟩
        have xb := Ext.alloc u9 (.cells #[.int .i64 3, .slice B9 512 d9] 27)
        have r9 := heap_alloc_new u9 (.cells #[.int .i64 3, .slice B9 512 d9] 27)
        have X9 := Lib.hid (Ext.trans y9 xb)
        have RO := Lib.hid r9
        have R9 := Lib.hid ((X9.out.block _ (Array.getElem?_eq_some_iff.1 R7.out).1).trans R7.out)
        clear y9 xb r9 hE9 c0 c1
        go_upto_region 15 with fail
        generalize u9.alloc _ = u10 at *
        have c1 : u10.cell? ⟨w2.heap.size, 1, none⟩ = some (.slice B 512 d) := by rw [cell_of_row _ _ _ _ _ _ R9.out]; rfl
        have c2 : u10.cell? ⟨u9.heap.size, 1, none⟩ = some (.slice B9 512 d9) := by rw [cell_of_row _ _ _ _ _ _ RO.out]; rfl
        go_wp2_with fail
        go_ret
        exact ⟨rfl, Ext.trans X2.out (Ext.trans HX.out (Ext.trans X5.out (Ext.trans X7.out X9.out)))⟩
end Go.Proofs.Ytomdplbdndadcaa
