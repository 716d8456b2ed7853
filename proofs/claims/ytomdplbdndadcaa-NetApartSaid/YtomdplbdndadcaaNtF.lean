import Derived.Test.YtomdplbdndadcaaNtE
import Derived.Deep.QuietTactic
import Derived.BigQuiet
namespace Go.Proofs.Ytomdplbdndadcaa
open Go.RowKit

def iv (x : Int) : Value := .int .i64 x
/-- the slice value '.slice A l.length c' reads as the numbers l -/
def Is (w : World) (A : Option Addr) (c : Nat) (l : List Int) : Prop := Sl w A l.length c 1 (l.map iv)
theorem Is.at {w : World} {A : Option Addr} {c : Nat} {l : List Int} (h : Is w A c l) (h0 : 0 < l.length) : ∃ b o, A = some ⟨b, o, none⟩ ∧ ∀ i (hi : i < l.length), w.cell? ⟨b, o + i, none⟩ = some (.int .i64 l[i]) := by
  cases A with
  | none => have := (Sl.nul h rfl).1; omega
  | some a =>
    have hg : ∀ i (hi : i < l.length), w.cell? (a.add i) = some (.int .i64 l[i]) := fun i hi => Sl.cell h a rfl i _ (by rw [List.getElem?_map, List.getElem?_eq_getElem hi]; rfl)
    have hs := World.cell?_spot (hg 0 h0)
    obtain ⟨b, o, s⟩ := a
    have : s = none := by simpa [Addr.add] using hs
    subst this
    refine ⟨b, o, rfl, fun i hi => ?_⟩
    have := hg i hi
    rwa [Addr.add_mid] at this

set_option maxHeartbeats 1000000 in
theorem ints_any (A : Option Addr) (c : Nat) (l : List Int) (B : Option Addr) (d : Nat) (m : List Int) (w : World) (hA : Is w A c l) (hB : Is w B d m) :
    Calls Try.prog 22 #[.slice A l.length c, .slice B m.length d] w fun e w' => e = .returned (.bool (decide (l = m))) ∧ Ext w w' := by
  have hle := Sl.le hA
  have hmx := Sl.max hA
  have h63 : l.length ≤ 9223372036854775807 := by unfold maxLen at hmx; omega
  clear hle hmx
  by_cases hlen : l.length = m.length
  · generalize hR : decide (l = m) = R
    have HR := Lib.hid hR
    have HL := Lib.hid hlen
    have hli : (l.length : Int) = (m.length : Int) := by omega
    clear hR hlen
    go_enter Try.func22, Try.ntmps22
    go_wp2_with fail
    have HLI := Lib.hid hli
    clear hli
    go_loopw [5] (fun i wr => ∃ j : Nat, j ≤ l.length ∧ i = .int .i64 (j : Int) ∧ l.take j = m.take j ∧ Ext w wr) (fun i _ => l.length - (intOf i).toNat)
    case atStart => exact ⟨0, by omega, rfl, by simp, Ext.refl _⟩
    case round =>
      obtain ⟨j, hj, rfl, heq, hwr⟩ := hrel
      have HEQ := Lib.hid heq
      clear heq
      by_cases hjl : j < l.length
      · have hjm : j < m.length := by have := HL.out; omega
        have hAr : Is wr A c l := Sl.below hA hwr
        have hBr : Is wr B d m := Sl.below hB hwr
        obtain ⟨b1, o1, rfl, hr1⟩ := hAr.at (by omega)
        obtain ⟨b2, o2, rfl, hr2⟩ := hBr.at (by omega)
        have g1 := hr1 j hjl
        have g2 := hr2 j hjm
        obtain ⟨x, hx⟩ : ∃ x, x = l[j] := ⟨_, rfl⟩
        obtain ⟨y, hy⟩ : ∃ y, y = m[j] := ⟨_, rfl⟩
        rw [← hx] at g1
        rw [← hy] at g2
        have HX := Lib.hid hx
        have HY := Lib.hid hy
        clear hx hy hr1 hr2 hAr hBr
        go_wp2_with fail
        go_quiet (fail)
        by_cases hxy : x = y
        · have hnext : l.take (j + 1) = m.take (j + 1) := by
            rw [List.take_add_one, List.take_add_one, HEQ.out, List.getElem?_eq_getElem hjl, List.getElem?_eq_getElem hjm, ← HX.out, ← HY.out, hxy]
          have HN := Lib.hid hnext
          subst hxy
          clear hnext
          go_wp2_with fail
          go_roundw
          case rel => exact ⟨j + 1, by omega, by go_num, HN.out, by first | exact hwr | exact ⟨hwr.os, hwr.tape, hwr.output, hwr.size, hwr.block⟩⟩
          case measure => simp [intOf]; omega
        · have hR : R = false := by
            rw [← HR.out]
            refine decide_eq_false fun e => hxy ?_
            rw [HX.out, HY.out]
            simp only [e]
          subst hR
          go_wp2_with fail
          go_ret
          exact ⟨rfl, by first | exact hwr | exact ⟨hwr.os, hwr.tape, hwr.output, hwr.size, hwr.block⟩⟩
      · have hjj : j = l.length := by omega
        have hR : R = true := by
          rw [← HR.out]
          have h := HEQ.out
          rw [hjj, List.take_length] at h
          rw [h, HL.out, List.take_length]
          exact decide_eq_true rfl
        subst hR
        have hnl : ¬ ((j : Int) < (l.length : Int)) := by omega
        clear hjj
        go_wp2_with fail
        go_ret
        exact ⟨rfl, hwr⟩
  · have hne : decide (l = m) = false := decide_eq_false fun e => hlen (by rw [e])
    rw [hne]
    have hli : (l.length : Int) ≠ (m.length : Int) := by omega
    clear hne hlen
    go_enter Try.func22, Try.ntmps22
    go_wp2_with fail
    go_ret
    exact ⟨rfl, Ext.refl w⟩
end Go.Proofs.Ytomdplbdndadcaa
