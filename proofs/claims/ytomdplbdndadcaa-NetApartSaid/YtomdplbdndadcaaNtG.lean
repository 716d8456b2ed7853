import Derived.Test.YtomdplbdndadcaaNtF
namespace Go.Proofs.Ytomdplbdndadcaa
open Go.RowKit

theorem bytesequal_any (A : Option Addr) (c : Nat) (l : List UInt8) (B : Option Addr) (d : Nat) (m : List UInt8) (w : World) (hA : Bs w A c l) (hB : Bs w B d m) :
    Calls Try.prog 35 #[.slice A l.length c, .slice B m.length d] w fun e w' => e = .returned (.bool (decide (l = m))) ∧ w' = w := by
  have h1 := run_str (P := Try.prog) hA 32 9 5 Try.underlying32 Try.underlying5 (by kernel_rfl)
  have h2 := run_str (P := Try.prog) hB 32 9 5 Try.underlying32 Try.underlying5 (by kernel_rfl)
  by_cases h : l = m
  · subst h
    have HR := Lib.hid (decide_eq_true (rfl : l = l))
    obtain ⟨s, hs⟩ : ∃ s : ByteArray, s = ⟨l.toArray⟩ := ⟨_, rfl⟩
    rw [← hs] at h1 h2
    clear hs
    rw [HR.out]
    go_enter Try.func35, Try.ntmps35
    go_wp2_with fail
    go_ret
    exact ⟨rfl, rfl⟩
  · have HR := Lib.hid (decide_eq_false h)
    have hne : ((⟨l.toArray⟩ : ByteArray).toList == (⟨m.toArray⟩ : ByteArray).toList) = false := by
      rw [Go.ByteArray.toList_mk, Go.ByteArray.toList_mk]
      exact beq_false_of_ne h
    obtain ⟨s, hs⟩ : ∃ s : ByteArray, s = ⟨l.toArray⟩ := ⟨_, rfl⟩
    obtain ⟨t, ht⟩ : ∃ t : ByteArray, t = ⟨m.toArray⟩ := ⟨_, rfl⟩
    rw [← hs] at h1 hne
    rw [← ht] at h2 hne
    clear hs ht h
    rw [HR.out]
    go_enter Try.func35, Try.ntmps35
    go_wp2_with fail
    go_ret
    exact ⟨rfl, rfl⟩

/-- the same envelopes -/
def sameE (x y : EV) : Bool := decide (x.f = y.f) && (decide (x.t = y.t) && decide (x.r = y.r))
theorem sameE_iff {x y : EV} : sameE x y = true ↔ x = y := by
  cases x; cases y; simp [sameE]

set_option maxHeartbeats 1000000 in
theorem samefn_any (x y : EV) (A : Option Addr) (c : Nat) (B : Option Addr) (d : Nat) (w : World) (hA : Bs w A c x.r) (hB : Bs w B d y.r) :
    Calls Try.prog 34 #[.agg #[.int .i64 x.f, .int .i64 x.t, .slice A x.r.length c], .agg #[.int .i64 y.f, .int .i64 y.t, .slice B y.r.length d]] w fun e w' => e = .returned (.bool (sameE x y)) ∧ Ext w w' := by
  obtain ⟨f1, t1, r1⟩ := x
  obtain ⟨f2, t2, r2⟩ := y
  simp only at *
  have x1 := Ext.alloc w (.cells #[.int .i64 f1, .int .i64 t1, .slice A r1.length c] 38)
  have x2 := Ext.alloc (w.alloc (.cells #[.int .i64 f1, .int .i64 t1, .slice A r1.length c] 38)) (.cells #[.int .i64 f2, .int .i64 t2, .slice B r2.length d] 38)
  have x0 := Ext.trans x1 x2
  have hA0 : Bs _ A c r1 := Sl.below hA x0
  have hB0 : Bs _ B d r2 := Sl.below hB x0
  clear x1 x2
  by_cases hf : f1 = f2
  · subst hf
    by_cases ht : t1 = t2
    · subst ht
      rw [show sameE ⟨f1, t1, r1⟩ ⟨f1, t1, r2⟩ = decide (r1 = r2) by simp [sameE]]
      go_enter Try.func34, Try.ntmps34
      go_wp2_with fail
      refine (bytesequal_any A c r1 B d r2 _ hA0 hB0).mono ?_
      rintro e w' ⟨rfl, rfl⟩
      go_wp2_with fail
      go_ret
      exact ⟨rfl, x0⟩
    · rw [show sameE ⟨f1, t1, r1⟩ ⟨f1, t2, r2⟩ = false by simp [sameE, ht]]
      go_enter Try.func34, Try.ntmps34
      go_wp2_with fail
      go_ret
      exact ⟨rfl, x0⟩
  · rw [show sameE ⟨f1, t1, r1⟩ ⟨f2, t2, r2⟩ = false by simp [sameE, hf]]
    go_enter Try.func34, Try.ntmps34
    go_wp2_with fail
    go_ret
    exact ⟨rfl, x0⟩
end Go.Proofs.Ytomdplbdndadcaa
