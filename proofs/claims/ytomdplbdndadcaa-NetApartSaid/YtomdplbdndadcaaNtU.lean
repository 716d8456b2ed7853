import Derived.Test.YtomdplbdndadcaaNtT
namespace Go.Proofs.Ytomdplbdndadcaa
open Go.RowKit

theorem results_ctt {fn : Func} {p q u : Tmp} {ty : TypeId} {P : Program} (h : fn.results = #[.cell p ty, .tmp q, .tmp u]) (tmps : Array Value) (w : World) (g : Nat) (v : Value)
    (hp : tmps.getD p undef = .pointer (some ⟨g, 0, none⟩)) (hl : (loadVar ty ⟨g, 0, none⟩).run P w = .ok v w) :
    (results fn tmps).run P w = .ok (.tuple #[v, tmps.getD q undef, tmps.getD u undef]) w := by
  have hp' : tmps[p]?.getD undef = .pointer (some ⟨g, 0, none⟩) := by simpa using hp
  simp [results, h, hp', Result.andThen, asAddr, hl]

set_option maxHeartbeats 4000000 in
theorem put_bad (n : Int) (A : Option Addr) (c : Nat) (E : List EV) (rs : List Raw) (f o : Int) (C : Option Addr) (d : Nat) (r : List UInt8) (w : World) (hA : Es w A c E rs)
    (hbad : checkN ⟨n, E⟩ ≠ 0 ∨ checkN ⟨n, E⟩ = 0 ∧ (f < 0 ∨ ¬ f < 0 ∧ (n ≤ f ∨ ¬ n ≤ f ∧ (o < -1 ∨ ¬ o < -1 ∧ (n ≤ o ∨ ¬ n ≤ o ∧ o = f))))) :
    Calls Try.prog 14 #[.agg #[.int .i64 n, .slice A E.length c], .int .i64 f, .agg #[.int .i64 o, .slice C r.length d]] w fun e w' => e = .returned (.tuple #[.agg #[.int .i64 0, .slice none 0 0], .int .i64 0, .int .i64 2]) ∧ Ext w w' := by
  obtain ⟨er, her⟩ : ∃ er, er = checkN ⟨n, E⟩ := ⟨_, rfl⟩
  rw [← her] at hbad
  have HER := Lib.hid her
  clear her
  rcases hbad with b1 | ⟨b0, b1 | ⟨b1, b2 | ⟨b2, b3 | ⟨b3, b4 | ⟨b4, b5⟩⟩⟩⟩⟩
  all_goals
    try subst b5
    obtain ⟨o1, ho1⟩ : ∃ ob, ob = Obj.cells #[.int .i64 n, .slice A E.length c] 27 := ⟨_, rfl⟩
    obtain ⟨o2, ho2⟩ : ∃ ob, ob = Obj.cells #[.int .i64 o, .slice C r.length d] 34 := ⟨_, rfl⟩
    obtain ⟨o3, ho3⟩ : ∃ ob, ob = Obj.cells #[.int .i64 0, .slice none 0 0] 27 := ⟨_, rfl⟩
    have x1 := Ext.alloc w o1
    have x2 := Ext.alloc (w.alloc o1) o2
    have x3 := Ext.alloc ((w.alloc o1).alloc o2) o3
    have h1 := heap_alloc_new w o1
    have h2 := heap_alloc_new (w.alloc o1) o2
    have h3 := heap_alloc_new ((w.alloc o1).alloc o2) o3
    have hs1 : (w.alloc o1).heap.size = w.heap.size + 1 := by simp only [World.alloc, Array.size_push]
    have hs2 : ((w.alloc o1).alloc o2).heap.size = w.heap.size + 1 + 1 := by simp only [World.alloc, Array.size_push]
    rw [hs1] at h2
    rw [hs2] at h3
    have h1 := (Below.block (Ext.trans x2 x3) _ (Array.getElem?_eq_some_iff.1 h1).1).trans h1
    have h2 := (Below.block x3 _ (Array.getElem?_eq_some_iff.1 h2).1).trans h2
    have x0 := (Ext.trans (Ext.trans x1 x2) x3)
    clear x1 x2 x3 hs1 hs2
    have H1 := Lib.hid h1
    have H2 := Lib.hid h2
    have H3 := Lib.hid h3
    clear h1 h2 h3
    have X0 := Lib.hid x0
    subst ho1
    subst ho2
    subst ho3
    have hA0 := hA.below x0
    try subst b0
    go_enter Try.func14, Try.ntmps14
    go_wp2_with fail
    generalize ((w.alloc _).alloc _).alloc _ = w0 at *
    have hct := check_any _ ⟨n, E⟩ rs w0 ⟨A, c, rfl, hA0⟩
    rw [← HER.out] at hct
    refine hct.mono ?_
    rintro e w1 ⟨rfl, y1⟩
    have X1 := Lib.hid y1
    have k1 := Lib.hid ((y1.block _ (Array.getElem?_eq_some_iff.1 H1.out).1).trans H1.out)
    have k2 := Lib.hid ((y1.block _ (Array.getElem?_eq_some_iff.1 H2.out).1).trans H2.out)
    have k3 := Lib.hid ((y1.block _ (Array.getElem?_eq_some_iff.1 H3.out).1).trans H3.out)
    have m1 : w1.cell? ⟨w.heap.size, 0, none⟩ = some (.int .i64 n) := by rw [cell_of_row _ _ _ _ _ _ k1.out]; rfl
    have m2 : w1.cell? ⟨w.heap.size + 1, 0, none⟩ = some (.int .i64 o) := by rw [cell_of_row _ _ _ _ _ _ k2.out]; rfl
    have p0 : w1.cell? ⟨w.heap.size + 1 + 1, 0, none⟩ = some (.int .i64 0) := by rw [cell_of_row _ _ _ _ _ _ k3.out]; rfl
    have p1 : w1.cell? ⟨w.heap.size + 1 + 1, 1, none⟩ = some (.slice none 0 0) := by rw [cell_of_row _ _ _ _ _ _ k3.out]; rfl
    have s0 := frozen_of_row w1 (w.heap.size + 1 + 1) 0 _ _ k3.out
    have s1 := frozen_of_row w1 (w.heap.size + 1 + 1) 1 _ _ k3.out
    clear hct y1 x0
    go_wp2_with fail
    refine bodyPost_ret (results_ctt (fn := Try.f14) (p := 6) (q := 7) (u := 8) (ty := 27) rfl _ _ (w.heap.size + 1 + 1) _ rfl (net_load (cells2 (.int .i64 0) (.slice none 0 0) k3.out))) rfl ?_
    exact ⟨rfl, Ext.set2 (Ext.trans X0.out X1.out) (by omega) _ _⟩
end Go.Proofs.Ytomdplbdndadcaa
