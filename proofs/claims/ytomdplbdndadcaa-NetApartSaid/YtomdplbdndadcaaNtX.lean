import Derived.RangeFuncNested
import Derived.RangeFuncBox
import Derived.RangeFuncBound
import Derived.RangeFuncCalls
import Derived.RangeFuncLeaves
import Derived.Shelf.Abstract
import Derived.Shelf.RegionOpen
import Derived.WalkKit
import Derived.OwnWalkIn
import Derived.TacticsInMore
import Derived.LoopNIn
import Derived.LoopIn
import Derived.Maps.AppendAt
import Derived.Test.YtomdplbdndadcaaNtW
/- To: the places of the envelopes to a node, by an iterator. Lines of the kit's worked texts on ranges over a function, turned to this program. -/
namespace Go.Proofs.Ytomdplbdndadcaa
open Go.RowKit Go.Shelf

/-- the places below k at which the list holds node -/
def upT (node : Int) (zs : List Int) (k : Nat) : List Int := ((List.range k).filter (fun j : Nat => decide (zs[j]?.getD 0 = node))).map (fun j : Nat => (j : Int))
theorem upT_hit (node : Int) (zs : List Int) (k : Nat) (h : zs[k]?.getD 0 = node) : upT node zs (k + 1) = upT node zs k ++ [(k : Int)] := by
  unfold upT
  rw [List.range_succ, List.filter_append, List.map_append]
  simp [h]
theorem upT_miss (node : Int) (zs : List Int) (k : Nat) (h : ¬ zs[k]?.getD 0 = node) : upT node zs (k + 1) = upT node zs k := by
  unfold upT
  rw [List.range_succ, List.filter_append, List.map_append]
  simp [h]
theorem upT_length (node : Int) (zs : List Int) (k : Nat) : (upT node zs k).length ≤ k := by
  unfold upT
  rw [List.length_map]
  exact Nat.le_trans (List.length_filter_le _ _) (by simp)
/-- the cells of a list of envelopes, below n0 -/
def TCells (n0 : Nat) (w : World) (A : Option Addr) (len : Nat) (zs : List Int) : Prop := zs.length = len ∧ (0 < len → ∃ b o, A = some ⟨b, o, none⟩ ∧ b < n0 ∧ ∀ k, k < len → ∃ f B n c, w.cell? ⟨b, o + k * 3, none⟩ = some (.int .i64 f) ∧ w.cell? ⟨b, o + k * 3 + 1, none⟩ = some (.int .i64 (zs[k]?.getD 0)) ∧ w.cell? ⟨b, o + k * 3 + 2, none⟩ = some (.slice B n c))
theorem TCells.of {w : World} {A : Option Addr} {c : Nat} {E : List EV} {rs : List Raw} (h : Es w A c E rs) : TCells w.heap.size w A E.length (E.map EV.t) := by
  refine ⟨by simp, fun h0 => ?_⟩
  obtain ⟨b, o, rfl, hr⟩ := h.at h0
  refine ⟨b, o, rfl, World.block_lt_of_cell? w _ (hr 0 h0 (by rw [h.len]; exact h0)).1, fun k hk => ?_⟩
  obtain ⟨g1, g2, g3⟩ := hr k hk (by rw [h.len]; exact hk)
  exact ⟨_, _, _, _, g1, by rw [g2]; simp [hk], g3⟩
theorem TCells.below {n0 : Nat} {w w' : World} {A : Option Addr} {len : Nat} {zs : List Int} (h : TCells n0 w A len zs) (hb : Below n0 w w') : TCells n0 w' A len zs := by
  refine ⟨h.1, fun h0 => ?_⟩
  obtain ⟨b, o, rfl, hlt, hr⟩ := h.2 h0
  refine ⟨b, o, rfl, hlt, fun k hk => ?_⟩
  obtain ⟨f, B, n, c, g1, g2, g3⟩ := hr k hk
  exact ⟨f, B, n, c, (hb.cell (p := ⟨b, _, none⟩) hlt).trans g1, (hb.cell (p := ⟨b, _, none⟩) hlt).trans g2, (hb.cell (p := ⟨b, _, none⟩) hlt).trans g3⟩
theorem TCells.mono {n0 n1 : Nat} {w : World} {A : Option Addr} {len : Nat} {zs : List Int} (h : TCells n0 w A len zs) (hn : n0 ≤ n1) : TCells n1 w A len zs := by
  refine ⟨h.1, fun h0 => ?_⟩
  obtain ⟨b, o, rfl, hlt, hr⟩ := h.2 h0
  exact ⟨b, o, rfl, by omega, hr⟩

set_option maxRecDepth 100000 in
set_option maxHeartbeats 2000000 in
/-- the iterator -/
theorem iter_in (F : Fence) (n : Nat) (h40 : F.fn 40) (hro : F.round = none) (hn : 1 ≤ n) (l Bn Bd n0 : Nat) (node : Int) (A : Option Addr) (len c : Nat) (hlen : len ≤ 100000) (zs : List Int) (J Jx : List Int → World → Prop)
    (hY : ∀ pre x W, J pre W → pre.length < len → YieldAt F (n - 1) Try.prog l #[.int .i64 x] W fun e W' =>
      (e = .returned (.bool true) ∧ J (pre ++ [x]) W' ∧ Below n0 W W') ∨ (e = .returned (.bool false) ∧ Jx (pre ++ [x]) W'))
    (W : World) (hJ : AbidesFrom W.heap.size J) (_hBn : Bn < n0) (hBd : Bd < n0) (h0n : n0 ≤ W.heap.size) (hb1 : W.cell? ⟨Bn, 1, none⟩ = some (.slice A len c)) (hb2 : W.cell? ⟨Bd, 0, none⟩ = some (.int .i64 node)) (hc : TCells n0 W A len zs) (h0 : J [] W) :
    CallsIn F n Try.prog 40 #[.func (.yield l) #[] #[], .pointer (some ⟨Bn, 0, none⟩), .pointer (some ⟨Bd, 0, none⟩)] W fun e W' => (∃ v, e = .returned v) ∧
      ((∃ ys, ys = upT node zs len ∧ J ys W') ∨ (∃ pre, True ∧ Jx pre W')) := by
  refine callsIn_of_wp Try.func40 rfl h40 ?_ hro
  simp only [Try.ntmps40, List.size_toArray, List.length_cons, List.length_nil, Nat.reduceAdd, Nat.reduceSub, Array.replicate_succ, Array.replicate_zero, List.push_toArray, List.append_toArray, List.nil_append, List.cons_append]
  gi_wp2
  gi_loopw [9] (fun i wr => ∃ k : Nat, k ≤ len ∧ i = .int .i64 (k : Int) ∧ J (upT node zs k) wr ∧ Below n0 W wr)
    (fun i _ => len - (intOf i).toNat)
  case atStart => exact ⟨0, Nat.zero_le _, rfl, h0, Below.refl _ _⟩
  case round =>
    obtain ⟨k, hk, rfl, hJs, hnx⟩ := hrel
    by_cases hlt : k < len
    · obtain ⟨b, o, rfl, hbl, hcr⟩ := (hc.below hnx).2 (by omega)
      obtain ⟨f, B, n1, c1, g1, g2, g3⟩ := hcr k hlt
      have gd : wr.cell? ⟨Bd, 0, none⟩ = some (.int .i64 node) := (hnx.cell (p := ⟨Bd, 0, none⟩) hBd).trans hb2
      obtain ⟨z, hz⟩ : ∃ z, z = zs[k]?.getD 0 := ⟨_, rfl⟩
      rw [← hz] at g2
      have hsz := hnx.size
      obtain ⟨ob, hob⟩ : ∃ ob, ob = Obj.cells #[.int .i64 f, .int .i64 z, .slice B n1 c1] 38 := ⟨_, rfl⟩
      have hJa : J (upT node zs k) (wr.alloc ob) := hJ _ wr _ none hJs ⟨rfl, rfl, rfl, by simp, fun k hk _ => heap_alloc_old wr _ k hk⟩ (fun r e => by cases e)
      have hba : Below n0 W (wr.alloc ob) := hnx.alloc (Nat.le_trans h0n hsz) _
      subst hob
      have ga : (wr.alloc (.cells #[.int .i64 f, .int .i64 z, .slice B n1 c1] 38)).cell? ⟨Bd, 0, none⟩ = some (.int .i64 node) := cell_alloc gd
      have HZ := Lib.hid hz
      clear hcr hz
      by_cases hzn : z = node
      · have q1 : (z == node) = true := beq_iff_eq.2 hzn
        have hup := upT_hit node zs k (by rw [← HZ.out]; exact hzn)
        have HUP := Lib.hid hup
        clear hup hzn
        obtain ⟨fn, tmps, assign, body, hy, hR⟩ := hY _ (k : Int) _ hJa (by have := upT_length node zs k; omega)
        gi_wp2
        refine hR.mono ?_
        rintro e W3 (⟨rfl, hJ3, hk3⟩ | ⟨rfl, hJx3⟩)
        · gi_wp2
          go_roundw
          case rel => exact ⟨k + 1, by omega, by simp, by rw [HUP.out]; exact hJ3, hba.trans hk3⟩
          case measure => simp [intOf]; omega
        · gi_wp2
          refine bodyPost_ret (results_none rfl _ _ _) rfl ?_
          exact ⟨⟨_, rfl⟩, .inr ⟨_, trivial, hJx3⟩⟩
      · have q1 : (z == node) = false := beq_eq_false_iff_ne.2 hzn
        have hup := upT_miss node zs k (by rw [← HZ.out]; exact hzn)
        have HUP := Lib.hid hup
        clear hup hzn
        gi_wp2
        refine ⟨fun _ h => (by cases h), ?_⟩
        gi_wp2
        go_roundw
        case rel => exact ⟨k + 1, by omega, by simp, by rw [HUP.out]; exact hJa, hba⟩
        case measure => simp [intOf]; omega
    · obtain rfl : k = len := by omega
      gi_wp2
      go_end0
      exact ⟨⟨_, rfl⟩, .inl ⟨_, rfl, hJs⟩⟩

theorem places_stops (F : Fence) (n : Nat) (h40 : F.fn 40) (hro : F.round = none) (hn : 1 ≤ n) (Bn Bd : Nat) (_m node : Int) (A : Option Addr) (len c : Nat) (hlen : len ≤ 100000) (zs : List Int) (n0 : Nat) (w : World) (hn0 : n0 ≤ w.heap.size) (hBn : Bn < n0) (hBd : Bd < n0)
    (hb1 : w.cell? ⟨Bn, 1, none⟩ = some (.slice A len c)) (hb2 : w.cell? ⟨Bd, 0, none⟩ = some (.int .i64 node)) (hc : TCells n0 w A len zs) :
    SeqStopsK F n Try.prog 40 #[.pointer (some ⟨Bn, 0, none⟩), .pointer (some ⟨Bd, 0, none⟩)] (fun x : Int => #[Value.int .i64 x]) (Below n0) (fun ys => ys = upT node zs len) (fun _ => True) len w := fun l J Jx W hW hJ _ hY h0 =>
  iter_in F n h40 hro hn l Bn Bd n0 node A len c hlen zs J Jx hY W hJ hBn hBd (Nat.le_trans hn0 hW.size) ((hW.cell (p := ⟨Bn, 1, none⟩) (Nat.lt_of_lt_of_le hBn hn0)).trans hb1) ((hW.cell (p := ⟨Bd, 0, none⟩) (Nat.lt_of_lt_of_le hBd hn0)).trans hb2) (hc.below (hW.mono hn0)) h0

theorem int_info : (Try.prog.info? 3).map (fun i => (i.zero, i.size, i.bytes)) = some (some (.int .i64 0), 1, 8) := by kernel_rfl
attribute [local go_sem] Oper.semAt_some

set_option maxRecDepth 100000 in
set_option maxHeartbeats 2000000 in
theorem appendSeq_in (F : Fence) (n : Nat) (h39 : F.fn 39) (h40 : F.fn 40) (hro : F.round = none) (hn : 3 ≤ n) (Bn Bd : Nat) (m node : Int) (A : Option Addr) (len c : Nat) (hlen : len ≤ 100000) (zs : List Int) (w : World) (hBn : Bn < w.heap.size) (hBd : Bd < w.heap.size)
    (hb1 : w.cell? ⟨Bn, 1, none⟩ = some (.slice A len c)) (hb2 : w.cell? ⟨Bd, 0, none⟩ = some (.int .i64 node)) (hc : TCells w.heap.size w A len zs) :
    CallsIn F n Try.prog 39 #[.slice none 0 0, .func (.func 40) #[] #[.pointer (some ⟨Bn, 0, none⟩), .pointer (some ⟨Bd, 0, none⟩)]] w fun e W' => ∃ v, e = .returned v ∧ W'.ownsRow w.heap.size 3 1 v (upT node zs len).length ((upT node zs len).map (Value.int .i64)) ∧ Below w.heap.size w W' := by
  have h1 : 1 ≤ n := by omega
  obtain ⟨i0, hi, hz0, hz1, hz2⟩ := info_parts int_info
  refine callsIn_of_wp_marks Try.func39 rfl h39 ?_ hro
  simp only [Try.ntmps39, List.size_toArray, List.length_cons, List.length_nil, Nat.reduceAdd, Nat.reduceSub, Array.replicate_succ, Array.replicate_zero, List.push_toArray, List.append_toArray, List.nil_append, List.cons_append]
  gi_wp2
  have bO := Boxed.new w 51 (.slice none 0 0)
  have hB0 : Below w.heap.size w (w.alloc (.cells #[.slice none 0 0] 51)) := (Below.refl _ w).alloc (Nat.le_refl _) _
  refine wpIn_rangeFunc_ownG hro h1 (gf := 40) (lb := #[.pointer (some ⟨Bn, 0, none⟩), .pointer (some ⟨Bd, 0, none⟩)]) rfl h40 (enters_of Try.func40 (by kernel_rfl) rfl)
    (places_stops F (n - 1) h40 hro (by omega) Bn Bd m node A len c hlen zs w.heap.size _ (by simp) hBn hBd ((hB0.cell (p := ⟨Bn, 1, none⟩) hBn).trans hb1) ((hB0.cell (p := ⟨Bd, 0, none⟩) hBd).trans hb2) (hc.below hB0)) belowK_t (belowK_b (by simp)) (Below.refl _ _) (fun _ => rfl)
    (fun pre W => (∃ v, Boxed W w.heap.size 51 v ∧ W.ownsRow w.heap.size 3 1 v pre.length (pre.map (Value.int .i64)) ∧ (v = .slice none 0 0 ↔ pre = [])) ∧ Below w.heap.size w W)
    (fun _ _ _ => False)
    (OwnFrom.and (Own.from (holdsRow_own w.heap.size w.heap.size 51 3 1 (fun pre => pre.length) (fun pre => pre.map (Value.int .i64)) (fun pre v => v = .slice none 0 0 ↔ pre = [])) _) (ownFrom_below (Nat.le_refl _) (by simp)))
    (fun _ _ _ _ _ hs _ _ => hs)
    ⟨⟨_, bO, World.ownsRow_nil _ _ _ _, by simp⟩, hB0⟩
    (fun x => { tmps := #[.slice none 0 0, .func (.func 40) #[] #[.pointer (some ⟨Bn, 0, none⟩), .pointer (some ⟨Bd, 0, none⟩)], .pointer (some ⟨w.heap.size, 0, none⟩), undef, .slice none 0 0, .int .i64 x, .func (.func 40) #[] #[.pointer (some ⟨Bn, 0, none⟩), .pointer (some ⟨Bd, 0, none⟩)], .int .i64 x, undef, undef, undef, undef, undef], defers := [] }) ?assign ?body ?done ?stop
  case assign =>
    intro l x W K hK
    gi_wp2
    exact hK
  case body =>
    rintro l pre x W ⟨⟨v, hv, hrow, hnil⟩, hB⟩ hlt
    have hc := hv.cell
    gi_wp2_with (gi_at_builtin; refine wpListIn_append_own _ rfl _ _ 51 rfl w.heap.size 3 i0 (.int .i64 0) 1 8 Try.underlying51 hi hz0 hz1 hz2 rfl (by decide) _ _ _ rfl (hrow.alloc _) ⟨W.heap.size, 0, none⟩ 1 1 [.int .i64 x] rfl rfl (cell_one_new _ _ _) (by simp [Value.oneCell']) (by unfold maxLen; omega) (by omega) (by have := hB.size; simp; omega) ?_; intro v' w1 hown' hgrow _; obtain ⟨g', cap', rfl⟩ := ownsRow_succ hown'; obtain ⟨hv1, hv2, hr2, hk2, hb2⟩ := hv.appended (by decide) hrow hB.size (Nat.le_refl _) hown' hgrow; have hc1 := hv1.cell; have hf1 := hv1.frozen)
    exact ⟨hk2.from _, hb2, ⟨_, hv2, by simpa using hr2, by simp⟩, hB.trans hb2⟩
  case done =>
    rintro D ys W hD rfl ⟨⟨v, hv, hrow, hnil⟩, hB⟩ hK
    have hc := hv.cell
    gi_wp2
    refine ⟨by simp, .inl ⟨_, _, rfl, run_takeDeferred hK, ?_⟩⟩
    exact ⟨_, results_tmp rfl _ _ _, v, rfl, ownsRow_putObj hrow _ hK rfl, hB.trans (belowK_b (w := w) (Nat.le_refl _) W D _ _ (by simp at hD; omega) hK rfl rfl)⟩
  case stop =>
    rintro D c pre W _ _ h _
    exact h.elim
theorem collect_any (Bn Bd : Nat) (m node : Int) (A : Option Addr) (len c : Nat) (hlen : len ≤ 100000) (zs : List Int) (w : World) (hBn : Bn < w.heap.size) (hBd : Bd < w.heap.size)
    (hb1 : w.cell? ⟨Bn, 1, none⟩ = some (.slice A len c)) (hb2 : w.cell? ⟨Bd, 0, none⟩ = some (.int .i64 node)) (hc : TCells w.heap.size w A len zs) :
    Calls Try.prog 31 #[.func (.func 40) #[] #[.pointer (some ⟨Bn, 0, none⟩), .pointer (some ⟨Bd, 0, none⟩)]] w fun e W' => ∃ v, e = .returned v ∧ W'.ownsRow w.heap.size 3 1 v (upT node zs len).length ((upT node zs len).map (Value.int .i64)) ∧ Below w.heap.size w W' := by
  have hct := callsIn_wide.1 (appendSeq_in Fence.wide 3 trivial trivial rfl (Nat.le_refl _) Bn Bd m node A len c hlen zs w hBn hBd hb1 hb2 hc)
  go_enter Try.func31, Try.ntmps31
  go_wp2_with fail
  refine hct.mono ?_
  rintro e w2 ⟨v, rfl, h1, h2⟩
  have H := Lib.hid (And.intro h1 h2)
  clear h1 h2 hct hb1 hb2
  go_wp2_with fail
  go_ret
  exact ⟨_, rfl, H.out⟩
theorem places_any (n node : Int) (A : Option Addr) (len c : Nat) (w : World) :
    Calls Try.prog 32 #[.agg #[.int .i64 n, .slice A len c], .int .i64 node] w fun e W' => e = .returned (.func (.func 40) #[] #[.pointer (some ⟨w.heap.size, 0, none⟩), .pointer (some ⟨w.heap.size + 1, 0, none⟩)]) ∧ W' = (w.alloc (.cells #[.int .i64 n, .slice A len c] 27)).alloc (.cells #[.int .i64 node] 3) := by
  go_enter Try.func32, Try.ntmps32
  go_wp2_with fail
  go_ret
  exact ⟨rfl, rfl⟩
end Go.Proofs.Ytomdplbdndadcaa
