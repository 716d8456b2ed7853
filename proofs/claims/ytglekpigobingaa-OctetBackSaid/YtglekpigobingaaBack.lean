import Derived.Test.YtglekpigobingaaOctP
import Derived.Test.YtglekpigobingaaNam
import Derived.Test.YtglekpigobingaaOctI
import Derived.Test.YtglekpigobingaaRegTwo
import Derived.OpenShut
import Derived.ChangeOld
import Derived.ProofKit
import Derived.Deep.RegionWith
namespace Go.Proofs.Ytglekpigobingaa
open Go.RowKit

theorem Y_load_row {P : Program} {o : Oper} {a : Act} {w : World} {ψ : Value → World → Prop} (ty : TypeId) (x : Operand) (ho : o.op = .load ty x) (g : Nat) (hx : a.eval x = .pointer (some ⟨g, 0, none⟩)) (t : TypeId) (cs : Array Value) (fr : Nat × Nat) (d : TypeDesc)
    (hg : w.heap[g]? = some (.cells cs t fr)) (hu : P.underlying ty = some d) (hd : (match d with | .struct _ | .array _ _ => true | _ => false) = true) (hi : (P.info? ty).map (·.size) = some cs.size) (hψ : ψ (.agg cs) w) : Y P o a w ψ := by
  unfold Y
  first | exact .inl (wp_load_row ty x ho g hx t cs fr d hg hu hd hi ⟨_, rfl, hψ, Ext.refl w⟩) | exact wp_load_row ty x ho g hx t cs fr d hg hu hd hi ⟨_, rfl, hψ, Ext.refl w⟩

theorem Bs.take {w : World} {A : Option Addr} {c : Nat} {l : List UInt8} (h : Bs w A c l) (k : Nat) (hk : k ≤ l.length) : Bs w A c (l.take k) := by
  have hle := h.le
  have hlen : (l.take k).length = k := by simp; omega
  refine ⟨by simp, by omega, h.max, fun hn => ?_, fun a ha j u hu => h.cell a ha j u ?_⟩
  · have := h.nul hn
    exact ⟨by omega, this.2⟩
  · rw [List.map_take, List.getElem?_take] at hu
    split at hu
    · exact hu
    · cases hu
theorem wrap63 (k : Nat) (h : k < 9223372036854775808) : IntKind.i64.wrap (k : Int) = (k : Int) := by
  rw [IntKind.wrap_i64]; omega
theorem blockR_bs (s : R) : (blockR s).1.bs = s.bs := by
  unfold blockR
  split
  · rfl
  · split
    · exact numR_bs s
    · split
      · exact numR_bs s
      · rw [takeR_bs]; exact numR_bs s

theorem any_append {P : Program} {md : Region.Mode} {ops : Array Oper} {Q : Exit → Act → World → Prop} {fuel : Nat} {listed : Array Bool} {a : Act} {w : World} (i : Nat) (o : Oper) (hr : Region.ready md ops listed = [i]) (ho : ops[i]? = some o) (hgd : o.guard = none)
    (s x : Operand) (t : TypeId) (hop : o.op = .call { callee := .builtin .append, args := #[s, x], argTypes := #[t, t] }) (v u v' : Value) (w' : World) (hs : a.eval s = v) (hx : a.eval x = u)
    (hrun : (Builtin.append_ #[t, t] o.type #[v, u]).run P w = .ok v' w') (h : wpAny P md ops Q fuel (listed.setIfInBounds i true) (a.put o.dst v') w') : wpAny P md ops Q (fuel + 1) listed a w := by
  refine wpAny_ready (rs := [i]) hr (by simp) ?_
  refine AllReady.cons ho (fun K hK => ?_) AllReady.nil
  simp only [Region.wanted, hgd, if_true]
  unfold Oper.wp execOp
  simp only [hop, resolve, invoke, builtin, Sem.run_bind, Sem.run_pure, Result.andThen_ok, List.map_toArray, List.map_cons, List.map_nil, hs, hx, hrun]
  exact hK _ _ h

theorem num_le (n : Nat) (_ : n < 2 ^ 64) : (num n).length ≤ 9 := by
  rw [num_length]
  exact sz_le n

theorem append_dig {w : World} {base : Nat} {v : Value} {l : List UInt8} (hown : w.ownsRow base 5 1 v l.length (l.map bc)) (D : Array Value) (dl : List UInt8) (T : TypeId) (hD : D = dg dl) (hdl : dl.length = 32) {g : Nat} (hblk : w.heap[g]? = some (.cells D T (0, 0))) (hl : l.length ≤ 140737488355000) (hbase : base ≤ w.heap.size) :
    ∃ v' w', (Builtin.append_ #[24, 24] 24 #[v, .slice (some ⟨g, 0, none⟩) 32 32]).run Try.prog w = .ok v' w' ∧ w'.ownsRow base 5 1 v' (l ++ dl).length ((l ++ dl).map bc) ∧ w.grownBy w' v.ownBlock ∧ (v'.ownBlock = v.ownBlock ∨ v'.ownBlock = some w.heap.size) := by
  obtain ⟨i0, hi0, hz0, hz1, hz2⟩ := info_parts u8_info
  have hSl : Sl w (some ⟨g, 0, none⟩) 32 32 1 (dl.map bc) := by
    refine ⟨by simp [hdl], Nat.le_refl _, by simp [maxLen], (fun h => by cases h), ?_⟩
    rintro a ⟨⟩ j u hu
    rw [Addr.add_lit, Nat.zero_add, cell_of_row _ _ _ _ _ _ hblk, hD]
    simpa [dg] using hu
  obtain ⟨v', w', h1, h2, h3, h4⟩ := run_append_sl (P := Try.prog) (w := w) base 24 24 5 i0 _ 1 1 Try.underlying24 hi0 hz0 hz1 hz2 rfl (by omega) v l.length (l.map bc) hown _ 32 32 _ hSl (bytes_one dl) (by unfold maxLen; omega) (by omega) hbase
  refine ⟨v', w', h1, ?_, h3, h4⟩
  rw [List.length_append, hdl, List.map_append]
  exact h2

theorem laws_back (n m : Nat) (p dl : List UInt8) (k : Nat) (hn : n < 2 ^ 64) (hm : m < 2 ^ 64) (hp : p.length < 2 ^ 64) (hd : dl.length = 32) (l : List UInt8) (hl : num n ++ num p.length ++ p ++ num m ++ word k m ++ dl = l) :
    ∃ q1 q2 q3 q4 q5, numR ⟨l, 0, 0⟩ = (⟨l, q1, 0⟩, n) ∧ blockR ⟨l, q1, 0⟩ = (⟨l, q2, 0⟩, p) ∧ numR ⟨l, q2, 0⟩ = (⟨l, q3, 0⟩, m) ∧ wordR ⟨l, q3, 0⟩ k = (⟨l, q4, 0⟩, m % 256 ^ k) ∧ digR ⟨l, q4, 0⟩ = (⟨l, q5, 0⟩, dl) ∧ endR ⟨l, q5, 0⟩ = 0 := by
  have h1 := numR_at [] ((num p.length ++ p) ++ num m ++ word k m ++ dl) n hn 0 rfl
  have h2 := blockR_at (num n) (num m ++ word k m ++ dl) p hp _ rfl
  have h3 := numR_at (num n ++ (num p.length ++ p)) (word k m ++ dl) m hm _ rfl
  have h4 := wordR_at (num n ++ (num p.length ++ p) ++ num m) dl k m _ rfl
  have h5 := digR_at (num n ++ (num p.length ++ p) ++ num m ++ word k m) dl hd _ rfl
  simp only [← List.append_assoc, List.nil_append] at h1 h2 h3 h4 h5 hl
  rw [hl] at h1 h2 h3 h4 h5
  simp only [List.length_append, word_length, Nat.zero_add, ← Nat.add_assoc] at h1 h2 h3 h4 h5
  refine ⟨_, _, _, _, _, h1, h2, h3, h4, h5, ?_⟩
  rw [← hl]
  simp [endR, hd, word_length, Nat.add_assoc]

theorem mask_val : ∀ k : Fin 9, (18446744073709551615 : Int) / 2 ^ (64 - 8 * k.val) = ((2 ^ (8 * k.val) - 1 : Nat) : Int) := by decide +kernel
theorem mask_and (m k : Nat) (hm : m < 2 ^ 64) (h8 : k ≤ 8) : bits BinOp.and IntKind.u64 (m : Int) ((18446744073709551615 : Int) / 2 ^ (64 - 8 * k)) = ((m % 256 ^ k : Nat) : Int) := by
  have h1 := mask_val ⟨k, by omega⟩
  simp only at h1
  have h2 : 2 ^ (8 * k) - 1 < 18446744073709551616 := by
    have : 2 ^ (8 * k) ≤ 2 ^ 64 := Nat.pow_le_pow_right (by omega) (by omega)
    have e : (2 : Nat) ^ 64 = 18446744073709551616 := by decide
    rw [e] at this
    generalize 2 ^ (8 * k) = z at *
    omega
  have h3 : m % 256 ^ k = m &&& (2 ^ (8 * k) - 1) := by
    rw [Nat.and_two_pow_sub_one_eq_mod, show 256 = 2 ^ 8 from rfl, ← Nat.pow_mul]
  rw [h1, h3]
  have e : (2 : Nat) ^ 64 = 18446744073709551616 := by decide
  rw [e] at hm
  generalize 2 ^ (8 * k) - 1 = z at *
  exact bits_and_u64_nat m z hm h2

set_option maxRecDepth 20000 in
set_option maxRecDepth 20000 in
set_option maxRecDepth 20000 in
set_option maxRecDepth 20000 in
set_option maxRecDepth 20000 in
set_option maxRecDepth 20000 in
set_option maxRecDepth 20000 in
set_option maxRecDepth 20000 in
set_option maxRecDepth 20000 in
set_option maxRecDepth 20000 in
set_option maxRecDepth 20000 in
set_option maxHeartbeats 2000000 in
theorem back_walk (A : Option Addr) (c : Nat) (b : List UInt8) (B : Option Addr) (c' : Nat) (p : List UInt8) (n m : Nat) (dl : List UInt8) (size : Int) (w : World) (hA : Bs w A c b) (hB : Bs w B c' p) (hn : n < 2 ^ 64) (hm : m < 2 ^ 64) (hdl : dl.length = 32)
    (hz0 : -9223372036854775808 ≤ size) (hz1 : size ≤ 9223372036854775807) (hb0 : b.length < 9223372036854775808) (hp0 : p.length < 9223372036854775808) :
    Calls Try.prog 7 #[.slice A b.length c, .slice B p.length c', .int .u64 (n : Int), .int .u64 (m : Int), .agg (dg dl), .int .i64 size] w fun e w' => e = .returned (.bool true) ∧ Below w.heap.size w w' := by
  obtain ⟨D, hD⟩ : ∃ D, D = dg dl := ⟨_, rfl⟩
  rw [← hD]
  have HD := Lib.hid hD
  have hds : D.size = 32 := by rw [HD.out, dg_size]; exact hdl
  have HDS := Lib.hid hds
  clear hD hds
  go_enter Try.func7, Try.ntmps7
  go_wp2_with fail
  have x0 : Ext w (w.alloc (Obj.cells D 38)) := (Below.refl _ w).alloc (Nat.le_refl _) _
  have hblk0 : (w.alloc (Obj.cells D 38)).heap[w.heap.size]? = some (.cells D 38 (0, 0)) := heap_alloc_new _ _
  have hA0 := hA.alloc (Obj.cells D 38)
  have hB0 := hB.alloc (Obj.cells D 38)
  generalize w.alloc (Obj.cells D 38) = w0 at *
  refine (lives_any _).mono ?_
  rintro e w1 ⟨rfl, x1⟩
  have hA1 : Bs w1 A c b := Sl.below hA0 x1
  have hB1 : Bs w1 B c' p := Sl.below hB0 x1
  have hblk1 := (x1.block _ (Array.getElem?_eq_some_iff.1 hblk0).1).trans hblk0
  have x01 : Ext w w1 := Ext.trans x0 x1
  clear hA0 hB0 hblk0 x1 x0 w0
  go_wp2_with fail
  · go_ret
    exact ⟨rfl, x01⟩
  have hbl : b.length ≤ 3000 := by omega
  have hpl : p.length ≤ 3000 := by omega
  rotate_left
  · go_ret
    exact ⟨rfl, x01⟩
  go_region_with (first
    | (go_at_call_of 9 (Value.slice none 0 0)
       refine (number_any none 0 [] n _ (Sl.nil _ _) hn (by simp)).mono ?_
       rintro e w2 ⟨v2, rfl, hown2, hx2⟩
       rw [List.nil_append] at hown2
       obtain ⟨A2, c2, rfl, hb2, hst2, hge2⟩ := str_of hown2
       clear hst2
       have hp2 : Bs w2 B c' p := Sl.below hB1.drew hx2)
    | (go_at_call 12
       (
       refine (block_any A2 c2 (num n) B c' p _ hb2 hp2 (by have := num_le n hn; omega)).mono ?_
       rintro e w3 ⟨v3, rfl, hown3, hx3⟩
       generalize hl3 : num n ++ num p.length ++ p = l3 at hown3
       have hn3 : l3.length ≤ 3018 := by rw [← hl3]; have := num_le n hn; have := num_le p.length (by omega); simp; omega
       have HL3 := Lib.hid hl3
       clear hl3
       obtain ⟨A3, c3, rfl, hb3, hst3, hge3⟩ := str_of hown3
       clear hst3))
    | (go_at_call 9
       (
       refine (number_any A3 c3 l3 m w3 hb3 hm (by omega)).mono ?_
       rintro e w4 ⟨v4, rfl, hown4, hx4⟩
       generalize hl4 : l3 ++ num m = l4 at hown4
       have hn4 : l4.length ≤ 3027 := by rw [← hl4]; have := num_le m hm; simp; omega
       have HL4 := Lib.hid hl4
       clear hl4
       obtain ⟨A4, c4, rfl, hb4, hst4, hge4⟩ := str_of hown4
       clear hst4))
    | (go_at_call 14
       (
       refine (oword_any A4 c4 l4 m size _ hb4 hm (by omega)).mono ?_
       rintro e w5 ⟨v5, rfl, hown5, hx5⟩
       generalize hl5 : l4 ++ word (ksize size) m = l5 at hown5
       have hn5 : l5.length ≤ 3035 := by rw [← hl5, List.length_append, word_length]; have : ksize size ≤ 8 := by unfold ksize; omega
                                         omega
       have HL5 := Lib.hid hl5
       clear hl5
       have x14 : Ext w1.drew w4 := Ext.trans hx2 (Ext.trans hx3 hx4)
       have x15 : Ext w1.drew w5 := Ext.trans x14 hx5
       have hblk5 : w5.heap[w.heap.size]? = some (.cells D 38 (0, 0)) := (x15.block _ (Array.getElem?_eq_some_iff.1 hblk1).1).trans hblk1
       obtain ⟨v6, w6, hrun6, hown6, hg6, hat6⟩ := append_dig (own_base hown5 x14.size) D dl 38 HD.out hdl hblk5 (by omega) x15.size
       simp only []
       rename_i KK hKK
       refine hKK _ _ ?_
       refine any_append 10 _ (by kernel_rfl) rfl rfl (.tmp 39) (.tmp 40) 24 rfl _ _ v6 w6 rfl rfl hrun6 ?_
       clear hKK KK)))
  have hg1 : w.heap.size < w1.heap.size := (Array.getElem?_eq_some_iff.1 hblk1).1
  have hst5 : ∀ k, v5.ownBlock = some k → w1.heap.size ≤ k := by
    obtain ⟨A5, c5, rfl, _, hge5⟩ := Sl.of_own (own_base hown5 x14.size)
    intro k hk
    cases A5 with
    | none => cases hk
    | some a => exact (by cases hk; exact hge5 a rfl)
  have x16 : Ext w1.drew w6 := x15.grown hg6 x15.size hst5
  obtain ⟨A6, c6, rfl, hb6, hs6, hge6⟩ := str_of hown6
  clear hs6
  generalize hl6 : l5 ++ dl = l6 at *
  have HL6 := Lib.hid hl6
  have hn6 : l6.length ≤ 3067 := by rw [← hl6, List.length_append]; omega
  clear hl6
  go_wp2_with fail
  refine (read_any A6 c6 l6 _ hb6 (by omega)).mono ?_
  rintro e w7 ⟨g7, A7, c7, rfl, hg7, h7, hA7, hx7⟩
  obtain ⟨q1, q2, q3, q4, q5, r1, r2, r3, r4, r5, r6⟩ := laws_back n m p dl (ksize size) hn hm (by omega) hdl l6 (by rw [HL3.out, HL4.out, HL5.out, HL6.out])
  have R1 := Lib.hid r1
  have R2 := Lib.hid r2
  have R3 := Lib.hid r3
  have R4 := Lib.hid r4
  have R5 := Lib.hid r5
  have R6 := Lib.hid r6
  clear r1 r2 r3 r4 r5 r6
  have x16' : Ext w1 w6 := ⟨x16.os, x16.tape, x16.output, x16.size, x16.block⟩
  have x17 : Ext w1 w7 := Ext.trans x16' hx7
  have hgw : w1.heap.size ≤ g7 := Nat.le_trans x16.size hg7
  have hgrow : ∀ k, some g7 = some k → w1.heap.size ≤ k := by rintro k ⟨⟩; exact hgw
  clear hst5 hg6 hat6 hown6 hx7 x16 hb6 hge6 hrun6 hblk5 x15 x14 hown5 hx5 HL6 HL5 hn5 hge4 hb4 hx4 hown4 HL4 hn4 hb3 hown3 hx3 hge3 HL3 hn3 hp2 hb2 hge2 hx2 hown2
  obtain ⟨k, hk⟩ : ∃ k, k = ksize size := ⟨_, rfl⟩
  have hk1 : min (max size 1) 8 = (k : Int) := by rw [hk]; unfold ksize; omega
  have hk8 : k ≤ 8 := by omega
  have hk0 : 1 ≤ k := by omega
  have HK := Lib.hid hk
  rw [← hk] at R4
  clear hk
  go_wp2_with fail
  have hM0 := mask_and m k hm hk8
  generalize (18446744073709551615 : Int) / 2 ^ (64 - 8 * k) = M at *
  generalize m % 256 ^ k = mk at *
  clear hk1 hk8 hk0
  have heq : ∀ W : World, (Op.equalIn 10000 38 (.agg D) (.agg D)).run Try.prog W = .ok true W := by
    intro W
    rw [HD.out, dig_eq hdl hdl, beq_self_eq_true]
  have x17d : Ext w1 w7.drew := ⟨x17.os, x17.tape, x17.output, x17.size, x17.block⟩
  have hg0w : w.heap.size < w1.heap.size := hg1
  obtain ⟨S, hSdef⟩ : ∃ S : Nat → World → Prop, S = fun j u => Ext w1 u ∧ Rdr u g7 A7 c7 l6 ([0, q1, q2, q3, q4, q5, q5].getD j 0) 0 := ⟨_, rfl⟩
  have hSi : ∀ j u, S j u → Ext w1 u ∧ Rdr u g7 A7 c7 l6 ([0, q1, q2, q3, q4, q5, q5].getD j 0) 0 := fun j u h => by rw [hSdef] at h; exact h
  have hSo : ∀ j u, Ext w1 u → Rdr u g7 A7 c7 l6 ([0, q1, q2, q3, q4, q5, q5].getD j 0) 0 → S j u := fun j u h1 h2 => by rw [hSdef]; exact ⟨h1, h2⟩
  clear hSdef
  have hSx : ∀ j u u', S j u → Ext u u' → S j u' := fun j u u' h hx => hSo j u' (Ext.trans (hSi j u h).1 hx) ((hSi j u h).2.ext hx)
  have hS0 : S 0 w7 := hSo 0 w7 x17 h7
  have hstep : ∀ j u u', S j u → u.grownBy u' (some g7) → Rdr u' g7 A7 c7 l6 ([0, q1, q2, q3, q4, q5, q5].getD (j + 1) 0) 0 → S (j + 1) u' := fun j u u' h hg hr => hSo (j + 1) u' ((hSi j u h).1.grown hg (hSi j u h).1.size hgrow) hr
  have hb1 : ∀ j u, S j u → IsG g7 p (.slice B p.length c') u := fun j u h => ⟨B, c', rfl, Sl.below hB1 (hSi j u h).1, fun a ha hp => by
    have := Sl.lt hB1 ha (by simpa using hp)
    omega⟩
  have hload : ∀ j u, S j u → u.heap[w.heap.size]? = some (.cells D 38 (0, 0)) := fun j u h => ((hSi j u h).1.block _ hg0w).trans hblk1
  have C0 : ∀ u, S 0 u → Calls Try.prog 16 #[.pointer (some ⟨g7, 0, none⟩)] u fun e u' => ∃ v, e = .returned v ∧ ((FactG.val (g := g7) (.int .u64 (n : Int))).holds v u' ∧ S 1 u') ∧ u.grownBy u' (some g7) := fun u h => by
    refine (rnum_any g7 A7 c7 ⟨l6, 0, 0⟩ u (hSi 0 u h).2).mono ?_
    rw [R1.out]
    rintro e u' ⟨rfl, hr, hg⟩
    exact ⟨_, rfl, ⟨rfl, hstep 0 u u' h hg hr⟩, hg⟩
  have C1 : ∀ u, S 1 u → Calls Try.prog 17 #[.pointer (some ⟨g7, 0, none⟩)] u fun e u' => ∃ v, e = .returned v ∧ ((FactG.bytes (g := g7) p).holds v u' ∧ S 2 u') ∧ u.grownBy u' (some g7) := fun u h => by
    refine (rblock_any g7 A7 c7 ⟨l6, q1, 0⟩ u (hSi 1 u h).2 (by simp only; omega)).mono ?_
    rw [R2.out]
    rintro e u' ⟨A9, c9, rfl, hr, hg, hb, hge⟩
    exact ⟨_, rfl, ⟨⟨A9, c9, rfl, hb, fun a ha _ => by have := hge a ha; have := (hSi 1 u h).2.lt; omega⟩, hstep 1 u u' h hg hr⟩, hg⟩
  have C2 : ∀ u, S 2 u → Calls Try.prog 16 #[.pointer (some ⟨g7, 0, none⟩)] u fun e u' => ∃ v, e = .returned v ∧ ((FactG.val (g := g7) (.int .u64 (m : Int))).holds v u' ∧ S 3 u') ∧ u.grownBy u' (some g7) := fun u h => by
    refine (rnum_any g7 A7 c7 ⟨l6, q2, 0⟩ u (hSi 2 u h).2).mono ?_
    rw [R3.out]
    rintro e u' ⟨rfl, hr, hg⟩
    exact ⟨_, rfl, ⟨rfl, hstep 2 u u' h hg hr⟩, hg⟩
  have C3 : ∀ u, S 3 u → Calls Try.prog 18 #[.pointer (some ⟨g7, 0, none⟩), .int .i64 size] u fun e u' => ∃ v, e = .returned v ∧ ((FactG.val (g := g7) (.int .u64 (mk : Nat))).holds v u' ∧ S 4 u') ∧ u.grownBy u' (some g7) := fun u h => by
    refine (rword_any g7 A7 c7 ⟨l6, q3, 0⟩ size u (hSi 3 u h).2).mono ?_
    rw [← HK.out, R4.out]
    rintro e u' ⟨rfl, hr, hg⟩
    exact ⟨_, rfl, ⟨rfl, hstep 3 u u' h hg hr⟩, hg⟩
  have C4 : ∀ u, S 4 u → Calls Try.prog 20 #[.pointer (some ⟨g7, 0, none⟩)] u fun e u' => ∃ v, e = .returned v ∧ ((FactG.val (g := g7) (.agg D)).holds v u' ∧ S 5 u') ∧ u.grownBy u' (some g7) := fun u h => by
    refine (rdigest_any g7 A7 c7 ⟨l6, q4, 0⟩ u (hSi 4 u h).2).mono ?_
    rw [R5.out]
    rintro e u' ⟨rfl, hr, hg⟩
    exact ⟨_, rfl, ⟨by rw [HD.out]; rfl, hstep 4 u u' h hg hr⟩, hg⟩
  have C5 : ∀ u, S 5 u → Calls Try.prog 22 #[.pointer (some ⟨g7, 0, none⟩)] u fun e u' => ∃ v, e = .returned v ∧ ((FactG.val (g := g7) (.int .i64 0)).holds v u' ∧ S 6 u') ∧ u.grownBy u' (some g7) := fun u h => by
    refine (rend_any g7 A7 c7 ⟨l6, q5, 0⟩ u (hSi 5 u h).2).mono ?_
    rw [R6.out]
    rintro e u' ⟨rfl, k9, rfl⟩
    exact ⟨_, rfl, ⟨rfl, hstep 5 u _ h (grown_drewN u k9 _) ((hSi 5 u h).2.drewN k9)⟩, grown_drewN u k9 _⟩
  refine wp_region_asks2 g7 [FactG.val (.pointer (some ⟨g7, 0, none⟩)), FactG.val (.int .u64 (n : Int)), FactG.val (.int .u64 (n : Int)), FactG.val (.bool false), FactG.val (.bool false), FactG.val (.pointer (some ⟨g7, 0, none⟩)), FactG.bytes (p), FactG.val (.string ⟨(p).toArray⟩), FactG.bytes (p), FactG.val (.string ⟨(p).toArray⟩), FactG.val (.bool false), FactG.val (.bool false), FactG.val (.bool false), FactG.val (.pointer (some ⟨g7, 0, none⟩)), FactG.val (.int .u64 (m : Int)), FactG.val (.int .u64 (m : Int)), FactG.val (.bool false), FactG.val (.bool false), FactG.val (.bool false), FactG.val (.pointer (some ⟨g7, 0, none⟩)), FactG.val (.int .i64 size), FactG.val (.int .u64 (mk : Nat)), FactG.val (.int .u64 (m : Int)), FactG.val (.int .u64 M), FactG.val (.int .u64 (mk : Nat)), FactG.val (.bool false), FactG.val (.bool false), FactG.val (.bool false), FactG.val (.pointer (some ⟨g7, 0, none⟩)), FactG.val (.agg D), FactG.val (.agg D), FactG.val (.bool false), FactG.val (.bool false), FactG.val (.bool false), FactG.val (.pointer (some ⟨g7, 0, none⟩)), FactG.val (.int .i64 0), FactG.val (.bool false), FactG.val (.bool false)] S [1, 6, 14, 21, 29, 35] _ (by kernel_rfl) (by kernel_rfl) (by kernel_rfl) rfl hSx hS0 ?_ ?_
  · refine ⟨?_, ?_, ?_, ?_, ?_, ?_, ?_, ?_, ?_, ?_, ?_, ?_, ?_, ?_, ?_, ?_, ?_, ?_, ?_, ?_, ?_, ?_, ?_, ?_, ?_, ?_, ?_, ?_, ?_, ?_, ?_, ?_, ?_, ?_, ?_, ?_, ?_, ?_, trivial⟩
    · unfold Ask2
      rw [if_neg (by decide)]
      intro a u jj hx hd hr
      rw [if_pos (wanted_none rfl)]
      have e14 : a.eval (.tmp 14) = .pointer (some ⟨g7, 0, none⟩) := hr 14 rfl
      exact Y_copy (.inl rfl) e14
    · unfold Ask2
      rw [if_pos (by decide)]
      intro a u hx hd hr
      have hx : S 0 u := hx
      rw [if_pos (wanted_none rfl)]
      have e52 : a.eval (.tmp 52) = .pointer (some ⟨g7, 0, none⟩) := hd 0 52 rfl rfl
      clear hd hr
      refine Y2_calls (f := 16) (args := #[(a.eval (.tmp 52))]) (by go_simp) ?_
      rw [e52]
      exact C0 u hx
    · unfold Ask2
      rw [if_neg (by decide)]
      intro a u jj hx hd hr
      rw [if_pos (wanted_none rfl)]
      have e2 : a.eval (.tmp 2) = .int .u64 (n : Int) := hr 2 rfl
      exact Y_copy (.inl rfl) e2
    · unfold Ask2
      rw [if_neg (by decide)]
      intro a u jj hx hd hr
      rw [if_pos (wanted_none rfl)]
      have e53 : a.eval (.tmp 53) = .int .u64 (n : Int) := hd 1 53 rfl rfl
      have e54 : a.eval (.tmp 54) = .int .u64 (n : Int) := hd 2 54 rfl rfl
      clear hd hr
      simp only [Act.eval, Array.getD_eq_getD_getElem?] at e53 e54
      exact Y_val (v := .bool false) (by go_simp) rfl
    · unfold Ask2
      rw [if_neg (by decide)]
      intro a u jj hx hd hr
      rw [if_pos (wanted_none rfl)]
      have e55 : a.eval (.tmp 55) = .bool false := hd 3 55 rfl rfl
      exact Y_copy (.inl rfl) e55
    · unfold Ask2
      rw [if_neg (by decide)]
      intro a u jj hx hd hr
      have eg : a.eval (.tmp 56) = .bool false := hd 4 56 rfl rfl
      rw [if_pos (by rw [wanted_some rfl rfl eg]; rfl)]
      have e14 : a.eval (.tmp 14) = .pointer (some ⟨g7, 0, none⟩) := hr 14 rfl
      exact Y_copy (.inl rfl) e14
    · unfold Ask2
      rw [if_pos (by decide)]
      intro a u hx hd hr
      have hx : S 1 u := hx
      have eg : a.eval (.tmp 56) = .bool false := hd 4 56 rfl rfl
      rw [if_pos (by rw [wanted_some rfl rfl eg]; rfl)]
      have e57 : a.eval (.tmp 57) = .pointer (some ⟨g7, 0, none⟩) := hd 5 57 rfl rfl
      clear hd hr
      refine Y2_calls (f := 17) (args := #[(a.eval (.tmp 57))]) (by go_simp) ?_
      rw [e57]
      exact C1 u hx
    · unfold Ask2
      rw [if_neg (by decide)]
      intro a u jj hx hd hr
      have eg : a.eval (.tmp 56) = .bool false := hd 4 56 rfl rfl
      rw [if_pos (by rw [wanted_some rfl rfl eg]; rfl)]
      have e58 : IsG g7 (p) (a.eval (.tmp 58)) u := hd 6 58 rfl rfl
      exact Y_str rfl e58.isB Try.underlying24 Try.underlying5 Try.underlying9 rfl
    · unfold Ask2
      rw [if_neg (by decide)]
      intro a u jj hx hd hr
      have eg : a.eval (.tmp 56) = .bool false := hd 4 56 rfl rfl
      rw [if_pos (by rw [wanted_some rfl rfl eg]; rfl)]
      have e1 : IsG g7 (p) (a.eval (.tmp 1)) u := by rw [hr 1 rfl]; exact hb1 _ _ hx
      exact Y_copy (.inl rfl) e1
    · unfold Ask2
      rw [if_neg (by decide)]
      intro a u jj hx hd hr
      have eg : a.eval (.tmp 56) = .bool false := hd 4 56 rfl rfl
      rw [if_pos (by rw [wanted_some rfl rfl eg]; rfl)]
      have e60 : IsG g7 (p) (a.eval (.tmp 60)) u := hd 8 60 rfl rfl
      exact Y_str rfl e60.isB Try.underlying24 Try.underlying5 Try.underlying9 rfl
    · unfold Ask2
      rw [if_neg (by decide)]
      intro a u jj hx hd hr
      have eg : a.eval (.tmp 56) = .bool false := hd 4 56 rfl rfl
      rw [if_pos (by rw [wanted_some rfl rfl eg]; rfl)]
      have e59 : a.eval (.tmp 59) = .string ⟨(p).toArray⟩ := hd 7 59 rfl rfl
      have e61 : a.eval (.tmp 61) = .string ⟨(p).toArray⟩ := hd 9 61 rfl rfl
      clear hd hr
      simp only [Act.eval, Array.getD_eq_getD_getElem?] at e59 e61
      exact Y_val (v := .bool false) (by go_simp) rfl
    · unfold Ask2
      rw [if_neg (by decide)]
      intro a u jj hx hd hr
      rw [if_pos (wanted_none rfl)]
      have e56 : a.eval (.tmp 56) = .bool false := hd 4 56 rfl rfl
      have e62 : a.eval (.tmp 62) = .bool false := hd 10 62 rfl rfl
      exact Y_pick rfl e56 e62
    · unfold Ask2
      rw [if_neg (by decide)]
      intro a u jj hx hd hr
      rw [if_pos (wanted_none rfl)]
      have e63 : a.eval (.tmp 63) = .bool false := hd 11 63 rfl rfl
      exact Y_copy (.inl rfl) e63
    · unfold Ask2
      rw [if_neg (by decide)]
      intro a u jj hx hd hr
      have eg : a.eval (.tmp 64) = .bool false := hd 12 64 rfl rfl
      rw [if_pos (by rw [wanted_some rfl rfl eg]; rfl)]
      have e14 : a.eval (.tmp 14) = .pointer (some ⟨g7, 0, none⟩) := hr 14 rfl
      exact Y_copy (.inl rfl) e14
    · unfold Ask2
      rw [if_pos (by decide)]
      intro a u hx hd hr
      have hx : S 2 u := hx
      have eg : a.eval (.tmp 64) = .bool false := hd 12 64 rfl rfl
      rw [if_pos (by rw [wanted_some rfl rfl eg]; rfl)]
      have e65 : a.eval (.tmp 65) = .pointer (some ⟨g7, 0, none⟩) := hd 13 65 rfl rfl
      clear hd hr
      refine Y2_calls (f := 16) (args := #[(a.eval (.tmp 65))]) (by go_simp) ?_
      rw [e65]
      exact C2 u hx
    · unfold Ask2
      rw [if_neg (by decide)]
      intro a u jj hx hd hr
      have eg : a.eval (.tmp 64) = .bool false := hd 12 64 rfl rfl
      rw [if_pos (by rw [wanted_some rfl rfl eg]; rfl)]
      have e3 : a.eval (.tmp 3) = .int .u64 (m : Int) := hr 3 rfl
      exact Y_copy (.inl rfl) e3
    · unfold Ask2
      rw [if_neg (by decide)]
      intro a u jj hx hd hr
      have eg : a.eval (.tmp 64) = .bool false := hd 12 64 rfl rfl
      rw [if_pos (by rw [wanted_some rfl rfl eg]; rfl)]
      have e66 : a.eval (.tmp 66) = .int .u64 (m : Int) := hd 14 66 rfl rfl
      have e67 : a.eval (.tmp 67) = .int .u64 (m : Int) := hd 15 67 rfl rfl
      clear hd hr
      simp only [Act.eval, Array.getD_eq_getD_getElem?] at e66 e67
      exact Y_val (v := .bool false) (by go_simp) rfl
    · unfold Ask2
      rw [if_neg (by decide)]
      intro a u jj hx hd hr
      rw [if_pos (wanted_none rfl)]
      have e64 : a.eval (.tmp 64) = .bool false := hd 12 64 rfl rfl
      have e68 : a.eval (.tmp 68) = .bool false := hd 16 68 rfl rfl
      exact Y_pick rfl e64 e68
    · unfold Ask2
      rw [if_neg (by decide)]
      intro a u jj hx hd hr
      rw [if_pos (wanted_none rfl)]
      have e69 : a.eval (.tmp 69) = .bool false := hd 17 69 rfl rfl
      exact Y_copy (.inl rfl) e69
    · unfold Ask2
      rw [if_neg (by decide)]
      intro a u jj hx hd hr
      have eg : a.eval (.tmp 70) = .bool false := hd 18 70 rfl rfl
      rw [if_pos (by rw [wanted_some rfl rfl eg]; rfl)]
      have e14 : a.eval (.tmp 14) = .pointer (some ⟨g7, 0, none⟩) := hr 14 rfl
      exact Y_copy (.inl rfl) e14
    · unfold Ask2
      rw [if_neg (by decide)]
      intro a u jj hx hd hr
      have eg : a.eval (.tmp 70) = .bool false := hd 18 70 rfl rfl
      rw [if_pos (by rw [wanted_some rfl rfl eg]; rfl)]
      have e5 : a.eval (.tmp 5) = .int .i64 size := hr 5 rfl
      exact Y_copy (.inl rfl) e5
    · unfold Ask2
      rw [if_pos (by decide)]
      intro a u hx hd hr
      have hx : S 3 u := hx
      have eg : a.eval (.tmp 70) = .bool false := hd 18 70 rfl rfl
      rw [if_pos (by rw [wanted_some rfl rfl eg]; rfl)]
      have e71 : a.eval (.tmp 71) = .pointer (some ⟨g7, 0, none⟩) := hd 19 71 rfl rfl
      have e72 : a.eval (.tmp 72) = .int .i64 size := hd 20 72 rfl rfl
      clear hd hr
      refine Y2_calls (f := 18) (args := #[(a.eval (.tmp 71)), (a.eval (.tmp 72))]) (by go_simp) ?_
      rw [e71, e72]
      exact C3 u hx
    · unfold Ask2
      rw [if_neg (by decide)]
      intro a u jj hx hd hr
      have eg : a.eval (.tmp 70) = .bool false := hd 18 70 rfl rfl
      rw [if_pos (by rw [wanted_some rfl rfl eg]; rfl)]
      have e3 : a.eval (.tmp 3) = .int .u64 (m : Int) := hr 3 rfl
      exact Y_copy (.inl rfl) e3
    · unfold Ask2
      rw [if_neg (by decide)]
      intro a u jj hx hd hr
      have eg : a.eval (.tmp 70) = .bool false := hd 18 70 rfl rfl
      rw [if_pos (by rw [wanted_some rfl rfl eg]; rfl)]
      have e16 : a.eval (.tmp 16) = .int .u64 M := hr 16 rfl
      exact Y_copy (.inl rfl) e16
    · unfold Ask2
      rw [if_neg (by decide)]
      intro a u jj hx hd hr
      have eg : a.eval (.tmp 70) = .bool false := hd 18 70 rfl rfl
      rw [if_pos (by rw [wanted_some rfl rfl eg]; rfl)]
      have e74 : a.eval (.tmp 74) = .int .u64 (m : Int) := hd 22 74 rfl rfl
      have e75 : a.eval (.tmp 75) = .int .u64 M := hd 23 75 rfl rfl
      clear hd hr
      simp only [Act.eval, Array.getD_eq_getD_getElem?] at e74 e75
      exact Y_val (v := .int .u64 (mk : Nat)) (by go_simp) rfl
    · unfold Ask2
      rw [if_neg (by decide)]
      intro a u jj hx hd hr
      have eg : a.eval (.tmp 70) = .bool false := hd 18 70 rfl rfl
      rw [if_pos (by rw [wanted_some rfl rfl eg]; rfl)]
      have e73 : a.eval (.tmp 73) = .int .u64 (mk : Nat) := hd 21 73 rfl rfl
      have e76 : a.eval (.tmp 76) = .int .u64 (mk : Nat) := hd 24 76 rfl rfl
      clear hd hr
      simp only [Act.eval, Array.getD_eq_getD_getElem?] at e73 e76
      exact Y_val (v := .bool false) (by go_simp) rfl
    · unfold Ask2
      rw [if_neg (by decide)]
      intro a u jj hx hd hr
      rw [if_pos (wanted_none rfl)]
      have e70 : a.eval (.tmp 70) = .bool false := hd 18 70 rfl rfl
      have e77 : a.eval (.tmp 77) = .bool false := hd 25 77 rfl rfl
      exact Y_pick rfl e70 e77
    · unfold Ask2
      rw [if_neg (by decide)]
      intro a u jj hx hd hr
      rw [if_pos (wanted_none rfl)]
      have e78 : a.eval (.tmp 78) = .bool false := hd 26 78 rfl rfl
      exact Y_copy (.inl rfl) e78
    · unfold Ask2
      rw [if_neg (by decide)]
      intro a u jj hx hd hr
      have eg : a.eval (.tmp 79) = .bool false := hd 27 79 rfl rfl
      rw [if_pos (by rw [wanted_some rfl rfl eg]; rfl)]
      have e14 : a.eval (.tmp 14) = .pointer (some ⟨g7, 0, none⟩) := hr 14 rfl
      exact Y_copy (.inl rfl) e14
    · unfold Ask2
      rw [if_pos (by decide)]
      intro a u hx hd hr
      have hx : S 4 u := hx
      have eg : a.eval (.tmp 79) = .bool false := hd 27 79 rfl rfl
      rw [if_pos (by rw [wanted_some rfl rfl eg]; rfl)]
      have e80 : a.eval (.tmp 80) = .pointer (some ⟨g7, 0, none⟩) := hd 28 80 rfl rfl
      clear hd hr
      refine Y2_calls (f := 20) (args := #[(a.eval (.tmp 80))]) (by go_simp) ?_
      rw [e80]
      exact C4 u hx
    · unfold Ask2
      rw [if_neg (by decide)]
      intro a u jj hx hd hr
      have eg : a.eval (.tmp 79) = .bool false := hd 27 79 rfl rfl
      rw [if_pos (by rw [wanted_some rfl rfl eg]; rfl)]
      have e10 : a.eval (.tmp 10) = .pointer (some ⟨w.heap.size, 0, none⟩) := hr 10 rfl
      exact Y_load_row 38 (.tmp 10) rfl _ e10 38 D (0, 0) _ (hload _ _ hx) Try.underlying38 rfl (by rw [HDS.out]; kernel_rfl) rfl
    · unfold Ask2
      rw [if_neg (by decide)]
      intro a u jj hx hd hr
      have eg : a.eval (.tmp 79) = .bool false := hd 27 79 rfl rfl
      rw [if_pos (by rw [wanted_some rfl rfl eg]; rfl)]
      have e81 : a.eval (.tmp 81) = .agg D := hd 29 81 rfl rfl
      have e82 : a.eval (.tmp 82) = .agg D := hd 30 82 rfl rfl
      clear hd hr
      simp only [Act.eval, Array.getD_eq_getD_getElem?] at e81 e82
      exact Y_val (v := .bool false) (by go_simp) rfl
    · unfold Ask2
      rw [if_neg (by decide)]
      intro a u jj hx hd hr
      rw [if_pos (wanted_none rfl)]
      have e79 : a.eval (.tmp 79) = .bool false := hd 27 79 rfl rfl
      have e83 : a.eval (.tmp 83) = .bool false := hd 31 83 rfl rfl
      exact Y_pick rfl e79 e83
    · unfold Ask2
      rw [if_neg (by decide)]
      intro a u jj hx hd hr
      rw [if_pos (wanted_none rfl)]
      have e84 : a.eval (.tmp 84) = .bool false := hd 32 84 rfl rfl
      exact Y_copy (.inl rfl) e84
    · unfold Ask2
      rw [if_neg (by decide)]
      intro a u jj hx hd hr
      have eg : a.eval (.tmp 85) = .bool false := hd 33 85 rfl rfl
      rw [if_pos (by rw [wanted_some rfl rfl eg]; rfl)]
      have e14 : a.eval (.tmp 14) = .pointer (some ⟨g7, 0, none⟩) := hr 14 rfl
      exact Y_copy (.inl rfl) e14
    · unfold Ask2
      rw [if_pos (by decide)]
      intro a u hx hd hr
      have hx : S 5 u := hx
      have eg : a.eval (.tmp 85) = .bool false := hd 33 85 rfl rfl
      rw [if_pos (by rw [wanted_some rfl rfl eg]; rfl)]
      have e86 : a.eval (.tmp 86) = .pointer (some ⟨g7, 0, none⟩) := hd 34 86 rfl rfl
      clear hd hr
      refine Y2_calls (f := 22) (args := #[(a.eval (.tmp 86))]) (by go_simp) ?_
      rw [e86]
      exact C5 u hx
    · unfold Ask2
      rw [if_neg (by decide)]
      intro a u jj hx hd hr
      have eg : a.eval (.tmp 85) = .bool false := hd 33 85 rfl rfl
      rw [if_pos (by rw [wanted_some rfl rfl eg]; rfl)]
      have e87 : a.eval (.tmp 87) = .int .i64 0 := hd 35 87 rfl rfl
      clear hd hr
      simp only [Act.eval, Array.getD_eq_getD_getElem?] at e87
      exact Y_val (v := .bool false) (by go_simp) rfl
    · unfold Ask2
      rw [if_neg (by decide)]
      intro a u jj hx hd hr
      rw [if_pos (wanted_none rfl)]
      have e85 : a.eval (.tmp 85) = .bool false := hd 33 85 rfl rfl
      have e88 : a.eval (.tmp 88) = .bool false := hd 36 88 rfl rfl
      exact Y_pick rfl e85 e88
  intro f w9 hS9 hF
  have f0 : f 0 = .pointer (some ⟨g7, 0, none⟩) := hF 0 52 rfl
  have f1 : f 1 = .int .u64 (n : Int) := hF 1 53 rfl
  have f2 : f 2 = .int .u64 (n : Int) := hF 2 54 rfl
  have f3 : f 3 = .bool false := hF 3 55 rfl
  have f4 : f 4 = .bool false := hF 4 56 rfl
  have f5 : f 5 = .pointer (some ⟨g7, 0, none⟩) := hF 5 57 rfl
  have f7 : f 7 = .string ⟨(p).toArray⟩ := hF 7 59 rfl
  have f9 : f 9 = .string ⟨(p).toArray⟩ := hF 9 61 rfl
  have f10 : f 10 = .bool false := hF 10 62 rfl
  have f11 : f 11 = .bool false := hF 11 63 rfl
  have f12 : f 12 = .bool false := hF 12 64 rfl
  have f13 : f 13 = .pointer (some ⟨g7, 0, none⟩) := hF 13 65 rfl
  have f14 : f 14 = .int .u64 (m : Int) := hF 14 66 rfl
  have f15 : f 15 = .int .u64 (m : Int) := hF 15 67 rfl
  have f16 : f 16 = .bool false := hF 16 68 rfl
  have f17 : f 17 = .bool false := hF 17 69 rfl
  have f18 : f 18 = .bool false := hF 18 70 rfl
  have f19 : f 19 = .pointer (some ⟨g7, 0, none⟩) := hF 19 71 rfl
  have f20 : f 20 = .int .i64 size := hF 20 72 rfl
  have f21 : f 21 = .int .u64 (mk : Nat) := hF 21 73 rfl
  have f22 : f 22 = .int .u64 (m : Int) := hF 22 74 rfl
  have f23 : f 23 = .int .u64 M := hF 23 75 rfl
  have f24 : f 24 = .int .u64 (mk : Nat) := hF 24 76 rfl
  have f25 : f 25 = .bool false := hF 25 77 rfl
  have f26 : f 26 = .bool false := hF 26 78 rfl
  have f27 : f 27 = .bool false := hF 27 79 rfl
  have f28 : f 28 = .pointer (some ⟨g7, 0, none⟩) := hF 28 80 rfl
  have f29 : f 29 = .agg D := hF 29 81 rfl
  have f30 : f 30 = .agg D := hF 30 82 rfl
  have f31 : f 31 = .bool false := hF 31 83 rfl
  have f32 : f 32 = .bool false := hF 32 84 rfl
  have f33 : f 33 = .bool false := hF 33 85 rfl
  have f34 : f 34 = .pointer (some ⟨g7, 0, none⟩) := hF 34 86 rfl
  have f35 : f 35 = .int .i64 0 := hF 35 87 rfl
  have f36 : f 36 = .bool false := hF 36 88 rfl
  have f37 : f 37 = .bool false := hF 37 89 rfl
  simp only [puts, Act.put, List.setIfInBounds_toArray, List.set_cons_succ, List.set_cons_zero, Nat.zero_add, Nat.reduceAdd, f0, f1, f2, f3, f4, f5, f7, f9, f10, f11, f12, f13, f14, f15, f16, f17, f18, f19, f20, f21, f22, f23, f24, f25, f26, f27, f28, f29, f30, f31, f32, f33, f34, f35, f36, f37]
  generalize f 6 = y6
  generalize f 8 = y8
  clear f0 f1 f2 f3 f4 f5 f7 f9 f10 f11 f12 f13 f14 f15 f16 f17 f18 f19 f20 f21 f22 f23 f24 f25 f26 f27 f28 f29 f30 f31 f32 f33 f34 f35 f36 f37 hF
  have xw9 : Ext w1 w9 := (hSi _ _ hS9).1
  have hA9 : Bs w9 A c b := Sl.below hA1 xw9
  clear C0 C1 C2 C3 C4 C5 hload hb1 hstep hSx hS0 hSi hSo hS9 S x17d heq hM0 R1 R2 R3 R4 R5 R6 HK hgrow hgw x17 x16' hA7 h7 hg7 f hg0w hn6 hB1 hblk1 hA hB
  go_wp2_with fail
  refine (own_any A c b _ hA9 (by omega)).mono ?_
  rintro e w10 ⟨v10, rfl, hown10, hx10⟩
  obtain ⟨A10, c10, rfl, hb10, hs10, hge10⟩ := str_of hown10
  clear hs10 hown10
  go_wp2_with fail
  refine (read_any A10 c10 b _ hb10 (by omega)).mono ?_
  rintro e w11 ⟨g8, A8, c8, rfl, hg8, h8, hA8, hx11⟩
  go_wp2_with fail
  obtain ⟨s8, hs8⟩ : ∃ s, s = (numR ⟨b, 0, 0⟩).1 := ⟨_, rfl⟩
  obtain ⟨n8, hn8⟩ : ∃ n, n = (numR ⟨b, 0, 0⟩).2 := ⟨_, rfl⟩
  have hsb := numR_bs ⟨b, 0, 0⟩
  have hback := numR_back b 0 (Nat.zero_le _)
  rw [← hs8] at hsb
  rw [← hs8, ← hn8] at hback
  simp only at hsb
  have HBK := Lib.hid hback
  refine (rnum_any g8 A8 c8 ⟨b, 0, 0⟩ _ h8).mono ?_
  rw [← hs8, ← hn8, hsb]
  have HSB := Lib.hid hsb
  clear hs8 hn8 hsb hback
  obtain ⟨e8, he8⟩ : ∃ e, e = s8.e := ⟨_, rfl⟩
  obtain ⟨k8, hk8⟩ : ∃ k, k = s8.p := ⟨_, rfl⟩
  rw [← he8, ← hk8]
  rw [← he8, ← hk8] at HBK
  rintro e w12 ⟨rfl, h12, hgr12⟩
  have x10 : Ext w1 w10 := Ext.trans xw9 hx10
  have x11 : Ext w1 w11 := Ext.trans x10 hx11
  have hg8' : w1.heap.size ≤ g8 := Nat.le_trans x10.size hg8
  have x12 : Ext w1 w12 := x11.grown hgr12 x11.size (by rintro k ⟨⟩; exact hg8')
  clear he8 hk8 HSB hgr12 hx11 hx10 hb10 hge10 hA8 h8 x11 x10
  go_wp2_with fail
  obtain ⟨S2, hSdef⟩ : ∃ S : Nat → World → Prop, S = fun j u => Ext w1 u ∧ Rdr u g8 A8 c8 b k8 e8 := ⟨_, rfl⟩
  have hSi : ∀ j u, S2 j u → Ext w1 u ∧ Rdr u g8 A8 c8 b k8 e8 := fun j u h => by rw [hSdef] at h; exact h
  have hSo : ∀ j u, Ext w1 u → Rdr u g8 A8 c8 b k8 e8 → S2 j u := fun j u h1 h2 => by rw [hSdef]; exact ⟨h1, h2⟩
  clear hSdef
  have S2x : ∀ j u u', S2 j u → Ext u u' → S2 j u' := fun j u u' h hx => hSo j u' (Ext.trans (hSi j u h).1 hx) ((hSi j u h).2.ext hx)
  have S20 : S2 0 w12 := hSo 0 w12 x12 h12
  obtain ⟨L8, hL8⟩ : ∃ L, L = b.length - k8 := ⟨_, rfl⟩
  have D21 : ∀ j u, S2 j u → Calls Try.prog 21 #[.pointer (some ⟨g8, 0, none⟩)] u fun e u' => ∃ v, e = .returned v ∧ (FactG.val (g := g8) (.int .i64 (e8 : Int))).holds v u' ∧ Ext u u' := fun j u h => by
    refine (err_any g8 A8 c8 b k8 e8 u (hSi j u h).2).mono ?_
    rintro e u' ⟨rfl, rfl⟩
    exact ⟨_, rfl, rfl, Ext.refl u⟩
  have D23 : ∀ j u, S2 j u → Calls Try.prog 23 #[.pointer (some ⟨g8, 0, none⟩)] u fun e u' => ∃ v, e = .returned v ∧ (FactG.val (g := g8) (.int .i64 (L8 : Int))).holds v u' ∧ Ext u u' := fun j u h => by
    refine (left_any g8 A8 c8 b k8 e8 u (hSi j u h).2).mono ?_
    rw [← hL8]
    rintro e u' ⟨rfl, k9, rfl⟩
    exact ⟨_, rfl, rfl, ⟨rfl, rfl, rfl, Nat.le_refl _, fun _ _ => rfl⟩⟩
  have HL8 := Lib.hid hL8
  clear hL8
  refine wp_region_two g8 [FactG.val (.pointer (some ⟨g8, 0, none⟩)), FactG.val (.int .i64 0), FactG.val (.bool true), FactG.val (.bool true), FactG.val (.int .u64 (n8 : Int)), FactG.bytes (num n8), FactG.val (.string ⟨(num n8).toArray⟩), FactG.val (.slice A b.length c), FactG.val (.slice A b.length c), FactG.val (.int .i64 (b.length : Int)), FactG.val (.pointer (some ⟨g8, 0, none⟩)), FactG.val (.int .i64 (L8 : Int)), FactG.val (.int .i64 (k8 : Int)), FactG.bytes (num n8), FactG.val (.string ⟨(num n8).toArray⟩), FactG.val (.bool false), FactG.val (.bool false)] S2 [] _ (e8 = 0) [FactG.val (.pointer (some ⟨g8, 0, none⟩)), FactG.val (.int .i64 (e8 : Int)), FactG.val (.bool false), FactG.val (.bool false), FactG.val (undef), FactG.val (undef), FactG.val (undef), FactG.val (undef), FactG.val (undef), FactG.val (undef), FactG.val (undef), FactG.val (undef), FactG.val (undef), FactG.val (undef), FactG.val (undef), FactG.val (undef), FactG.val (.bool false)] (fun f => f 16 = .bool false) (by kernel_rfl) (by kernel_rfl) (by kernel_rfl) rfl S2x S20 ?_ ?_ (fun _ f w' hF => hF 16 111 rfl) (fun _ f w' hF => hF 16 111 rfl) ?_
  · intro hc
    obtain ⟨hbk, hk8, _, hn8⟩ := HBK.out hc
    have hL := HL8.out
    have hsub : (b.length : Int) - (L8 : Int) = (k8 : Int) := by omega
    clear hL
    have D21a : ∀ j u, S2 j u → Calls Try.prog 21 #[.pointer (some ⟨g8, 0, none⟩)] u fun e u' => ∃ v, e = .returned v ∧ (FactG.val (g := g8) (.int .i64 0)).holds v u' ∧ Ext u u' := fun j u h => by
      have := D21 j u h
      rw [hc] at this
      exact this
    have D9 : ∀ j u, S2 j u → Calls Try.prog 9 #[.slice none 0 0, .int .u64 (n8 : Int)] u fun e u' => ∃ v, e = .returned v ∧ (FactG.bytes (g := g8) (num n8)).holds v u' ∧ Ext u u' := fun j u h => by
      refine (number_any none 0 [] n8 u (Sl.nil _ _) hn8 (by simp)).mono ?_
      rw [List.nil_append]
      rintro e u' ⟨v, rfl, ho, hx⟩
      exact ⟨v, rfl, own_G ho (hSi j u h).2.lt, hx⟩
    have hnl : (num n8).length = k8 := by rw [hbk]; simp; omega
    have hkc : k8 ≤ c := by have := hA1.le; omega
    have hcutb : ∀ j u, S2 j u → IsG g8 (num n8) (.slice A k8 c) u := fun j u h => by
      refine ⟨A, c, by rw [hnl], ?_, fun a ha hp => ?_⟩
      · rw [hbk, List.drop_zero]
        exact Bs.take (Sl.below hA1 (hSi j u h).1) k8 hk8
      · have hbne : b ≠ [] := by rintro rfl; exact hp (by rw [hbk]; simp)
        have := Sl.lt hA1 ha (by simpa using hbne)
        omega
    have hw63 : IntKind.i64.wrap (k8 : Int) = (k8 : Int) := wrap63 k8 (by omega)
    have HBK2 := Lib.hid hbk
    clear hbk
    have HNL := Lib.hid hnl
    clear hnl
    refine ⟨?_, ?_, ?_, ?_, ?_, ?_, ?_, ?_, ?_, ?_, ?_, ?_, ?_, ?_, ?_, ?_, ?_, trivial⟩
    · unfold Ask2
      rw [if_neg (by decide)]
      intro a u jj hx hd hr
      rw [if_pos (wanted_none rfl)]
      have e17 : a.eval (.tmp 17) = .pointer (some ⟨g8, 0, none⟩) := hr 17 rfl
      exact Y_copy (.inl rfl) e17
    · unfold Ask2
      rw [if_neg (by decide)]
      intro a u jj hx hd hr
      rw [if_pos (wanted_none rfl)]
      have e95 : a.eval (.tmp 95) = .pointer (some ⟨g8, 0, none⟩) := hd 0 95 rfl rfl
      clear hd hr
      refine Y_calls (f := 21) (args := #[(a.eval (.tmp 95))]) (by go_simp) ?_
      rw [e95]
      exact D21a _ _ hx
    · unfold Ask2
      rw [if_neg (by decide)]
      intro a u jj hx hd hr
      rw [if_pos (wanted_none rfl)]
      have e96 : a.eval (.tmp 96) = .int .i64 0 := hd 1 96 rfl rfl
      clear hd hr
      simp only [Act.eval, Array.getD_eq_getD_getElem?] at e96
      exact Y_val (v := .bool true) (by go_simp) rfl
    · unfold Ask2
      rw [if_neg (by decide)]
      intro a u jj hx hd hr
      rw [if_pos (wanted_none rfl)]
      have e97 : a.eval (.tmp 97) = .bool true := hd 2 97 rfl rfl
      exact Y_copy (.inl rfl) e97
    · unfold Ask2
      rw [if_neg (by decide)]
      intro a u jj hx hd hr
      have eg : a.eval (.tmp 98) = .bool true := hd 3 98 rfl rfl
      rw [if_pos (by rw [wanted_some rfl rfl eg]; rfl)]
      have e18 : a.eval (.tmp 18) = .int .u64 (n8 : Int) := hr 18 rfl
      exact Y_copy (.inl rfl) e18
    · unfold Ask2
      rw [if_neg (by decide)]
      intro a u jj hx hd hr
      have eg : a.eval (.tmp 98) = .bool true := hd 3 98 rfl rfl
      rw [if_pos (by rw [wanted_some rfl rfl eg]; rfl)]
      have e99 : a.eval (.tmp 99) = .int .u64 (n8 : Int) := hd 4 99 rfl rfl
      clear hd hr
      refine Y_calls (f := 9) (args := #[.slice none 0 0, (a.eval (.tmp 99))]) (by go_simp) ?_
      rw [e99]
      exact D9 _ _ hx
    · unfold Ask2
      rw [if_neg (by decide)]
      intro a u jj hx hd hr
      have eg : a.eval (.tmp 98) = .bool true := hd 3 98 rfl rfl
      rw [if_pos (by rw [wanted_some rfl rfl eg]; rfl)]
      have e100 : IsG g8 (num n8) (a.eval (.tmp 100)) u := hd 5 100 rfl rfl
      exact Y_str rfl e100.isB Try.underlying24 Try.underlying5 Try.underlying9 rfl
    · unfold Ask2
      rw [if_neg (by decide)]
      intro a u jj hx hd hr
      have eg : a.eval (.tmp 98) = .bool true := hd 3 98 rfl rfl
      rw [if_pos (by rw [wanted_some rfl rfl eg]; rfl)]
      have e0 : a.eval (.tmp 0) = .slice A b.length c := hr 0 rfl
      exact Y_copy (.inl rfl) e0
    · unfold Ask2
      rw [if_neg (by decide)]
      intro a u jj hx hd hr
      have eg : a.eval (.tmp 98) = .bool true := hd 3 98 rfl rfl
      rw [if_pos (by rw [wanted_some rfl rfl eg]; rfl)]
      have e0 : a.eval (.tmp 0) = .slice A b.length c := hr 0 rfl
      exact Y_copy (.inl rfl) e0
    · unfold Ask2
      rw [if_neg (by decide)]
      intro a u jj hx hd hr
      have eg : a.eval (.tmp 98) = .bool true := hd 3 98 rfl rfl
      rw [if_pos (by rw [wanted_some rfl rfl eg]; rfl)]
      have e103 : a.eval (.tmp 103) = .slice A b.length c := hd 8 103 rfl rfl
      clear hd hr
      simp only [Act.eval, Array.getD_eq_getD_getElem?] at e103
      exact Y_val (v := .int .i64 (b.length : Int)) (by go_simp) rfl
    · unfold Ask2
      rw [if_neg (by decide)]
      intro a u jj hx hd hr
      have eg : a.eval (.tmp 98) = .bool true := hd 3 98 rfl rfl
      rw [if_pos (by rw [wanted_some rfl rfl eg]; rfl)]
      have e17 : a.eval (.tmp 17) = .pointer (some ⟨g8, 0, none⟩) := hr 17 rfl
      exact Y_copy (.inl rfl) e17
    · unfold Ask2
      rw [if_neg (by decide)]
      intro a u jj hx hd hr
      have eg : a.eval (.tmp 98) = .bool true := hd 3 98 rfl rfl
      rw [if_pos (by rw [wanted_some rfl rfl eg]; rfl)]
      have e105 : a.eval (.tmp 105) = .pointer (some ⟨g8, 0, none⟩) := hd 10 105 rfl rfl
      clear hd hr
      refine Y_calls (f := 23) (args := #[(a.eval (.tmp 105))]) (by go_simp) ?_
      rw [e105]
      exact D23 _ _ hx
    · unfold Ask2
      rw [if_neg (by decide)]
      intro a u jj hx hd hr
      have eg : a.eval (.tmp 98) = .bool true := hd 3 98 rfl rfl
      rw [if_pos (by rw [wanted_some rfl rfl eg]; rfl)]
      have e104 : a.eval (.tmp 104) = .int .i64 (b.length : Int) := hd 9 104 rfl rfl
      have e106 : a.eval (.tmp 106) = .int .i64 (L8 : Int) := hd 11 106 rfl rfl
      clear hd hr
      simp only [Act.eval, Array.getD_eq_getD_getElem?] at e104 e106
      exact Y_val (v := .int .i64 (k8 : Int)) (by go_simp) rfl
    · unfold Ask2
      rw [if_neg (by decide)]
      intro a u jj hx hd hr
      have eg : a.eval (.tmp 98) = .bool true := hd 3 98 rfl rfl
      rw [if_pos (by rw [wanted_some rfl rfl eg]; rfl)]
      have e102 : a.eval (.tmp 102) = .slice A b.length c := hd 7 102 rfl rfl
      have e107 : a.eval (.tmp 107) = .int .i64 (k8 : Int) := hd 12 107 rfl rfl
      clear hd hr
      simp only [Act.eval, Array.getD_eq_getD_getElem?] at e102 e107
      exact Y_val (v := .slice A k8 c) (by go_simp) (hcutb _ _ hx)
    · unfold Ask2
      rw [if_neg (by decide)]
      intro a u jj hx hd hr
      have eg : a.eval (.tmp 98) = .bool true := hd 3 98 rfl rfl
      rw [if_pos (by rw [wanted_some rfl rfl eg]; rfl)]
      have e108 : IsG g8 (num n8) (a.eval (.tmp 108)) u := hd 13 108 rfl rfl
      exact Y_str rfl e108.isB Try.underlying24 Try.underlying5 Try.underlying9 rfl
    · unfold Ask2
      rw [if_neg (by decide)]
      intro a u jj hx hd hr
      have eg : a.eval (.tmp 98) = .bool true := hd 3 98 rfl rfl
      rw [if_pos (by rw [wanted_some rfl rfl eg]; rfl)]
      have e101 : a.eval (.tmp 101) = .string ⟨(num n8).toArray⟩ := hd 6 101 rfl rfl
      have e109 : a.eval (.tmp 109) = .string ⟨(num n8).toArray⟩ := hd 14 109 rfl rfl
      clear hd hr
      simp only [Act.eval, Array.getD_eq_getD_getElem?] at e101 e109
      exact Y_val (v := .bool false) (by go_simp) rfl
    · unfold Ask2
      rw [if_neg (by decide)]
      intro a u jj hx hd hr
      rw [if_pos (wanted_none rfl)]
      have e98 : a.eval (.tmp 98) = .bool true := hd 3 98 rfl rfl
      have e110 : a.eval (.tmp 110) = .bool false := hd 15 110 rfl rfl
      exact Y_pick rfl e98 e110
  · intro hc
    have hz2 : ((e8 : Int) == 0) = false := by simp; omega
    refine ⟨?_, ?_, ?_, ?_, ?_, ?_, ?_, ?_, ?_, ?_, ?_, ?_, ?_, ?_, ?_, ?_, ?_, trivial⟩
    · unfold Ask2
      rw [if_neg (by decide)]
      intro a u jj hx hd hr
      rw [if_pos (wanted_none rfl)]
      have e17 : a.eval (.tmp 17) = .pointer (some ⟨g8, 0, none⟩) := hr 17 rfl
      exact Y_copy (.inl rfl) e17
    · unfold Ask2
      rw [if_neg (by decide)]
      intro a u jj hx hd hr
      rw [if_pos (wanted_none rfl)]
      have e95 : a.eval (.tmp 95) = .pointer (some ⟨g8, 0, none⟩) := hd 0 95 rfl rfl
      clear hd hr
      refine Y_calls (f := 21) (args := #[(a.eval (.tmp 95))]) (by go_simp) ?_
      rw [e95]
      exact D21 _ _ hx
    · unfold Ask2
      rw [if_neg (by decide)]
      intro a u jj hx hd hr
      rw [if_pos (wanted_none rfl)]
      have e96 : a.eval (.tmp 96) = .int .i64 (e8 : Int) := hd 1 96 rfl rfl
      clear hd hr
      simp only [Act.eval, Array.getD_eq_getD_getElem?] at e96
      exact Y_val (v := .bool false) (by go_simp) rfl
    · unfold Ask2
      rw [if_neg (by decide)]
      intro a u jj hx hd hr
      rw [if_pos (wanted_none rfl)]
      have e97 : a.eval (.tmp 97) = .bool false := hd 2 97 rfl rfl
      exact Y_copy (.inl rfl) e97
    · unfold Ask2
      rw [if_neg (by decide)]
      intro a u jj hx hd hr
      have eg : a.eval (.tmp 98) = .bool false := hd 3 98 rfl rfl
      rw [if_neg (by rw [wanted_some rfl rfl eg]; exact Bool.noConfusion)]
      exact rfl
    · unfold Ask2
      rw [if_neg (by decide)]
      intro a u jj hx hd hr
      have eg : a.eval (.tmp 98) = .bool false := hd 3 98 rfl rfl
      rw [if_neg (by rw [wanted_some rfl rfl eg]; exact Bool.noConfusion)]
      exact rfl
    · unfold Ask2
      rw [if_neg (by decide)]
      intro a u jj hx hd hr
      have eg : a.eval (.tmp 98) = .bool false := hd 3 98 rfl rfl
      rw [if_neg (by rw [wanted_some rfl rfl eg]; exact Bool.noConfusion)]
      exact rfl
    · unfold Ask2
      rw [if_neg (by decide)]
      intro a u jj hx hd hr
      have eg : a.eval (.tmp 98) = .bool false := hd 3 98 rfl rfl
      rw [if_neg (by rw [wanted_some rfl rfl eg]; exact Bool.noConfusion)]
      exact rfl
    · unfold Ask2
      rw [if_neg (by decide)]
      intro a u jj hx hd hr
      have eg : a.eval (.tmp 98) = .bool false := hd 3 98 rfl rfl
      rw [if_neg (by rw [wanted_some rfl rfl eg]; exact Bool.noConfusion)]
      exact rfl
    · unfold Ask2
      rw [if_neg (by decide)]
      intro a u jj hx hd hr
      have eg : a.eval (.tmp 98) = .bool false := hd 3 98 rfl rfl
      rw [if_neg (by rw [wanted_some rfl rfl eg]; exact Bool.noConfusion)]
      exact rfl
    · unfold Ask2
      rw [if_neg (by decide)]
      intro a u jj hx hd hr
      have eg : a.eval (.tmp 98) = .bool false := hd 3 98 rfl rfl
      rw [if_neg (by rw [wanted_some rfl rfl eg]; exact Bool.noConfusion)]
      exact rfl
    · unfold Ask2
      rw [if_neg (by decide)]
      intro a u jj hx hd hr
      have eg : a.eval (.tmp 98) = .bool false := hd 3 98 rfl rfl
      rw [if_neg (by rw [wanted_some rfl rfl eg]; exact Bool.noConfusion)]
      exact rfl
    · unfold Ask2
      rw [if_neg (by decide)]
      intro a u jj hx hd hr
      have eg : a.eval (.tmp 98) = .bool false := hd 3 98 rfl rfl
      rw [if_neg (by rw [wanted_some rfl rfl eg]; exact Bool.noConfusion)]
      exact rfl
    · unfold Ask2
      rw [if_neg (by decide)]
      intro a u jj hx hd hr
      have eg : a.eval (.tmp 98) = .bool false := hd 3 98 rfl rfl
      rw [if_neg (by rw [wanted_some rfl rfl eg]; exact Bool.noConfusion)]
      exact rfl
    · unfold Ask2
      rw [if_neg (by decide)]
      intro a u jj hx hd hr
      have eg : a.eval (.tmp 98) = .bool false := hd 3 98 rfl rfl
      rw [if_neg (by rw [wanted_some rfl rfl eg]; exact Bool.noConfusion)]
      exact rfl
    · unfold Ask2
      rw [if_neg (by decide)]
      intro a u jj hx hd hr
      have eg : a.eval (.tmp 98) = .bool false := hd 3 98 rfl rfl
      rw [if_neg (by rw [wanted_some rfl rfl eg]; exact Bool.noConfusion)]
      exact rfl
    · unfold Ask2
      rw [if_neg (by decide)]
      intro a u jj hx hd hr
      rw [if_pos (wanted_none rfl)]
      have e98 : a.eval (.tmp 98) = .bool false := hd 3 98 rfl rfl
      exact Y_pick rfl e98 rfl
  intro f w13 hS9 hG0
  have hG : f 16 = .bool false := hG0
  simp only [puts, Act.put, List.setIfInBounds_toArray, List.set_cons_succ, List.set_cons_zero, Nat.zero_add, Nat.reduceAdd, hG]
  generalize f 0 = z0
  generalize f 1 = z1
  generalize f 2 = z2
  generalize f 3 = z3
  generalize f 4 = z4
  generalize f 5 = z5
  generalize f 6 = z6
  generalize f 7 = z7
  generalize f 8 = z8
  generalize f 9 = z9
  generalize f 10 = z10
  generalize f 11 = z11
  generalize f 12 = z12
  generalize f 13 = z13
  generalize f 14 = z14
  generalize f 15 = z15
  clear hG hG0 f
  have x13 : Ext w1 w13 := (hSi _ _ hS9).1
  clear D21 D23 S2x S20 hSi hSo hS9 S2 HL8 HBK
  have hA13 : Bs w13 A c b := Sl.below hA1 x13
  go_wp2_with fail
  refine (own_any A c b _ hA13 (by omega)).mono ?_
  rintro e w14 ⟨v14, rfl, hown14, hx14⟩
  obtain ⟨A14, c14, rfl, hb14, hs14, hge14⟩ := str_of hown14
  clear hs14 hown14
  go_wp2_with fail
  refine (read_any A14 c14 b _ hb14 (by omega)).mono ?_
  rintro e w15 ⟨g9, A15, c15, rfl, hg9, h15, hA15, hx15⟩
  go_wp2_with fail
  obtain ⟨s9, hs9⟩ : ∃ s, s = (blockR ⟨b, 0, 0⟩).1 := ⟨_, rfl⟩
  obtain ⟨q9, hq9⟩ : ∃ q, q = (blockR ⟨b, 0, 0⟩).2 := ⟨_, rfl⟩
  have hsb : (blockR ⟨b, 0, 0⟩).1.bs = b := blockR_bs _
  have hback := blockR_back b
  rw [← hs9] at hsb
  rw [← hs9, ← hq9] at hback
  have HBK := Lib.hid hback
  refine (rblock_any g9 A15 c15 ⟨b, 0, 0⟩ _ h15 (by simp only; omega)).mono ?_
  rw [← hs9, ← hq9, hsb]
  have HSB := Lib.hid hsb
  clear hs9 hq9 hsb hback
  obtain ⟨e9, he9⟩ : ∃ e, e = s9.e := ⟨_, rfl⟩
  obtain ⟨k9, hk9⟩ : ∃ k, k = s9.p := ⟨_, rfl⟩
  rw [← he9, ← hk9]
  rw [← he9, ← hk9] at HBK
  rintro e w16 ⟨A16, c16, rfl, h16, hgr16, hb16, hge16⟩
  have x14 : Ext w1 w14 := Ext.trans x13 hx14
  have x15 : Ext w1 w15 := Ext.trans x14 hx15
  have hg9' : w1.heap.size ≤ g9 := Nat.le_trans x14.size hg9
  have x16 : Ext w1 w16 := x15.grown hgr16 x15.size (by rintro k ⟨⟩; exact hg9')
  have hlt9 : g9 < w15.heap.size := h15.lt
  clear he9 hk9 HSB hgr16 hx15 hx14 hb14 hge14 hA15 h15 x15 x14
  go_wp2_with fail
  obtain ⟨S3, hSdef⟩ : ∃ S : Nat → World → Prop, S = fun j u => Ext w16 u ∧ Rdr u g9 A15 c15 b k9 e9 := ⟨_, rfl⟩
  have hSi : ∀ j u, S3 j u → Ext w16 u ∧ Rdr u g9 A15 c15 b k9 e9 := fun j u h => by rw [hSdef] at h; exact h
  have hSo : ∀ j u, Ext w16 u → Rdr u g9 A15 c15 b k9 e9 → S3 j u := fun j u h1 h2 => by rw [hSdef]; exact ⟨h1, h2⟩
  clear hSdef
  have S3x : ∀ j u u', S3 j u → Ext u u' → S3 j u' := fun j u u' h hx => hSo j u' (Ext.trans (hSi j u h).1 hx) ((hSi j u h).2.ext hx)
  have S30 : S3 0 w16 := hSo 0 w16 (Ext.refl _) h16
  obtain ⟨L9, hL9⟩ : ∃ L, L = b.length - k9 := ⟨_, rfl⟩
  have hb20 : ∀ j u, S3 j u → IsG g9 q9 (.slice A16 q9.length c16) u := fun j u h => ⟨A16, c16, rfl, Sl.below hb16 (hSi j u h).1, fun a ha _ => by have := hge16 a ha; omega⟩
  have D21 : ∀ j u, S3 j u → Calls Try.prog 21 #[.pointer (some ⟨g9, 0, none⟩)] u fun e u' => ∃ v, e = .returned v ∧ (FactG.val (g := g9) (.int .i64 (e9 : Int))).holds v u' ∧ Ext u u' := fun j u h => by
    refine (err_any g9 A15 c15 b k9 e9 u (hSi j u h).2).mono ?_
    rintro e u' ⟨rfl, rfl⟩
    exact ⟨_, rfl, rfl, Ext.refl u⟩
  have D23 : ∀ j u, S3 j u → Calls Try.prog 23 #[.pointer (some ⟨g9, 0, none⟩)] u fun e u' => ∃ v, e = .returned v ∧ (FactG.val (g := g9) (.int .i64 (L9 : Int))).holds v u' ∧ Ext u u' := fun j u h => by
    refine (left_any g9 A15 c15 b k9 e9 u (hSi j u h).2).mono ?_
    rw [← hL9]
    rintro e u' ⟨rfl, k', rfl⟩
    exact ⟨_, rfl, rfl, ⟨rfl, rfl, rfl, Nat.le_refl _, fun _ _ => rfl⟩⟩
  have HL9 := Lib.hid hL9
  clear hL9
  refine wp_region_two g9 [FactG.val (.pointer (some ⟨g9, 0, none⟩)), FactG.val (.int .i64 0), FactG.val (.bool false), FactG.val (.bool false), FactG.bytes (q9), FactG.bytes (num q9.length ++ q9), FactG.val (.string ⟨(num q9.length ++ q9).toArray⟩), FactG.val (.slice A b.length c), FactG.val (.slice A b.length c), FactG.val (.int .i64 (b.length : Int)), FactG.val (.pointer (some ⟨g9, 0, none⟩)), FactG.val (.int .i64 (L9 : Int)), FactG.val (.int .i64 (k9 : Int)), FactG.bytes (num q9.length ++ q9), FactG.val (.string ⟨(num q9.length ++ q9).toArray⟩), FactG.val (.bool true), FactG.val (.bool true), FactG.val (.bool true)] S3 [] _ (e9 = 0) [FactG.val (.pointer (some ⟨g9, 0, none⟩)), FactG.val (.int .i64 (e9 : Int)), FactG.val (.bool true), FactG.val (.bool true), FactG.val (undef), FactG.val (undef), FactG.val (undef), FactG.val (undef), FactG.val (undef), FactG.val (undef), FactG.val (undef), FactG.val (undef), FactG.val (undef), FactG.val (undef), FactG.val (undef), FactG.val (undef), FactG.val (.bool true), FactG.val (.bool true)] (fun f => f 17 = .bool true) (by kernel_rfl) (by kernel_rfl) (by kernel_rfl) rfl S3x S30 ?_ ?_ (fun _ f w' hF => hF 17 12 rfl) (fun _ f w' hF => hF 17 12 rfl) ?_
  · intro hc
    obtain ⟨hbk, hk9, hq9⟩ := HBK.out hc
    have hL := HL9.out
    have hsub : (b.length : Int) - (L9 : Int) = (k9 : Int) := by omega
    clear hL
    have D21a : ∀ j u, S3 j u → Calls Try.prog 21 #[.pointer (some ⟨g9, 0, none⟩)] u fun e u' => ∃ v, e = .returned v ∧ (FactG.val (g := g9) (.int .i64 0)).holds v u' ∧ Ext u u' := fun j u h => by
      have := D21 j u h
      rw [hc] at this
      exact this
    have D12 : ∀ j u v, S3 j u → IsG g9 q9 v u → Calls Try.prog 12 #[.slice none 0 0, v] u fun e u' => ∃ v, e = .returned v ∧ (FactG.bytes (g := g9) (num q9.length ++ q9)).holds v u' ∧ Ext u u' := fun j u v h hv => by
      obtain ⟨Av, cv, rfl, hbv, _⟩ := hv
      refine (block_any none 0 [] Av cv q9 u (Sl.nil _ _) hbv (by simp; omega)).mono ?_
      rw [List.nil_append]
      rintro e u' ⟨v, rfl, ho, hx⟩
      exact ⟨v, rfl, own_G ho (hSi j u h).2.lt, hx⟩
    have hnl : (num q9.length ++ q9).length = k9 := by rw [hbk]; simp; omega
    have hkc : k9 ≤ c := by have := hA1.le; omega
    have hcutb : ∀ j u, S3 j u → IsG g9 (num q9.length ++ q9) (.slice A k9 c) u := fun j u h => by
      refine ⟨A, c, by rw [hnl], ?_, fun a ha hp => ?_⟩
      · rw [hbk]
        exact Bs.take (Sl.below hA1 (Ext.trans x16 (hSi j u h).1)) k9 hk9
      · have hbne : b ≠ [] := by rintro rfl; exact hp (by rw [hbk]; simp)
        have := Sl.lt hA1 ha (by simpa using hbne)
        omega
    have hw63 : IntKind.i64.wrap (k9 : Int) = (k9 : Int) := wrap63 k9 (by omega)
    have HBK2 := Lib.hid hbk
    clear hbk
    have HNL := Lib.hid hnl
    clear hnl
    refine ⟨?_, ?_, ?_, ?_, ?_, ?_, ?_, ?_, ?_, ?_, ?_, ?_, ?_, ?_, ?_, ?_, ?_, ?_, trivial⟩
    · unfold Ask2
      rw [if_neg (by decide)]
      intro a u jj hx hd hr
      rw [if_pos (wanted_none rfl)]
      have e19 : a.eval (.tmp 19) = .pointer (some ⟨g9, 0, none⟩) := hr 19 rfl
      exact Y_copy (.inl rfl) e19
    · unfold Ask2
      rw [if_neg (by decide)]
      intro a u jj hx hd hr
      rw [if_pos (wanted_none rfl)]
      have e117 : a.eval (.tmp 117) = .pointer (some ⟨g9, 0, none⟩) := hd 0 117 rfl rfl
      clear hd hr
      refine Y_calls (f := 21) (args := #[(a.eval (.tmp 117))]) (by go_simp) ?_
      rw [e117]
      exact D21a _ _ hx
    · unfold Ask2
      rw [if_neg (by decide)]
      intro a u jj hx hd hr
      rw [if_pos (wanted_none rfl)]
      have e118 : a.eval (.tmp 118) = .int .i64 0 := hd 1 118 rfl rfl
      clear hd hr
      simp only [Act.eval, Array.getD_eq_getD_getElem?] at e118
      exact Y_val (v := .bool false) (by go_simp) rfl
    · unfold Ask2
      rw [if_neg (by decide)]
      intro a u jj hx hd hr
      rw [if_pos (wanted_none rfl)]
      have e119 : a.eval (.tmp 119) = .bool false := hd 2 119 rfl rfl
      exact Y_copy (.inl rfl) e119
    · unfold Ask2
      rw [if_neg (by decide)]
      intro a u jj hx hd hr
      have eg : a.eval (.tmp 120) = .bool false := hd 3 120 rfl rfl
      rw [if_pos (by rw [wanted_some rfl rfl eg]; rfl)]
      have e20 : IsG g9 (q9) (a.eval (.tmp 20)) u := by rw [hr 20 rfl]; exact hb20 _ _ hx
      exact Y_copy (.inl rfl) e20
    · unfold Ask2
      rw [if_neg (by decide)]
      intro a u jj hx hd hr
      have eg : a.eval (.tmp 120) = .bool false := hd 3 120 rfl rfl
      rw [if_pos (by rw [wanted_some rfl rfl eg]; rfl)]
      have e121 : IsG g9 (q9) (a.eval (.tmp 121)) u := hd 4 121 rfl rfl
      clear hd hr
      refine Y_calls (f := 12) (args := #[.slice none 0 0, (a.eval (.tmp 121))]) (by go_simp) ?_
      exact D12 _ _ _ hx e121
    · unfold Ask2
      rw [if_neg (by decide)]
      intro a u jj hx hd hr
      have eg : a.eval (.tmp 120) = .bool false := hd 3 120 rfl rfl
      rw [if_pos (by rw [wanted_some rfl rfl eg]; rfl)]
      have e122 : IsG g9 (num q9.length ++ q9) (a.eval (.tmp 122)) u := hd 5 122 rfl rfl
      exact Y_str rfl e122.isB Try.underlying24 Try.underlying5 Try.underlying9 rfl
    · unfold Ask2
      rw [if_neg (by decide)]
      intro a u jj hx hd hr
      have eg : a.eval (.tmp 120) = .bool false := hd 3 120 rfl rfl
      rw [if_pos (by rw [wanted_some rfl rfl eg]; rfl)]
      have e0 : a.eval (.tmp 0) = .slice A b.length c := hr 0 rfl
      exact Y_copy (.inl rfl) e0
    · unfold Ask2
      rw [if_neg (by decide)]
      intro a u jj hx hd hr
      have eg : a.eval (.tmp 120) = .bool false := hd 3 120 rfl rfl
      rw [if_pos (by rw [wanted_some rfl rfl eg]; rfl)]
      have e0 : a.eval (.tmp 0) = .slice A b.length c := hr 0 rfl
      exact Y_copy (.inl rfl) e0
    · unfold Ask2
      rw [if_neg (by decide)]
      intro a u jj hx hd hr
      have eg : a.eval (.tmp 120) = .bool false := hd 3 120 rfl rfl
      rw [if_pos (by rw [wanted_some rfl rfl eg]; rfl)]
      have e125 : a.eval (.tmp 125) = .slice A b.length c := hd 8 125 rfl rfl
      clear hd hr
      simp only [Act.eval, Array.getD_eq_getD_getElem?] at e125
      exact Y_val (v := .int .i64 (b.length : Int)) (by go_simp) rfl
    · unfold Ask2
      rw [if_neg (by decide)]
      intro a u jj hx hd hr
      have eg : a.eval (.tmp 120) = .bool false := hd 3 120 rfl rfl
      rw [if_pos (by rw [wanted_some rfl rfl eg]; rfl)]
      have e19 : a.eval (.tmp 19) = .pointer (some ⟨g9, 0, none⟩) := hr 19 rfl
      exact Y_copy (.inl rfl) e19
    · unfold Ask2
      rw [if_neg (by decide)]
      intro a u jj hx hd hr
      have eg : a.eval (.tmp 120) = .bool false := hd 3 120 rfl rfl
      rw [if_pos (by rw [wanted_some rfl rfl eg]; rfl)]
      have e127 : a.eval (.tmp 127) = .pointer (some ⟨g9, 0, none⟩) := hd 10 127 rfl rfl
      clear hd hr
      refine Y_calls (f := 23) (args := #[(a.eval (.tmp 127))]) (by go_simp) ?_
      rw [e127]
      exact D23 _ _ hx
    · unfold Ask2
      rw [if_neg (by decide)]
      intro a u jj hx hd hr
      have eg : a.eval (.tmp 120) = .bool false := hd 3 120 rfl rfl
      rw [if_pos (by rw [wanted_some rfl rfl eg]; rfl)]
      have e126 : a.eval (.tmp 126) = .int .i64 (b.length : Int) := hd 9 126 rfl rfl
      have e128 : a.eval (.tmp 128) = .int .i64 (L9 : Int) := hd 11 128 rfl rfl
      clear hd hr
      simp only [Act.eval, Array.getD_eq_getD_getElem?] at e126 e128
      exact Y_val (v := .int .i64 (k9 : Int)) (by go_simp) rfl
    · unfold Ask2
      rw [if_neg (by decide)]
      intro a u jj hx hd hr
      have eg : a.eval (.tmp 120) = .bool false := hd 3 120 rfl rfl
      rw [if_pos (by rw [wanted_some rfl rfl eg]; rfl)]
      have e124 : a.eval (.tmp 124) = .slice A b.length c := hd 7 124 rfl rfl
      have e129 : a.eval (.tmp 129) = .int .i64 (k9 : Int) := hd 12 129 rfl rfl
      clear hd hr
      simp only [Act.eval, Array.getD_eq_getD_getElem?] at e124 e129
      exact Y_val (v := .slice A k9 c) (by go_simp) (hcutb _ _ hx)
    · unfold Ask2
      rw [if_neg (by decide)]
      intro a u jj hx hd hr
      have eg : a.eval (.tmp 120) = .bool false := hd 3 120 rfl rfl
      rw [if_pos (by rw [wanted_some rfl rfl eg]; rfl)]
      have e130 : IsG g9 (num q9.length ++ q9) (a.eval (.tmp 130)) u := hd 13 130 rfl rfl
      exact Y_str rfl e130.isB Try.underlying24 Try.underlying5 Try.underlying9 rfl
    · unfold Ask2
      rw [if_neg (by decide)]
      intro a u jj hx hd hr
      have eg : a.eval (.tmp 120) = .bool false := hd 3 120 rfl rfl
      rw [if_pos (by rw [wanted_some rfl rfl eg]; rfl)]
      have e123 : a.eval (.tmp 123) = .string ⟨(num q9.length ++ q9).toArray⟩ := hd 6 123 rfl rfl
      have e131 : a.eval (.tmp 131) = .string ⟨(num q9.length ++ q9).toArray⟩ := hd 14 131 rfl rfl
      clear hd hr
      simp only [Act.eval, Array.getD_eq_getD_getElem?] at e123 e131
      exact Y_val (v := .bool true) (by go_simp) rfl
    · unfold Ask2
      rw [if_neg (by decide)]
      intro a u jj hx hd hr
      rw [if_pos (wanted_none rfl)]
      have e120 : a.eval (.tmp 120) = .bool false := hd 3 120 rfl rfl
      have e132 : a.eval (.tmp 132) = .bool true := hd 15 132 rfl rfl
      exact Y_pick rfl e120 e132
    · unfold Ask2
      rw [if_neg (by decide)]
      intro a u jj hx hd hr
      rw [if_pos (wanted_none rfl)]
      have e133 : a.eval (.tmp 133) = .bool true := hd 16 133 rfl rfl
      exact Y_copy (.inr rfl) e133
  · intro hc
    have hz2 : ((e9 : Int) != 0) = true := by simp; omega
    refine ⟨?_, ?_, ?_, ?_, ?_, ?_, ?_, ?_, ?_, ?_, ?_, ?_, ?_, ?_, ?_, ?_, ?_, ?_, trivial⟩
    · unfold Ask2
      rw [if_neg (by decide)]
      intro a u jj hx hd hr
      rw [if_pos (wanted_none rfl)]
      have e19 : a.eval (.tmp 19) = .pointer (some ⟨g9, 0, none⟩) := hr 19 rfl
      exact Y_copy (.inl rfl) e19
    · unfold Ask2
      rw [if_neg (by decide)]
      intro a u jj hx hd hr
      rw [if_pos (wanted_none rfl)]
      have e117 : a.eval (.tmp 117) = .pointer (some ⟨g9, 0, none⟩) := hd 0 117 rfl rfl
      clear hd hr
      refine Y_calls (f := 21) (args := #[(a.eval (.tmp 117))]) (by go_simp) ?_
      rw [e117]
      exact D21 _ _ hx
    · unfold Ask2
      rw [if_neg (by decide)]
      intro a u jj hx hd hr
      rw [if_pos (wanted_none rfl)]
      have e118 : a.eval (.tmp 118) = .int .i64 (e9 : Int) := hd 1 118 rfl rfl
      clear hd hr
      simp only [Act.eval, Array.getD_eq_getD_getElem?] at e118
      exact Y_val (v := .bool true) (by go_simp) rfl
    · unfold Ask2
      rw [if_neg (by decide)]
      intro a u jj hx hd hr
      rw [if_pos (wanted_none rfl)]
      have e119 : a.eval (.tmp 119) = .bool true := hd 2 119 rfl rfl
      exact Y_copy (.inl rfl) e119
    · unfold Ask2
      rw [if_neg (by decide)]
      intro a u jj hx hd hr
      have eg : a.eval (.tmp 120) = .bool true := hd 3 120 rfl rfl
      rw [if_neg (by rw [wanted_some rfl rfl eg]; exact Bool.noConfusion)]
      exact rfl
    · unfold Ask2
      rw [if_neg (by decide)]
      intro a u jj hx hd hr
      have eg : a.eval (.tmp 120) = .bool true := hd 3 120 rfl rfl
      rw [if_neg (by rw [wanted_some rfl rfl eg]; exact Bool.noConfusion)]
      exact rfl
    · unfold Ask2
      rw [if_neg (by decide)]
      intro a u jj hx hd hr
      have eg : a.eval (.tmp 120) = .bool true := hd 3 120 rfl rfl
      rw [if_neg (by rw [wanted_some rfl rfl eg]; exact Bool.noConfusion)]
      exact rfl
    · unfold Ask2
      rw [if_neg (by decide)]
      intro a u jj hx hd hr
      have eg : a.eval (.tmp 120) = .bool true := hd 3 120 rfl rfl
      rw [if_neg (by rw [wanted_some rfl rfl eg]; exact Bool.noConfusion)]
      exact rfl
    · unfold Ask2
      rw [if_neg (by decide)]
      intro a u jj hx hd hr
      have eg : a.eval (.tmp 120) = .bool true := hd 3 120 rfl rfl
      rw [if_neg (by rw [wanted_some rfl rfl eg]; exact Bool.noConfusion)]
      exact rfl
    · unfold Ask2
      rw [if_neg (by decide)]
      intro a u jj hx hd hr
      have eg : a.eval (.tmp 120) = .bool true := hd 3 120 rfl rfl
      rw [if_neg (by rw [wanted_some rfl rfl eg]; exact Bool.noConfusion)]
      exact rfl
    · unfold Ask2
      rw [if_neg (by decide)]
      intro a u jj hx hd hr
      have eg : a.eval (.tmp 120) = .bool true := hd 3 120 rfl rfl
      rw [if_neg (by rw [wanted_some rfl rfl eg]; exact Bool.noConfusion)]
      exact rfl
    · unfold Ask2
      rw [if_neg (by decide)]
      intro a u jj hx hd hr
      have eg : a.eval (.tmp 120) = .bool true := hd 3 120 rfl rfl
      rw [if_neg (by rw [wanted_some rfl rfl eg]; exact Bool.noConfusion)]
      exact rfl
    · unfold Ask2
      rw [if_neg (by decide)]
      intro a u jj hx hd hr
      have eg : a.eval (.tmp 120) = .bool true := hd 3 120 rfl rfl
      rw [if_neg (by rw [wanted_some rfl rfl eg]; exact Bool.noConfusion)]
      exact rfl
    · unfold Ask2
      rw [if_neg (by decide)]
      intro a u jj hx hd hr
      have eg : a.eval (.tmp 120) = .bool true := hd 3 120 rfl rfl
      rw [if_neg (by rw [wanted_some rfl rfl eg]; exact Bool.noConfusion)]
      exact rfl
    · unfold Ask2
      rw [if_neg (by decide)]
      intro a u jj hx hd hr
      have eg : a.eval (.tmp 120) = .bool true := hd 3 120 rfl rfl
      rw [if_neg (by rw [wanted_some rfl rfl eg]; exact Bool.noConfusion)]
      exact rfl
    · unfold Ask2
      rw [if_neg (by decide)]
      intro a u jj hx hd hr
      have eg : a.eval (.tmp 120) = .bool true := hd 3 120 rfl rfl
      rw [if_neg (by rw [wanted_some rfl rfl eg]; exact Bool.noConfusion)]
      exact rfl
    · unfold Ask2
      rw [if_neg (by decide)]
      intro a u jj hx hd hr
      rw [if_pos (wanted_none rfl)]
      have e120 : a.eval (.tmp 120) = .bool true := hd 3 120 rfl rfl
      exact Y_pick rfl e120 rfl
    · unfold Ask2
      rw [if_neg (by decide)]
      intro a u jj hx hd hr
      rw [if_pos (wanted_none rfl)]
      have e133 : a.eval (.tmp 133) = .bool true := hd 16 133 rfl rfl
      exact Y_copy (.inr rfl) e133
  intro f w17 hS9 hG0
  have hG : f 17 = .bool true := hG0
  simp only [puts, Act.put, List.setIfInBounds_toArray, List.set_cons_succ, List.set_cons_zero, Nat.zero_add, Nat.reduceAdd, hG]
  generalize f 0 = z0
  generalize f 1 = z1
  generalize f 2 = z2
  generalize f 3 = z3
  generalize f 4 = z4
  generalize f 5 = z5
  generalize f 6 = z6
  generalize f 7 = z7
  generalize f 8 = z8
  generalize f 9 = z9
  generalize f 10 = z10
  generalize f 11 = z11
  generalize f 12 = z12
  generalize f 13 = z13
  generalize f 14 = z14
  generalize f 15 = z15
  generalize f 16 = z16
  clear hG hG0 f
  have x17 : Ext w w17 := Ext.trans x01 (Ext.trans x16 (hSi _ _ hS9).1)
  clear D21 D23 S3x S30 hSi hSo hS9 S3 HL9 HBK hb20
  go_wp2_with fail
  go_ret
  exact ⟨rfl, x17⟩

theorem back_row (A : Option Addr) (c : Nat) (b : List UInt8) (B : Option Addr) (c' : Nat) (p : List UInt8) (n m : Int) (dl : List UInt8) (size : Int) (w : World) (hA : Bs w A c b) (hB : Bs w B c' p) (hn : (Lit.int .u64 n).wf = true) (hm : (Lit.int .u64 m).wf = true) (hdl : dl.length = 32) (hz : (Lit.int .i64 size).wf = true) :
    Calls Try.prog 7 #[.slice A b.length c, .slice B p.length c', .int .u64 n, .int .u64 m, .agg (dg dl), .int .i64 size] w fun e w' => e = .returned (.bool true) ∧ Below w.heap.size w w' := by
  have h0 := bounds_u64 hn
  have h1 := bounds_u64 hm
  have h2 := bounds_i64 hz
  obtain ⟨n, rfl⟩ := Int.eq_ofNat_of_zero_le h0.1
  obtain ⟨m, rfl⟩ := Int.eq_ofNat_of_zero_le h1.1
  have a1 := hA.le
  have a2 := hA.max
  have b1 := hB.le
  have b2 := hB.max
  unfold maxLen at a2 b2
  exact back_walk A c b B c' p n m dl size w hA hB (by omega) (by omega) hdl (by omega) (by omega) (by omega) (by omega)
end Go.Proofs.Ytglekpigobingaa
