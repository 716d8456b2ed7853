import Derived.Test.YtigcfbpgbenabaaRgP
import Derived.Maps.OwnOps
namespace Go.Proofs.Ytigcfbpgbenabaa
open Go.RowKit Go.Maps

theorem pick_any (n : Int) (w : World) (h1 : -9223372036854775808 ≤ n) (h2 : n ≤ 9223372036854775807) :
    Calls Try.prog 23 #[.int .i64 n, .int .i64 65536] w fun e w' => e = .returned (.int .i64 (n % 65536)) ∧ w' = w := by
  have ht : (0 ≤ n ∧ n.tmod 65536 = n % 65536) ∨ (n < 0 ∧ n.tmod 65536 = -((-n) % 65536)) := by
    rcases (show n < 0 ∨ 0 ≤ n by omega) with h | h
    · right
      refine ⟨h, ?_⟩
      have : n = -(-n) := by omega
      rw [this, Int.neg_tmod, Int.tmod_eq_emod_of_nonneg (by omega), Int.neg_neg]
    · left
      exact ⟨h, Int.tmod_eq_emod_of_nonneg h⟩
  by_cases hs : n.tmod 65536 < 0
  · have hw : IntKind.i64.wrap (n.tmod 65536 + 65536) = n % 65536 := by rw [IntKind.wrap_i64]; omega
    have hw2 : IntKind.i64.wrap (n.tmod 65536) = n.tmod 65536 := by rw [IntKind.wrap_i64]; omega
    clear ht
    go_enter Try.func23, Try.ntmps23
    go_wp2_with fail
    go_ret
    exact ⟨rfl, rfl⟩
  · have hw : n.tmod 65536 = n % 65536 := by omega
    have HW := Lib.hid hw
    clear hw
    have hw2 : IntKind.i64.wrap (n.tmod 65536) = n.tmod 65536 := by rw [IntKind.wrap_i64]; omega
    rw [← HW.out]
    clear ht
    go_enter Try.func23, Try.ntmps23
    go_wp2_with fail
    go_ret
    exact ⟨rfl, rfl⟩

/-- numbers, each once, in order -/
def onceI (l : List Int) : List Int := l.foldl (fun acc x => if x % 65536 ∈ acc then acc else acc ++ [x % 65536]) []
theorem onceI_succ {l : List Int} {j : Nat} (h : j < l.length) : onceI (l.take (j + 1)) = if l[j] % 65536 ∈ onceI (l.take j) then onceI (l.take j) else onceI (l.take j) ++ [l[j] % 65536] := by
  rw [List.take_add_one, List.getElem?_eq_getElem h]
  unfold onceI
  rw [List.foldl_append]
  rfl
theorem onceI_len (l : List Int) : ∀ j, (onceI (l.take j)).length ≤ j
  | 0 => by simp [onceI]
  | j + 1 => by
    have ih := onceI_len l j
    rcases Nat.lt_or_ge j l.length with h | h
    · rw [onceI_succ h]
      split
      · omega
      · rw [List.length_append, List.length_singleton]; omega
    · have e : l.take (j + 1) = l.take j := by rw [List.take_of_length_le h, List.take_of_length_le (by omega)]
      rw [e]; omega

theorem keyed3 : Keyed Try.prog 3 := int_keyed Try.underlying3
/-- block b tells which numbers were seen -/
def NumHas (w : World) (b n : Nat) (seen : List Int) : Prop :=
  ∃ D : DataW Unit, w.ownsMap Try.prog 3 (plainElem Try.prog 3) b n D ∧ ∀ x : Int, 0 ≤ x → x < 65536 → D.atKey (.int .i64 x) (.lit (.int .i64 0)) = .lit (.int .i64 (if x ∈ seen then 1 else 0))
theorem NumHas.kept {w w' : World} {b n : Nat} {seen : List Int} {row : Option Nat} (h : NumHas w b n seen) (hg : w.grownBy w' row) (hne : some b ≠ row) : NumHas w' b n seen := by
  obtain ⟨D, h1, h2⟩ := h
  exact ⟨D, h1.kept hg hne, h2⟩
theorem key3 (x : Int) (h1 : 0 ≤ x) (h2 : x < 65536) : keyOf Try.prog 3 (.int .i64 x) = some (.int .i64 x) :=
  keyOf_int_mk Try.underlying3 (by
    show (decide (IntKind.i64.min ≤ x) && decide (x ≤ IntKind.i64.max)) = true
    rw [Bool.and_eq_true]
    exact ⟨decide_eq_true (by show (-9223372036854775808 : Int) ≤ x; omega), decide_eq_true (by show x ≤ (9223372036854775807 : Int); omega)⟩)
theorem own_base {w : World} {base base' : Nat} {e : TypeId} {sz : Nat} {v : Value} {n : Nat} {cs : List Value} (h : w.ownsRow base e sz v n cs) (hb : base' ≤ base) : w.ownsRow base' e sz v n cs := by
  obtain ⟨h1, h2⟩ := h
  refine ⟨h1, ?_⟩
  rcases h2 with h2 | ⟨g, cap, cur, a, b, c⟩
  · exact .inl h2
  · exact .inr ⟨g, cap, cur, a, Nat.le_trans hb b, c⟩
theorem zero_int : (Try.prog.info? 3).map (fun i => (i.zero, i.size, i.bytes)) = some (some (.int .i64 0), 1, 8) := by kernel_rfl

set_option maxHeartbeats 2000000 in
theorem oncelaw_any (A : Option Addr) (c : Nat) (l : List Int) (w : World) (hA : Is w A c l) (hl : l.length ≤ 1000000) (hr : ∀ x ∈ l, -9223372036854775808 ≤ x ∧ x ≤ 9223372036854775807) :
    Calls Try.prog 10 #[.slice A l.length c] w fun e w' => ∃ v, e = .returned v ∧ w'.ownsRow w.heap.size 3 1 v (onceI l).length ((onceI l).map iv) ∧ Ext w w' := by
  have hmk : (Instr.makeMap 50 none).run Try.prog w = .ok (.map (some w.heap.size)) (w.alloc (.map #[] 0)) := by kernel_rfl
  obtain ⟨i0, hi0, hz0, hz1, hz2⟩ := info_parts zero_int
  have HI := Lib.hid hi0
  have HZ0 := Lib.hid hz0
  have HZ1 := Lib.hid hz1
  have HZ2 := Lib.hid hz2
  have hze : ∀ u : World, (zeroValue 3).run Try.prog u = .ok (.int .i64 0) u := fun u => by kernel_rfl
  have HZE := Lib.hid hze
  clear hi0 hz0 hz1 hz2 hze
  go_enter Try.func10, Try.ntmps10
  go_wp2_with fail
  clear hmk
  have hS0 : NumHas (w.alloc (.map #[] 0)) w.heap.size 0 [] := ⟨.map [], World.ownsMap_made w Try.prog 3 (plainElem Try.prog 3), fun v _ _ => by simp [DataW.atKey]⟩
  have x0 : Ext w (w.alloc (.map #[] 0)) := (Below.refl _ w).alloc (Nat.le_refl _) _
  have hsz0 : w.heap.size + 1 ≤ (w.alloc (.map #[] 0)).heap.size := by simp only [World.alloc, Array.size_push]; omega
  generalize w.alloc (.map #[] 0) = w0 at *
  go_loopw [3, 5] (fun v i wr => ∃ j : Nat, j ≤ l.length ∧ i = .int .i64 (j : Int) ∧ wr.ownsRow (w.heap.size + 1) 3 1 v (onceI (l.take j)).length ((onceI (l.take j)).map iv) ∧ NumHas wr w.heap.size j (onceI (l.take j)) ∧ Ext w wr ∧ w.heap.size + 1 ≤ wr.heap.size) (fun _ i _ => l.length - (intOf i).toNat)
  case atStart => exact ⟨0, by omega, rfl, World.ownsRow_nil .., hS0, x0, hsz0⟩
  case round =>
    obtain ⟨j, hj, rfl, hown, hS, hwr, hsz⟩ := hrel
    by_cases hjl : j < l.length
    · have hAr : Is wr A c l := Sl.below hA hwr
      obtain ⟨b1, o1, rfl, hr2⟩ := hAr.at (by omega)
      have hr1 := hr2 j hjl
      obtain ⟨z, hz⟩ : ∃ z, z = l[j] := ⟨_, rfl⟩
      have hzr := hr l[j] (List.getElem_mem hjl)
      rw [← hz] at hr1 hzr
      have HZ := Lib.hid hz
      clear hz hr2 hAr
      go_wp2_with fail
      refine (pick_any z wr hzr.1 hzr.2).mono ?_
      rintro e w' ⟨rfl, rfl⟩
      have HS := onceI_succ hjl
      rw [← HZ.out] at HS
      have HS := Lib.hid HS
      have hlen := onceI_len l j
      obtain ⟨acc, hacc⟩ : ∃ acc, acc = onceI (l.take j) := ⟨_, rfl⟩
      rw [← hacc] at hown hS HS hlen
      clear hacc
      obtain ⟨k, hk⟩ : ∃ k, k = z % 65536 := ⟨_, rfl⟩
      rw [← hk] at HS ⊢
      have hk0 : 0 ≤ k := by omega
      have hk1 : k < 65536 := by omega
      clear hk
      have HK := Lib.hid (key3 k hk0 hk1)
      obtain ⟨D, hownM, hD⟩ := hS
      have hDk := hD k hk0 hk1
      by_cases hm : k ∈ acc
      · rw [if_pos hm] at hDk
        have HS2 : onceI (l.take (j + 1)) = acc := by rw [HS.out, if_pos hm]
        have HS2 := Lib.hid HS2
        have HM := Lib.hid hm
        clear hm HS
        have HDK := Lib.hid hDk
        clear hDk
        go_wp2_with (first
          | (at_lookup
             refine wpList_lookup_own_int _ rfl _ _ 50 rfl 3 3 .i64 keyed3 Try.underlying50 Try.underlying3 (HZE.out _) _ j D rfl hownM _ _ rfl HK.out ?_
             intro cc hat hwc
             rw [HDK.out] at hat
             obtain rfl : cc = 1 := by simpa using hat.symm
             clear hat hwc))
        go_roundw
        case rel => exact ⟨j + 1, by omega, by go_num, by rw [HS2.out]; exact hown, ⟨D, hownM.mono (by omega), by rw [HS2.out]; exact hD⟩, hwr, hsz⟩
        case measure => simp [intOf]; omega
      · rw [if_neg hm] at hDk
        have HS2 : onceI (l.take (j + 1)) = acc ++ [k] := by rw [HS.out, if_neg hm]
        have HS2 := Lib.hid HS2
        have HM := Lib.hid hm
        clear hm HS
        have HDK := Lib.hid hDk
        clear hDk
        go_wp2_with (first
          | (at_lookup
             refine wpList_lookup_own_int _ rfl _ _ 50 rfl 3 3 .i64 keyed3 Try.underlying50 Try.underlying3 (HZE.out _) _ j D rfl hownM _ _ rfl HK.out ?_
             intro cc hat hwc
             rw [HDK.out] at hat
             obtain rfl : cc = 0 := by simpa using hat.symm
             clear hat hwc)
          | (refine wpList_mapUpdate_own _ rfl _ _ _ 50 rfl 3 3 keyed3 Try.underlying50 _ _ j D rfl hownM (by unfold maxLen; omega) _ _ _ rfl rfl HK.out _ [] (plainElem_int Try.underlying3 (by decide)) ?_
             intro w2 hownM2 hgM2
             have hown2 := hown.kept hgM2 (by
               cases hb : u3.ownBlock with
               | none => left; rfl
               | some q => right; have := (hown.lt q hb).1; intro e; cases e; omega))
          | (at_builtin; go_loud (refine wpList_append_sl _ rfl (.tmp 25) (.tmp 27) 22 rfl (w.heap.size + 1) 3 i0 _ 1 8 Try.underlying22 HI.out HZ0.out HZ1.out HZ2.out (by simp [Value.cells]) (by omega) u3 acc.length (acc.map iv) rfl (hown2.alloc _) (some ⟨w2.heap.size, 0, none⟩) 1 1 [iv k] rfl (Sl.one w2 (iv k) 3) (by intro u hu; rw [List.mem_singleton] at hu; subst hu; rfl) (by unfold maxLen; omega) (by omega) (by have := hgM2.size; simp only [World.alloc, Array.size_push]; omega) ?_); intro v3 w3 hown3 hg3 hat3))
        have hne : ∀ q, u3.ownBlock = some q → w.heap.size + 1 ≤ q := fun q hq => (hown.lt q hq).1
        have hkeep : some w.heap.size ≠ u3.ownBlock := fun e => by have := hne _ e.symm; omega
        have xm : Ext w w2 := Below.grown hwr hgM2 hwr.size (by rintro q ⟨⟩; exact Nat.le_refl _)
        have xa := Below.alloc xm xm.size (Obj.cells #[Value.int IntKind.i64 k] 3)
        have x3 : Ext w w3 := Below.grown xa hg3 xa.size (fun q hq => by have := hne q hq; omega)
        have hsz3 : w.heap.size + 1 ≤ w3.heap.size := by
          have h1 := hg3.size
          have h2 := hgM2.size
          simp only [World.alloc, Array.size_push] at h1
          omega
        have hM3 : NumHas w3 w.heap.size (j + 1) (acc ++ [k]) := by
          refine ⟨_, (hownM2.alloc _).kept hg3 hkeep, fun x hx0 hx1 => ?_⟩
          by_cases hx : x = k
          · subst hx
            rw [atKey_put_same hownM.isMap (keyed3.key HK.out), if_pos (by simp)]
          · rw [atKey_put_other (fun e => hx (by simpa using e)), hD x hx0 hx1]
            simp [hx]
        clear hg3 hgM2 hownM2 hown2 hkeep hne xm xa hat3 hownM hD
        go_roundw
        case rel => exact ⟨j + 1, by omega, by go_num, by rw [HS2.out, List.length_append, List.map_append]; exact hown3, by rw [HS2.out]; exact hM3, x3, hsz3⟩
        case measure => simp [intOf]; omega
    · have : j = l.length := by omega
      subst this
      rw [List.take_length] at hown
      go_wp2_with fail
      go_ret
      exact ⟨_, rfl, own_base hown (by omega), hwr⟩
end Go.Proofs.Ytigcfbpgbenabaa
