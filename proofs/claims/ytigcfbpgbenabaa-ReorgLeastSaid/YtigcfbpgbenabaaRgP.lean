import Derived.Test.YtigcfbpgbenabaaRgO
import Derived.Deep.RegionLaw
namespace Go.Proofs.Ytigcfbpgbenabaa
open Go.RowKit

def iv (x : Int) : Value := .int .i64 x
/-- the slice value '.slice A l.length c' reads as the numbers l -/
def Is (w : World) (A : Option Addr) (c : Nat) (l : List Int) : Prop := Sl w A l.length c 1 (l.map iv)

theorem Is.at {w : World} {A : Option Addr} {c : Nat} {l : List Int} (h : Is w A c l) (h0 : 0 < l.length) : ∃ b o, A = some ⟨b, o, none⟩ ∧ ∀ i (hi : i < l.length), w.cell? ⟨b, o + i, none⟩ = some (.int .i64 l[i]) := by
  cases A with
  | none => have := (Sl.nul h rfl).1; omega
  | some a =>
    have hg : ∀ i (hi : i < l.length), w.cell? (a.add i) = some (.int .i64 l[i]) := fun i hi => Sl.cell h a rfl i _ (by rw [List.getElem?_map, List.getElem?_eq_getElem hi]; rfl)
    have hs := World.cell?_spot (hg 0 h0)
    obtain ⟨b, o, s⟩ := a
    have : s = none := by simpa [Addr.add] using hs
    subst this
    refine ⟨b, o, rfl, fun i hi => ?_⟩
    have := hg i hi
    rwa [Addr.add_mid] at this

/-- the name of a number -/
def nd (z : Int) : List UInt8 := UInt8.ofNat (z % 256).toNat :: UInt8.ofNat (z / 256 % 256).toNat :: 1 :: List.replicate 29 0
theorem nd_length (z : Int) : (nd z).length = 32 := by simp [nd]

theorem nd_byte (x : Int) : ((UInt8.ofNat (x % 256).toNat).toNat : Int) = IntKind.u8.wrap x := by
  rw [IntKind.wrap_u8, UInt8.toNat_ofNat']
  omega
theorem nd_lit (z : Int) : (#[.int .u8 (IntKind.u8.wrap z), .int .u8 (IntKind.u8.wrap (z / 256)), .int .u8 1, .int .u8 0, .int .u8 0, .int .u8 0, .int .u8 0, .int .u8 0, .int .u8 0, .int .u8 0, .int .u8 0, .int .u8 0, .int .u8 0, .int .u8 0, .int .u8 0, .int .u8 0, .int .u8 0, .int .u8 0, .int .u8 0, .int .u8 0, .int .u8 0, .int .u8 0, .int .u8 0, .int .u8 0, .int .u8 0, .int .u8 0, .int .u8 0, .int .u8 0, .int .u8 0, .int .u8 0, .int .u8 0, .int .u8 0] : Array Value) = dg (nd z) := by
  unfold dg nd
  simp only [List.map_cons, bc, nd_byte, List.map_replicate]
  rfl
theorem dig_one {w : World} {D : Array Value} {q : List UInt8} (hD : D = dg q) (hq : q.length = 32) : Sl (w.alloc (.cells D 49)).drew (some ⟨w.heap.size, 0, none⟩) 1 1 32 (cellsD [q]) := by
  subst hD
  refine ⟨by simp [cellsD, hq], Nat.le_refl _, by simp [maxLen], (fun h => by cases h), ?_⟩
  rintro a ⟨⟩ j u hu
  rw [Addr.add_lit, Nat.zero_add]
  show (w.alloc (.cells (dg q) 49)).cell? _ = _
  rw [cell_of_row _ _ _ _ _ _ (heap_alloc_new _ _)]
  simpa [dg, cellsD] using hu

theorem step_append_sl {P : Program} {w : World} {ops : Array Oper} {o : Oper} {a : Act} {K : Act → World → Prop} {Q : Exit → Act → World → Prop} {E : Prop} (hgd : o.guard = none) (s x : Operand) (t : TypeId)
    (ho : o.op = .call { callee := .builtin .append, args := #[s, x], argTypes := #[t, t] })
    (base : Nat) (e : TypeId) (i : TypeInfo) (z : Value) (size bytes : Nat) (ht : P.underlying t = some (.slice e)) (hi : P.info? e = some i) (hz : i.zero = some z)
    (hsize : i.size = size) (hby : i.bytes = bytes) (hzs : z.cells.size = size) (hsz : 0 < size)
    (v : Value) (n : Nat) (xs : List Value) (hs : a.eval s = v) (hown : w.ownsRow base e size v n xs)
    (A : Option Addr) (m c : Nat) (news : List Value) (hx : a.eval x = .slice A m c) (hr : Sl w A m c size news) (h1 : ∀ u ∈ news, u.oneCell' = true)
    (h63 : n + m ≤ maxLen) (hbytes : (n + m) * bytes ≤ 140737488355328) (hbase : base ≤ w.heap.size)
    (h : ∀ v' w', w'.ownsRow base e size v' (n + m) (xs ++ news) → w.grownBy w' v.ownBlock → (v'.ownBlock = v.ownBlock ∨ v'.ownBlock = some w.heap.size) → K (a.put o.dst v') w') : if Region.wanted o (yielded ops a.tmps) = true then Oper.wp P o a w K Q else E := by
  have hw : Region.wanted o (yielded ops a.tmps) = true := by simp [Region.wanted, hgd]
  rw [if_pos hw]
  obtain ⟨v', w', hrun, h2, h3, h4⟩ := run_append_sl (P := P) (w := w) base t o.type e i z size bytes ht hi hz hsize hby hzs hsz v n xs hown A m c news hr h1 h63 hbytes hbase
  unfold Oper.wp execOp
  simp only [ho, resolve, invoke, builtin, Sem.run_bind, Sem.run_pure, Result.andThen_ok, List.map_toArray, List.map_cons, List.map_nil, hs, hx, hrun]
  exact h v' w' h2 h3 h4

set_option maxHeartbeats 2000000 in
theorem names_any (A : Option Addr) (c : Nat) (l : List Int) (w : World) (hA : Is w A c l) (hl : l.length ≤ 1000000) :
    Calls Try.prog 9 #[.slice A l.length c] w fun e w' => ∃ v, e = .returned v ∧ w'.ownsRow w.heap.size 49 32 v (l.map nd).length (cellsD (l.map nd)) ∧ Ext w w' := by
  obtain ⟨i0, hi0, hz0, hz1, hz2⟩ := info_parts zero_dig
  have HI := Lib.hid hi0
  have HZ0 := Lib.hid hz0
  have HZ1 := Lib.hid hz1
  have HZ2 := Lib.hid hz2
  clear hi0 hz0 hz1 hz2
  go_enter Try.func9, Try.ntmps9
  go_wp2_with fail
  go_loopw [3, 4] (fun v i wr => ∃ j : Nat, j ≤ l.length ∧ i = .int .i64 (j : Int) ∧ wr.ownsRow w.heap.size 49 32 v j (cellsD ((l.take j).map nd)) ∧ Ext w wr) (fun _ i _ => l.length - (intOf i).toNat)
  case atStart => exact ⟨0, by omega, rfl, World.ownsRow_nil .., Ext.refl w⟩
  case round =>
    obtain ⟨j, hj, rfl, hown, hwr⟩ := hrel
    by_cases hjl : j < l.length
    · have hAr : Is wr A c l := Sl.below hA hwr
      obtain ⟨b1, o1, rfl, hr⟩ := hAr.at (by omega)
      have hr1 := hr j hjl
      obtain ⟨z, hz⟩ : ∃ z, z = l[j] := ⟨_, rfl⟩
      rw [← hz] at hr1
      have HZ := Lib.hid hz
      clear hz hr hAr
      go_wp2_with fail
      have hlit := nd_lit z
      have HLIT := Lib.hid hlit
      clear hlit
      go_region_law (first
        | (refine step_append_sl rfl (.tmp 11) (.tmp 24) 23 rfl w.heap.size 49 i0 _ 32 32 Try.underlying23 HI.out HZ0.out HZ1.out HZ2.out (by simp [Value.cells, dg_size]) (by omega) u3 j (cellsD ((l.take j).map nd)) rfl (hown.alloc _).drew
             (some ⟨wr.heap.size, 0, none⟩) 1 1 (cellsD [nd z]) rfl (dig_one HLIT.out (nd_length z)) (cellsD_one _) (by unfold maxLen; omega) (by omega) (by have := hwr.size; simp only [World.alloc, Array.size_push, World.drew]; omega) ?_
           intro v2 w2 hown2 hg2 hat2)
        | fail)
      all_goals
        have x2 : Ext w w2 := (((Below.alloc hwr hwr.size _).drew).grown hg2 (by have := hwr.size; simp only [World.alloc, Array.size_push, World.drew]; omega) (fun k hk => (hown.lt k hk).1))
        have hcs : cellsD ((l.take j).map nd) ++ cellsD [nd z] = cellsD ((l.take (j + 1)).map nd) := by
          rw [← cellsD_append, List.take_add_one, List.getElem?_eq_getElem hjl, ← HZ.out, List.map_append]
          rfl
        rw [hcs] at hown2
        clear hcs hg2 hat2
        go_wp2_with fail
        go_roundw
        case rel => exact ⟨j + 1, by omega, by go_num, hown2, x2⟩
        case measure => simp [intOf]; omega
    · have : j = l.length := by omega
      subst this
      rw [List.take_length] at hown
      go_wp2_with fail
      go_ret
      exact ⟨_, rfl, by rw [List.length_map]; exact hown, hwr⟩
end Go.Proofs.Ytigcfbpgbenabaa
