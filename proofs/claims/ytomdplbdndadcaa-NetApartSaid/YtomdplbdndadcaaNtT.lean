import Derived.Test.YtomdplbdndadcaaNtS
namespace Go.Proofs.Ytomdplbdndadcaa
open Go.RowKit

/-- nothing inserted -/
theorem insert_nil (A : Option Addr) (c n : Nat) (C : Option Addr) (d : Nat) (w : World) (hn : n ≤ c) (_hc : c ≤ maxLen) (_hA : A = none → n = 0 ∧ c = 0) :
    Calls Try.prog 30 #[.slice A n c, .int .i64 (n : Int), .slice C 0 d] w fun e w' => e = .returned (.slice A n c) ∧ w' = w := by
  have hci : (n : Int) ≤ (c : Int) := by omega
  go_enter Try.func30, Try.ntmps30
  go_wp2_with fail
  all_goals
    go_ret
    first
    | exact ⟨rfl, rfl⟩
    | (have hcn : c = n := by omega
       rw [hcn]
       exact ⟨rfl, rfl⟩)
theorem putfn_nil (p : Nat) (A : Option Addr) (c n : Nat) (C : Option Addr) (d : Nat) (w : World) (hn : n ≤ c) (hc : c ≤ maxLen) (hA : A = none → n = 0 ∧ c = 0)
    (hp : w.cell? ⟨p, 0, none⟩ = some (.slice C 0 d)) :
    Calls Try.prog 29 #[.slice A n c, .pointer (some ⟨p, 0, none⟩)] w fun e w' => e = .returned (.slice A n c) ∧ w' = w := by
  have hct := insert_nil A c n C d w hn hc hA
  go_enter Try.func29, Try.ntmps29
  go_wp2_with fail
  refine hct.mono ?_
  rintro e w2 ⟨rfl, rfl⟩
  clear hct
  go_wp2_with fail
  go_ret
  exact ⟨rfl, rfl⟩

theorem Es.append_raw {w' : World} {E F : List EV} {qs ts : List Raw} (hql : qs.length = E.length) (hq : ∀ i (h1 : i < E.length) (h2 : i < qs.length), Bs w' qs[i].1 qs[i].2 E[i].r) (_htl : ts.length = F.length) (ht : ∀ i (h1 : i < F.length) (h2 : i < ts.length), Bs w' ts[i].1 ts[i].2 F[i].r) :
    ∀ i (h1 : i < (E ++ F).length) (h2 : i < (qs ++ ts).length), Bs w' (qs ++ ts)[i].1 (qs ++ ts)[i].2 (E ++ F)[i].r := by
  intro i h1 h2
  rcases Nat.lt_or_ge i E.length with hi | hi
  · rw [List.getElem_append_left hi, List.getElem_append_left (by rw [hql]; exact hi)]
    exact hq i hi _
  · rw [List.getElem_append_right hi, List.getElem_append_right (by rw [hql]; exact hi)]
    simp only [hql]
    rw [List.length_append] at h1
    exact ht _ (by omega) _

/-- Put's closure as 'changed' wants it: a list that is not empty -/
theorem put_call (p base0 : Nat) (E F : List EV) (C : Option Addr) (d : Nat) (ts : List Raw) (w : World) (hE : E.length ≤ 100000) (h0 : 0 < E.length) (hF : Es w C d F ts) (hFl : F.length ≤ 100000) (hts : Fr w base0 ts) (hb0 : base0 ≤ w.heap.size + 2)
    (hpw : w.cell? ⟨p, 0, none⟩ = some (.slice C F.length d)) :
    ∀ (w1 : World) (g cap : Nat) (qs : List Raw), Ext w w1 → w1.ownsRow (w.heap.size + 2) 38 3 (.slice (some ⟨g, 0, none⟩) E.length cap) E.length (cellsE E qs) → Es w1 (some ⟨g, 0, none⟩) cap E qs → Fr w1 (w.heap.size + 2) qs →
      Calls Try.prog 29 #[.slice (some ⟨g, 0, none⟩) E.length cap, .pointer (some ⟨p, 0, none⟩)] w1 fun e w2 => ∃ B d ss, e = .returned (.slice B (E ++ F).length d) ∧ Es w2 B d (E ++ F) ss ∧ (∀ a, B = some a → w.heap.size + 2 ≤ a.block) ∧ Fr w2 base0 ss ∧ Ext w w2 ∧ (∀ q, q < w1.heap.size → q ≠ g → w2.heap[q]? = w1.heap[q]?) := by
  intro w1 g cap qs hx hown hEs hfr
  have hpb := World.block_lt_of_cell? w _ hpw
  have hp1 := (hx.cell hpb).trans hpw
  obtain ⟨g', cap', hv, hgb, hgl⟩ := World.ownsRow.form hown (by omega)
  simp only [Value.slice.injEq, Option.some.injEq, Addr.mk.injEq, and_true, true_and] at hv
  obtain ⟨rfl, rfl⟩ := hv
  have hob : (Value.slice (some ⟨g, 0, none⟩) E.length cap).ownBlock = some g := by simp [Value.ownBlock] <;> omega
  have hF1 := hF.below hx
  have hts1 := hts.ext (Nat.le_refl _) hx
  have hsz := hx.size
  obtain ⟨cg, hcg⟩ := own_tag hown
  by_cases hF0 : 0 < F.length
  · refine (putfn_any (w.heap.size + 2) p (some ⟨g, 0, none⟩) cap E qs C d F ts w1 hown hEs.len hF1 hE hFl hF0 (by omega) hp1).mono ?_
    rintro e w2 ⟨v', rfl, hown2, hg, _⟩
    obtain ⟨A', c', rfl, hsl, hge⟩ := Sl.of_own hown2
    rw [hob] at hg
    have hk : ∀ {b : Nat} {rs : List Raw}, Fr w1 b rs → ∀ q ∈ rs, ∀ a, q.1 = some a → a.block < w1.heap.size → w2.heap[a.block]? = w1.heap[a.block]? := fun h q hq a ha hl => hg.block _ hl (fun e => h.ne hq ha hcg (by decide) (by cases e; rfl))
    refine ⟨A', c', qs ++ ts, rfl, ⟨by simp [hEs.len, hF.len], hsl, Es.append_raw hEs.len (fun i h1 h2 => Sl.keep (hEs.raw i h1 h2) (hk hfr _ (List.getElem_mem _))) hF.len (fun i h1 h2 => Sl.keep (hF1.raw i h1 h2) (hk hts1 _ (List.getElem_mem _)))⟩, hge, (hfr.kept hb0 (hk hfr)).append (hts1.kept (Nat.le_refl _) (hk hts1)), Below.grown hx hg hx.size (by rintro k ⟨⟩; omega), fun k hk hne => hg.block k hk (fun e => hne (by cases e; rfl))⟩
  · have hF00 : F = [] := List.eq_nil_of_length_eq_zero (by omega)
    subst hF00
    refine (putfn_nil p (some ⟨g, 0, none⟩) cap E.length C d w1 hEs.sl.le hEs.sl.max (fun h => by cases h) hp1).mono ?_
    rintro e w2 ⟨rfl, rfl⟩
    refine ⟨_, _, qs, by rw [List.append_nil], by rw [List.append_nil]; exact hEs, fun a ha => by cases ha; exact hgb, hfr.kept hb0 (fun _ _ _ _ _ => rfl), hx, fun k hk hne => rfl⟩
/-- Put's closure as 'changed' wants it: the empty list -/
theorem put_call_nil (p base0 : Nat) (F : List EV) (C : Option Addr) (d : Nat) (ts : List Raw) (w : World) (hF : Es w C d F ts) (hFl : F.length ≤ 100000) (hts : Fr w base0 ts)
    (hpw : w.cell? ⟨p, 0, none⟩ = some (.slice C F.length d)) :
    ∀ (w1 : World) (A1 : Option Addr) (c1 : Nat), Ext w w1 → w.heap.size + 2 ≤ w1.heap.size → w1.ownsRow (w.heap.size + 2) 38 3 (.slice A1 0 c1) 0 [] →
      Calls Try.prog 29 #[.slice A1 0 c1, .pointer (some ⟨p, 0, none⟩)] w1 fun e w2 => ∃ B d ss, e = .returned (.slice B F.length d) ∧ Es w2 B d F ss ∧ (∀ a, B = some a → w.heap.size + 2 ≤ a.block) ∧ Fr w2 base0 ss ∧ Ext w w2 ∧ (∀ q, q < w.heap.size + 2 → w2.heap[q]? = w1.heap[q]?) := by
  intro w1 A1 c1 hx hsz2 hown
  have hpb := World.block_lt_of_cell? w _ hpw
  have hp1 := (hx.cell hpb).trans hpw
  obtain ⟨A', c', hv, hsl, hge⟩ := Sl.of_own hown
  simp only [Value.slice.injEq, true_and] at hv
  obtain ⟨rfl, rfl⟩ := hv
  have hF1 := hF.below hx
  have hts1 := hts.ext (Nat.le_refl _) hx
  have hsz := hx.size
  have hbl : ∀ k, (Value.slice A1 0 c1).ownBlock = some k → w.heap.size + 2 ≤ k ∧ k < w1.heap.size := fun k hk => World.ownsRow.lt hown k hk
  by_cases hF0 : 0 < F.length
  · refine (putfn_any (w.heap.size + 2) p A1 c1 [] [] C d F ts w1 hown rfl hF1 (by simp) hFl hF0 (by omega) hp1).mono ?_
    rintro e w2 ⟨v', rfl, hown2, hg, _⟩
    obtain ⟨A', c', rfl, hsl, hge⟩ := Sl.of_own hown2
    have hk : ∀ q ∈ ts, ∀ a, q.1 = some a → a.block < w1.heap.size → w2.heap[a.block]? = w1.heap[a.block]? := fun q hq a ha hl => hg.block _ hl (fun e => by have := (hbl _ e.symm).1; have := hts.lt hq ha; omega)
    exact ⟨A', c', ts, rfl, ⟨hF.len, hsl, fun i h1 h2 => Sl.keep (hF1.raw i h1 h2) (hk _ (List.getElem_mem h2))⟩, hge, hts1.kept (Nat.le_refl _) hk, Below.grown hx hg hx.size (fun k hk => by have := (hbl k hk).1; omega), fun k hk => hg.block k (by omega) (fun e => by have := (hbl k e.symm).1; omega)⟩
  · have hF00 : F = [] := List.eq_nil_of_length_eq_zero (by omega)
    subst hF00
    have hts0 : ts = [] := List.eq_nil_of_length_eq_zero hF.len
    subst hts0
    refine (putfn_nil p A1 c1 0 C d w1 (Nat.zero_le _) hsl.max hsl.nul hp1).mono ?_
    rintro e w2 ⟨rfl, rfl⟩
    exact ⟨_, _, [], rfl, ⟨rfl, hsl, fun i h => by simp at h⟩, hge, hts1, hx, fun k hk => rfl⟩
end Go.Proofs.Ytomdplbdndadcaa
