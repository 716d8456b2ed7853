import Derived.Test.YtigcfbpgbenabaaLayT
/- The plain laws on plans. -/
namespace Go.Proofs.Ytigcfbpgbenabaa
open Go.RowKit

theorem nd_inj {x y : Int} (hx0 : 0 ≤ x) (hx1 : x < 65536) (hy0 : 0 ≤ y) (hy1 : y < 65536) (h : nd x = nd y) : x = y := by
  unfold nd at h
  simp only [List.cons.injEq] at h
  obtain ⟨h1, h2, _⟩ := h
  have e1 := congrArg UInt8.toNat h1
  have e2 := congrArg UInt8.toNat h2
  rw [UInt8.toNat_ofNat', UInt8.toNat_ofNat'] at e1 e2
  omega
theorem onceI_ok (l : List Int) : (onceI l).Nodup ∧ (∀ x ∈ onceI l, 0 ≤ x ∧ x < 65536) ∧ (onceI l).length ≤ l.length := by
  suffices h : ∀ j, (onceI (l.take j)).Nodup ∧ (∀ x ∈ onceI (l.take j), 0 ≤ x ∧ x < 65536) by
    have h1 := h l.length
    have h2 := onceI_len l l.length
    rw [List.take_length] at h1 h2
    exact ⟨h1.1, h1.2, h2⟩
  intro j
  induction j with
  | zero => simp [onceI]
  | succ j ih =>
    rcases Nat.lt_or_ge j l.length with h | h
    · rw [onceI_succ h]
      split
      · exact ih
      · rename_i hn
        refine ⟨?_, ?_⟩
        · rw [List.nodup_append]
          refine ⟨ih.1, by simp, ?_⟩
          intro a ha b hb hab
          simp at hb
          subst hb
          subst hab
          exact hn ha
        · intro x hx
          rcases List.mem_append.1 hx with hx | hx
          · exact ih.2 x hx
          · simp at hx; subst hx; omega
    · have e : l.take (j + 1) = l.take j := by rw [List.take_of_length_le (by omega), List.take_of_length_le (by omega)]
      rw [e]
      exact ih
/-- the names of numbers, each once -/
def nameL (l : List Int) : List (List UInt8) := (onceI l).map nd
theorem map_nodup {f : Int → List UInt8} : ∀ {l : List Int}, l.Nodup → (∀ x ∈ l, ∀ y ∈ l, f x = f y → x = y) → (l.map f).Nodup
  | [], _, _ => by simp
  | a :: l, h, hi => by
    rw [List.nodup_cons] at h
    rw [List.map_cons, List.nodup_cons]
    refine ⟨fun hm => ?_, map_nodup h.2 fun x hx y hy => hi x (List.mem_cons_of_mem _ hx) y (List.mem_cons_of_mem _ hy)⟩
    obtain ⟨b, hb, he⟩ := List.mem_map.1 hm
    have := hi b (List.mem_cons_of_mem _ hb) a (List.mem_cons_self ..) he
    subst this
    exact h.1 hb
theorem nameL_nodup (l : List Int) : (nameL l).Nodup := by
  obtain ⟨h1, h2, _⟩ := onceI_ok l
  exact map_nodup h1 fun x hx y hy h => nd_inj (h2 x hx).1 (h2 x hx).2 (h2 y hy).1 (h2 y hy).2 h
theorem nameL_len (l : List Int) : (nameL l).length ≤ l.length := by
  rw [nameL, List.length_map]; exact (onceI_ok l).2.2

/-- the plan of From -/
def planF (L M : List (List UInt8)) : PV := ⟨(common L M : Nat), L.drop (common L M), M.drop (common L M)⟩
theorem from_nodup {L M : List (List UInt8)} (hL : L.Nodup) (hM : M.Nodup) : fromP L M = (planF L M, 0) := by simp [fromP, hL, hM, planF]

theorem common_max : ∀ (L M : List (List UInt8)) (x : List UInt8), (L.drop (common L M)).head? = some x → (M.drop (common L M)).head? = some x → False
  | [], M, x, h, _ => by simp [common] at h
  | a :: l, [], x, _, h => by simp [common] at h
  | a :: l, b :: m, x, h1, h2 => by
    unfold common at h1 h2
    split at h1
    · rename_i hab
      rw [if_pos hab] at h2
      exact common_max l m x h1 h2
    · rename_i hab
      rw [if_neg hab] at h2
      simp at h1 h2
      exact hab (h1.trans h2.symm)
theorem check_planF {L M : List (List UInt8)} (hL : L.Nodup) (hM : M.Nodup) : checkP (planF L M) = 0 := by
  unfold checkP planF
  rw [if_neg]
  rintro (h | h | h | ⟨x, h1, h2⟩)
  · simp at h; omega
  · exact h ((List.drop_sublist _ _).nodup hL)
  · exact h ((List.drop_sublist _ _).nodup hM)
  · exact common_max L M x h1 h2
theorem disjoint_take_drop {L : List (List UInt8)} (hL : L.Nodup) (k : Nat) (x : List UInt8) (h1 : x ∈ L.take k) (h2 : x ∈ L.drop k) : False := by
  rw [← List.take_append_drop k L, List.nodup_append] at hL
  exact hL.2.2 x h1 x h2 rfl
theorem apply_planF {L M : List (List UInt8)} (hL : L.Nodup) (hM : M.Nodup) : applyP (planF L M) L = (M, 0) := by
  obtain ⟨h1, h2, h3⟩ := common_le L M
  unfold applyP
  rw [if_neg (by rw [check_planF hL hM]; simp)]
  rw [if_neg, if_neg]
  · show (L.take (((common L M : Nat) : Int)).toNat ++ M.drop (common L M), (0 : Int)) = _
    rw [Int.toNat_natCast, h3, List.take_append_drop]
  · intro h
    have h : ((M.drop (common L M)).any fun x => decide (x ∈ L.take ((common L M : Nat) : Int).toNat)) = true := h
    obtain ⟨x, hx, hd⟩ := List.any_eq_true.1 h
    rw [Int.toNat_natCast, h3] at hd
    exact disjoint_take_drop hM _ x (by simpa using hd) hx
  · rintro (h | h)
    · have h : (L.length : Int) - ((L.drop (common L M)).length : Int) ≠ ((common L M : Nat) : Int) := h
      rw [List.length_drop] at h
      omega
    · exact h rfl
theorem check_back {P : PV} (h : checkP P = 0) : checkP ⟨P.k, P.d, P.u⟩ = 0 := by
  unfold checkP at *
  split at h
  · cases h
  · rename_i hn
    rw [if_neg]
    rintro (h | h | h | ⟨x, h1, h2⟩)
    · exact hn (.inl h)
    · exact hn (.inr (.inr (.inl h)))
    · exact hn (.inr (.inl h))
    · exact hn (.inr (.inr (.inr ⟨x, h2, h1⟩)))
theorem back_ok {P : PV} (h : checkP P = 0) : backP P = (⟨P.k, P.d, P.u⟩, 0) := by unfold backP; rw [if_pos h]
theorem back_bad {P : PV} (h : checkP P ≠ 0) : backP P = (PV.zero, 2) := by unfold backP; rw [if_neg h]
theorem common_comm : ∀ (L M : List (List UInt8)), common L M = common M L
  | [], [] => rfl
  | [], _ :: _ => rfl
  | _ :: _, [] => rfl
  | a :: l, b :: m => by
    unfold common
    by_cases h : a = b
    · rw [if_pos h, if_pos h.symm, common_comm l m]
    · rw [if_neg h, if_neg (fun e => h e.symm)]
theorem planF_comm (L M : List (List UInt8)) : (⟨(planF L M).k, (planF L M).d, (planF L M).u⟩ : PV) = planF M L := by
  unfold planF; rw [common_comm L M]
theorem back_planF {L M : List (List UInt8)} (hL : L.Nodup) (hM : M.Nodup) : backP (planF L M) = (planF M L, 0) := by
  rw [back_ok (check_planF hL hM), planF_comm]
theorem then_planF {L M K : List (List UInt8)} (hL : L.Nodup) (hM : M.Nodup) (hK : K.Nodup) : thenP (planF L M) (planF M K) L = (planF L K, 0) := by
  unfold thenP
  rw [apply_planF hL hM]
  simp only [ne_eq, not_true_eq_false, if_false]
  rw [apply_planF hM hK]
  simp only [not_true_eq_false, if_false]
  exact from_nodup hL hK
theorem planF_u (L M : List (List UInt8)) : (planF L M).u.length ≤ L.length := by simp [planF]
theorem planF_d (L M : List (List UInt8)) : (planF L M).d.length ≤ M.length := by simp [planF]

theorem checkP_val (P : PV) : checkP P = 0 ∨ checkP P = 2 := by unfold checkP; split <;> simp
theorem checkP_nonneg {P : PV} (h : checkP P = 0) : 0 ≤ P.k ∧ P.u.Nodup ∧ P.d.Nodup ∧ ∀ x, P.u.head? = some x → P.d.head? = some x → False := by
  unfold checkP at h
  split at h
  · cases h
  · rename_i hn
    refine ⟨by by_cases h : P.k < 0; exact absurd (.inl h) hn; omega, ?_, ?_, fun x h1 h2 => hn (.inr (.inr (.inr ⟨x, h1, h2⟩)))⟩
    · by_cases h : P.u.Nodup; exact h; exact absurd (.inr (.inl h)) hn
    · by_cases h : P.d.Nodup; exact h; exact absurd (.inr (.inr (.inl h))) hn
/-- what Apply answers when it answers well -/
theorem apply_ok_iff {P : PV} {L S : List (List UInt8)} (h : applyP P L = (S, 0)) : checkP P = 0 ∧ (L.length : Int) - (P.u.length : Int) = P.k ∧ L.drop P.k.toNat = P.u ∧ (∀ x ∈ P.d, x ∉ L.take P.k.toNat) ∧ S = L.take P.k.toNat ++ P.d := by
  unfold applyP at h
  split at h
  · rename_i hc
    simp only [Prod.mk.injEq] at h
    exact absurd h.2 hc
  · rename_i hc
    split at h
    · cases h
    · rename_i hn
      split at h
      · cases h
      · rename_i ha
        simp only [Prod.mk.injEq, and_true] at h
        simp only [not_or] at hn
        refine ⟨by omega, by omega, by simpa using hn.2, fun x hx hm => ha (List.any_eq_true.2 ⟨x, hx, by simpa using hm⟩), h.symm⟩
/-- a fitting plan is that of From -/
theorem common_of {A U D : List (List UInt8)} (h : ∀ x, U.head? = some x → D.head? = some x → False) : common (A ++ U) (A ++ D) = A.length := by
  induction A with
  | nil =>
    cases U with
    | nil => simp [common]
    | cons u U =>
      cases D with
      | nil => simp [common]
      | cons d D =>
        simp only [List.nil_append, common, List.length_nil]
        rw [if_neg]
        rintro rfl
        exact h u rfl rfl
  | cons a A ih => simp only [List.cons_append, common, if_pos, ih, List.length_cons]
theorem least {P : PV} {L M : List (List UInt8)} (h : applyP P L = (M, 0)) : P = planF L M := by
  obtain ⟨h1, h2, h3, _, h5⟩ := apply_ok_iff h
  obtain ⟨hk, _, _, hh⟩ := checkP_nonneg h1
  obtain ⟨K, U, D⟩ := P
  simp only at *
  obtain ⟨k, rfl⟩ : ∃ k : Nat, K = (k : Int) := ⟨K.toNat, by omega⟩
  rw [Int.toNat_natCast] at h3 h5
  have hkl : (L.take k).length = k := by rw [List.length_take]; omega
  have hL : L = L.take k ++ U := by rw [← h3, List.take_append_drop]
  have hc : common L M = k := by
    have := common_of (A := L.take k) hh
    rw [hkl] at this
    rw [h5]
    conv => lhs; lhs; rw [hL]
    exact this
  unfold planF
  rw [hc, h3, h5]
  simp only [PV.mk.injEq, true_and]
  rw [List.drop_append_of_le_length (by omega), List.drop_of_length_le (by omega), List.nil_append]
theorem less_bad {L M : List (List UInt8)} {k : Nat} (h : k < common L M) : checkP ⟨(k : Int), L.drop k, M.drop k⟩ = 2 := by
  obtain ⟨h1, h2, h3⟩ := common_le L M
  unfold checkP
  rw [if_pos]
  refine .inr (.inr (.inr ⟨L[k], ?_, ?_⟩))
  · simp only [List.head?_drop]; exact List.getElem?_eq_getElem (by omega)
  · simp only [List.head?_drop]
    have e : (L.take (common L M))[k]? = (M.take (common L M))[k]? := by rw [h3]
    rw [List.getElem?_take, List.getElem?_take, if_pos h, if_pos h] at e
    rw [← e]; exact List.getElem?_eq_getElem (by omega)
/-- back again -/
theorem apply_back {P : PV} {L S : List (List UInt8)} (hL : L.Nodup) (h : applyP P L = (S, 0)) : applyP ⟨P.k, P.d, P.u⟩ S = (L, 0) := by
  obtain ⟨h1, h2, h3, _, h5⟩ := apply_ok_iff h
  obtain ⟨hk, _, _, _⟩ := checkP_nonneg h1
  obtain ⟨K, U, D⟩ := P
  simp only at *
  obtain ⟨k, rfl⟩ : ∃ k : Nat, K = (k : Int) := ⟨K.toNat, by omega⟩
  rw [Int.toNat_natCast] at h3 h5
  have hkl : (L.take k).length = k := by rw [List.length_take]; omega
  have hSk : S.take k = L.take k := by rw [h5, List.take_append_of_le_length (by omega), List.take_of_length_le (by omega)]
  have hSd : S.drop k = D := by rw [h5, List.drop_append_of_le_length (by omega), List.drop_of_length_le (by omega), List.nil_append]
  unfold applyP
  rw [if_neg (by have := check_back h1; simp only at this; rw [this]; simp)]
  simp only
  rw [Int.toNat_natCast, hSk, hSd, if_neg, if_neg]
  · rw [← h3, List.take_append_drop]
  · intro hx
    obtain ⟨x, hx, hd⟩ := List.any_eq_true.1 hx
    rw [← h3] at hx
    exact disjoint_take_drop hL k x (by simpa using hd) hx
  · rintro (hx | hx)
    · rw [h5, List.length_append, hkl] at hx
      exact hx (by omega)
    · exact hx rfl
theorem apply_snd {P : PV} (L : List (List UInt8)) (h : checkP P = 0) : (applyP P L).2 = 0 ∨ applyP P L = ([], 4) := by
  unfold applyP
  rw [if_neg (by rw [h]; simp)]
  split
  · exact .inr rfl
  · split
    · exact .inr rfl
    · exact .inl rfl
theorem apply_unfit {P : PV} {L : List (List UInt8)} (h : checkP P = 0) (hf : ¬ (P.k ≤ (L.length : Int) ∧ (L.length : Int) - P.k = (P.u.length : Int))) : applyP P L = ([], 4) := by
  unfold applyP
  rw [if_neg (by rw [h]; simp), if_pos]
  left
  intro e
  have hk := (checkP_nonneg h).1
  exact hf ⟨by omega, by omega⟩
end Go.Proofs.Ytigcfbpgbenabaa
