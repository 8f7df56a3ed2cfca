/-
  What Set does to a table that holds what tables hold: the keys' values, and the table still holds it.
-/
import Derived.Test.YtoelgnjnbelokaaTLaw
import Derived.Test.YtoelgnjnbelokaaTSet
namespace Go.Proofs.Ytoelgnjnbelokaa

section
variable {a : List V} {m : List Sl}
theorem inN_mono {n n' : Nat} {k : V} (hn : n ≤ n') (h : inN n k = true) : inN n' k = true := by
  obtain ⟨h1, h2, h3⟩ := inN_iff.1 h
  exact inN_iff.2 ⟨h1, h2, by omega⟩
theorem getT_yes {k : V} (h : vok k = true) (h2 : inN a.length k = true) : getT a m k = vAt a (k.p.toNat - 1) := by unfold getT; rw [if_neg (by rw [h]; simp), if_pos h2]
theorem getT_no {k : V} (h : vok k = true) (h2 : inN a.length k = false) : getT a m k = getM m k := by unfold getT; rw [if_neg (by rw [h]; simp), if_neg (by rw [h2]; simp)]
theorem shrink_law {a1 : List V} (hI : Inv m) (hval : ∀ i, i < a1.length → vok (vAt a1 i) = true) (hfree : ∀ i : Nat, 1 ≤ i → i ≤ a1.length → lastIx m (kI (i : Int)) = none) (hnext : getM m (kI ((a1.length : Int) + 1)) = V.zero) :
    TInv (shrinkA a1) m ∧ ∀ k', vok k' = true → getT (shrinkA a1) m k' = getT a1 m k' := by
  have hle : (shrinkA a1).length ≤ a1.length := by rw [shrinkA_len]; exact shrinkN_le _ _
  refine ⟨⟨hI, fun i hi => ?_, ?_, fun i h1 h2 => hfree i h1 (by omega), ?_⟩, fun k' hk' => ?_⟩
  · rw [(shrinkA_at i).2 hi]
    exact hval i (by omega)
  · rcases shrinkN_last a1 a1.length with h | h
    · exact .inl (by rw [shrinkA_len]; exact h)
    · right
      rw [(shrinkA_at _).1, shrinkA_len]
      exact h
  · by_cases e : (shrinkA a1).length = a1.length
    · rw [e]; exact hnext
    · have h1 := hfree ((shrinkA a1).length + 1) (by omega) (by omega)
      rw [show ((((shrinkA a1).length + 1 : Nat) : Int)) = ((shrinkA a1).length : Int) + 1 by omega] at h1
      exact getM_none' h1
  · cases h1 : inN (shrinkA a1).length k' with
    | true =>
      rw [getT_yes hk' h1, getT_yes hk' (inN_mono hle h1)]
      obtain ⟨j, j1, j2, j3, j4⟩ := inN_get h1
      rw [j4]
      exact (shrinkA_at _).2 (by omega)
    | false =>
      rw [getT_no hk' h1]
      cases h2 : inN a1.length k' with
      | false => rw [getT_no hk' h2]
      | true =>
        rw [getT_yes hk' h2]
        obtain ⟨j, j1, j2, j3, j4⟩ := inN_get h2
        have h3 : ¬ j ≤ (shrinkA a1).length := fun e => by
          have h4 := (inN_iff (n := (shrinkA a1).length)).2 ⟨(inN_iff.1 h2).1, (inN_iff.1 h2).2.1, by rw [j4]; omega⟩
          rw [h1] at h4
          cases h4
        have h5 := (shrinkA_at (a := a1) (j - 1)).1
        rw [vAt_out (by omega)] at h5
        rw [j3, getM_none' (hfree j j1 j2)]
        refine (zero_of_kind ?_ ?_).symm
        · exact hval _ (by unfold kI; simp only; omega)
        · rw [show ((kI (j : Int)).p.toNat - 1) = j - 1 by unfold kI; simp]
          exact h5.symm
theorem getT_set {i : Nat} (hi : i < a.length) (hb : a.length ≤ 1000000) (v : V) {k' : V} (hk' : vok k' = true) : getT (a.set i v) m k' = if k' = kI ((i : Int) + 1) then v else getT a m k' := by
  cases h1 : inN a.length k' with
  | true =>
    rw [getT_yes hk' (by rw [List.length_set]; exact h1), getT_yes hk' h1]
    obtain ⟨j, j1, j2, j3, j4⟩ := inN_get h1
    rw [j4]
    by_cases e : k' = kI ((i : Int) + 1)
    · rw [if_pos e]
      have : (j : Int) = (i : Int) + 1 := kI_inj (j3.symm.trans e)
      rw [show (j : Int).toNat - 1 = i by omega]
      exact vAt_set_eq hi
    · rw [if_neg e]
      refine vAt_set_ne fun h => e ?_
      rw [j3, show (j : Int) = (i : Int) + 1 by omega]
  | false =>
    rw [getT_no hk' (by rw [List.length_set]; exact h1), getT_no hk' h1, if_neg]
    intro e
    have h2 := inN_kI (n := a.length) (i := i + 1) (by omega) (by omega) (by omega)
    rw [show (((i + 1 : Nat)) : Int) = (i : Int) + 1 by omega, ← e, h1] at h2
    cases h2
/-- What add does. -/
theorem add_law (hI : Inv m) (hval : ∀ i, i < a.length → vok (vAt a i) = true) (hfree : ∀ i : Nat, 1 ≤ i → i ≤ a.length → lastIx m (kI (i : Int)) = none) {k v : V} {a' : List V} {m' : List Sl} (hk : k = kI ((a.length : Int) + 1)) (hv : vok v = true) (hv0 : v.k ≠ 0) (h : AddR m a v a' m') (hb : a.length ≤ 1000000) (hb' : a'.length ≤ 1000000) :
    TInv a' m' ∧ ∀ k', vok k' = true → getT a' m' k' = if k' = k then v else getT a m k' := by
  obtain ⟨hl, hpre, hmov, hstop⟩ := h.add
  have hpa : ∀ j, j < a.length + 1 → vAt a' j = vAt (a ++ [v]) j := fun j hj => by rw [← hpre, vAt_take hj]
  have hlow : ∀ j, j < a.length → vAt a' j = vAt a j := fun j hj => by rw [hpa j (by omega), vAt_app_lt hj]
  have hmid : vAt a' a.length = v := by rw [hpa _ (by omega), vAt_app_eq]
  have hmI : Inv m' ∧ ∀ k', inN a'.length k' = false → getM m' k' = getM m k' := by
    rcases h.map with ⟨rfl, -⟩ | rfl
    · exact ⟨hI, fun _ _ => rfl⟩
    · have h1 := keepM_get (n := a'.length) hI
      exact ⟨h1.1, fun k' hk' => by rw [h1.2, if_neg (by rw [hk']; simp)]⟩
  have hkin : inN a'.length k = true := by
    have := inN_kI (n := a'.length) (i := a.length + 1) (by omega) (by omega) (by omega)
    rw [show (((a.length + 1 : Nat)) : Int) = (a.length : Int) + 1 by omega, ← hk] at this
    exact this
  refine ⟨⟨hmI.1, fun j hj => ?_, .inr ?_, fun i i1 i2 => ?_, ?_⟩, fun k' hk' => ?_⟩
  · by_cases e1 : j < a.length
    · rw [hlow j e1]; exact hval j e1
    · by_cases e2 : j = a.length
      · subst e2; rw [hmid]; exact hv
      · rw [(hmov j (by omega) hj).1]; exact getM_valid hI _
  · by_cases e : a'.length = a.length + 1
    · rw [e, Nat.add_sub_cancel, hmid]; exact hv0
    · exact (hmov _ (by omega) (by omega)).2
  · rcases h.map with ⟨rfl, h2⟩ | rfl
    · by_cases e : i ≤ a.length
      · exact hfree i i1 e
      · exact h2 i (by omega) i2
    · exact keepM_free i1 i2 (by omega)
  · rw [hmI.2 _ (by
      cases hx : inN a'.length (kI ((a'.length : Int) + 1)) with
      | false => rfl
      | true =>
        have := (inN_iff.1 hx).2.2
        unfold kI at this
        simp only at this
        omega)]
    exact getM_zero hI hstop
  · cases h1 : inN a'.length k' with
    | true =>
      rw [getT_yes hk' h1]
      obtain ⟨j, j1, j2, j3, j4⟩ := inN_get h1
      rw [j4]
      by_cases e1 : j ≤ a.length
      · have h2 : inN a.length k' = true := inN_iff.2 ⟨(inN_iff.1 h1).1, (inN_iff.1 h1).2.1, by rw [j4]; omega⟩
        rw [if_neg (fun e => by
          have : (j : Int) = (a.length : Int) + 1 := kI_inj ((j3.symm.trans e).trans hk)
          omega), getT_yes hk' h2, j4]
        exact hlow _ (by omega)
      · by_cases e2 : j = a.length + 1
        · subst e2
          rw [if_pos (by rw [j3, hk]; congr 1), show (((a.length + 1 : Nat) : Int)).toNat - 1 = a.length by omega, hmid]
        · have h2 : inN a.length k' = false := by
            cases hx : inN a.length k' with
            | false => rfl
            | true =>
              have := (inN_iff.1 hx).2.2
              rw [j4] at this
              omega
          rw [if_neg (fun e => by
            have : (j : Int) = (a.length : Int) + 1 := kI_inj ((j3.symm.trans e).trans hk)
            omega), getT_no hk' h2, (hmov _ (by omega) (by omega)).1, j3]
          congr 2
          omega
    | false =>
      have h2 : inN a.length k' = false := by
        cases hx : inN a.length k' with
        | false => rfl
        | true => rw [inN_mono (by omega) hx] at h1; cases h1
      rw [getT_no hk' h1, hmI.2 _ h1, if_neg (fun e => by rw [e, hkin] at h1; cases h1), getT_no hk' h2]
theorem SetR.law {k v : V} {e : Int} {a' : List V} {m' : List Sl} (I : TInv a m) (h : SetR a m k v e a' m') (hb : a.length ≤ 1000000) (hb' : a'.length ≤ 1000000) :
    TInv a' m' ∧ ∀ k', vok k' = true → getT a' m' k' = if e = 0 ∧ k' = k then v else getT a m k' := by
  cases h with
  | badKey h => exact ⟨I, fun k' _ => by rw [if_neg (by simp)]⟩
  | badVal h hv => exact ⟨I, fun k' _ => by rw [if_neg (by simp)]⟩
  | here i hi hk hv =>
    have hval : ∀ j, j < (a.set i v).length → vok (vAt (a.set i v) j) = true := fun j hj => by
      rw [List.length_set] at hj
      by_cases e : i = j
      · subst e; rw [vAt_set_eq hi]; exact hv
      · rw [vAt_set_ne e]; exact I.val j hj
    have hg : ∀ k', vok k' = true → getT (a.set i v) m k' = if (0 : Int) = 0 ∧ k' = k then v else getT a m k' := fun k' hk' => by
      rw [getT_set hi hb v hk', hk]
      simp
    by_cases hl : i + 1 = a.length
    · rw [if_pos hl]
      have h1 := shrink_law (a1 := a.set i v) I.inv hval (fun j j1 j2 => I.free j j1 (by rwa [List.length_set] at j2)) (by rw [List.length_set]; exact I.next)
      exact ⟨h1.1, fun k' hk' => (h1.2 k' hk').trans (hg k' hk')⟩
    · rw [if_neg hl]
      refine ⟨⟨I.inv, hval, .inr ?_, fun j j1 j2 => I.free j j1 (by rwa [List.length_set] at j2), by rw [List.length_set]; exact I.next⟩, hg⟩
      rw [List.length_set, vAt_set_ne (by omega)]
      exact I.last.resolve_left (by omega)
  | add hk hv hv0 h =>
    have h1 := add_law I.inv I.val I.free hk hv hv0 h hb hb'
    exact ⟨h1.1, fun k' hk' => by rw [h1.2 k' hk']; simp⟩
  | map hk hv hin hnx h =>
    have hkv : vok k = true := by cases e : vok k with | true => rfl | false => exact absurd (.inr e) hk
    have hk2 : vok k = true ∧ k.k ≠ 0 := ⟨hkv, fun e => hk (.inl e)⟩
    have he : e = 0 := by have := setM_ok (L := m) hk2 hv; rw [h] at this; exact this
    have hm : m' = (setM m k v).2 := by rw [h]
    subst hm
    refine ⟨⟨I.inv.setM _ _, I.val, I.last, fun i i1 i2 => lastIx_setM_none I.inv (fun e => ?_) (I.free i i1 i2), ?_⟩, fun k' hk' => ?_⟩
    · have := inN_kI i1 i2 (show (a.length : Int) ≤ 2147483647 by omega)
      rw [← e, hin] at this
      cases this
    · by_cases e : k = kI ((a.length : Int) + 1)
      · rw [← e, getM_setM_eq I.inv hk2 hv]
        exact zero_of_kind hv (Classical.byContradiction fun h0 => hnx ⟨e, h0⟩)
      · rw [getM_setM_ne I.inv e]
        exact I.next
    · cases h1 : inN a.length k' with
      | true =>
        rw [getT_yes hk' h1, getT_yes hk' h1, if_neg (fun e => by rw [e.2, hin] at h1; cases h1)]
      | false =>
        rw [getT_no hk' h1, getT_no hk' h1]
        by_cases e : k' = k
        · rw [if_pos ⟨he, e⟩, e, getM_setM_eq I.inv hk2 hv]
        · rw [if_neg (fun x => e x.2), getM_setM_ne I.inv (fun x => e x.symm)]
/-- What Remove leaves. -/
theorem rem_law (I : TInv a m) {i : Nat} (hi : i < a.length) : TInv (shrinkA (a.eraseIdx i ++ [V.zero])) m ∧ ∀ k', vok k' = true → getT (shrinkA (a.eraseIdx i ++ [V.zero])) m k' = getT (a.eraseIdx i ++ [V.zero]) m k' := by
  have hl : (a.eraseIdx i ++ [V.zero]).length = a.length := by
    rw [List.length_append, List.length_eraseIdx_of_lt hi, List.length_singleton]
    omega
  refine shrink_law I.inv (fun j hj => ?_) (fun j j1 j2 => I.free j j1 (by rwa [hl] at j2)) (by rw [hl]; exact I.next)
  rw [hl] at hj
  have h1 : (a.eraseIdx i).length = a.length - 1 := List.length_eraseIdx_of_lt hi
  by_cases e : j < a.length - 1
  · rw [vAt_app_lt (by omega)]
    have h2 : vAt (a.eraseIdx i) j = vAt a (if j < i then j else j + 1) := by
      unfold vAt
      rw [List.getD_eq_getElem?_getD, List.getElem?_eraseIdx, List.getD_eq_getElem?_getD]
      split <;> rfl
    rw [h2]
    refine I.val _ ?_
    split <;> omega
  · obtain rfl : j = (a.eraseIdx i).length := by omega
    rw [vAt_app_eq]
    exact zero_valid
theorem TInv.all (I : TInv a m) : ∀ x ∈ a, vok x = true := fun x hx => by
  obtain ⟨j, hj, rfl⟩ := List.getElem_of_mem hx
  have h := I.val j hj
  unfold vAt at h
  rw [List.getD_eq_getElem?_getD, List.getElem?_eq_getElem hj] at h
  exact h
/-- What Insert among the values does. -/
theorem ins_law (I : TInv a m) {i : Nat} (hi : i < a.length) {v : V} (hv : vok v = true) {a' : List V} {m' : List Sl} (h : AddR m (a.take i ++ (v :: (a.drop i).take (a.length - (i + 1)))) (vAt a (a.length - 1)) a' m') (hb : a.length ≤ 1000000) (hb' : a'.length ≤ 1000000) :
    TInv a' m' ∧ ∀ k', vok k' = true → getT a' m' k' = if k' = kI ((a.length : Int) + 1) then vAt a (a.length - 1) else getT (a.take i ++ (v :: (a.drop i).take (a.length - (i + 1)))) m k' := by
  have hl : (a.take i ++ (v :: (a.drop i).take (a.length - (i + 1)))).length = a.length := by
    simp only [List.length_append, List.length_take, List.length_drop, List.length_cons]
    omega
  refine add_law I.inv (fun j hj => ?_) (fun j j1 j2 => I.free j j1 (by rwa [hl] at j2)) (by rw [hl]) (I.val _ (by omega)) (I.last.resolve_left (by omega)) h (by rw [hl]; exact hb) hb'
  have hmem := List.mem_of_getElem? (vAt_get _ _ hj)
  rcases List.mem_append.1 hmem with h1 | h1
  · exact I.all _ (List.mem_of_mem_take h1)
  · rcases List.mem_cons.1 h1 with h1 | h1
    · rw [h1]; exact hv
    · exact I.all _ (List.mem_of_mem_drop (List.mem_of_mem_take h1))
end
end Go.Proofs.Ytoelgnjnbelokaa
