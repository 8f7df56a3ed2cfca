/-
  The plain laws of a table's map without the keys of the array part, and of a key set in it.
-/
import Derived.Test.YtoelgnjnbelokaaTModel2
namespace Go.Proofs.Ytoelgnjnbelokaa

theorem getM_none' {L : List Sl} {k : V} (h : lastIx L k = none) : getM L k = V.zero := by unfold getM; rw [h]
theorem keepJ_get {n : Nat} {m : List Sl} (I : Inv m) (j : Nat) (hj : j ≤ nOf m) : Inv (keepJ n m j) ∧ ∀ k, getM (keepJ n m j) k = if inN n k = true then V.zero else getM ((liveL m).take j) k := by
  induction j with
  | zero =>
    refine ⟨Inv.nil, fun k => ?_⟩
    rw [keepJ_zero, List.take_zero]
    split <;> rfl
  | succ j ih =>
    obtain ⟨I1, h1⟩ := ih (by omega)
    obtain ⟨s1, s2⟩ := keep_step (n := n) I (show j < nOf m by omega)
    have hjl : j < (liveL m).length := by unfold nOf at hj; omega
    have I2 := I.liveL
    have hg : (slAt (liveL m) j).g = false := by
      obtain ⟨a, a1, a2, a3, a4⟩ := liveL_all (L := m) (show j < nOf m by omega)
      rw [a4]; exact a2
    have he : slAt (liveL m) j = ⟨(slAt (liveL m) j).k, (slAt (liveL m) j).v, false⟩ := by
      cases hx : slAt (liveL m) j with
      | mk a b c =>
        rw [hx] at hg
        simp only at hg
        subst hg
        rfl
    have ht : ∀ k, getM ((liveL m).take (j + 1)) k = if (slAt (liveL m) j).k = k then (slAt (liveL m) j).v else getM ((liveL m).take j) k := by
      intro k
      rw [take_succ_sl _ _ hjl]
      by_cases e : (slAt (liveL m) j).k = k
      · rw [if_pos e, ← e, he]
        unfold getM
        rw [lastIx_app_eq]
        simp only
        unfold slAt
        rw [List.getD_eq_getElem?_getD, List.getElem?_append_right (Nat.le_refl _), Nat.sub_self]
        rfl
      · rw [if_neg e, getM_app_ne e]
    cases hin : inN n (slAt (liveL m) j).k with
    | true =>
      rw [s1 hin]
      refine ⟨I1, fun k => ?_⟩
      rw [h1, ht]
      by_cases hk : inN n k = true
      · rw [if_pos hk, if_pos hk]
      · rw [if_neg hk, if_neg hk, if_neg (fun e => hk (by rw [← e]; exact hin))]
    | false =>
      have h2 := s2 hin
      have h3 : (setM (keepJ n m j) (slAt (liveL m) j).k (slAt (liveL m) j).v).2 = keepJ n m (j + 1) := by rw [h2]
      have hk := I2.key j hjl
      have hv := I2.val j hjl hg
      refine ⟨by rw [← h3]; exact I1.setM _ _, fun k => ?_⟩
      rw [← h3, ht]
      by_cases e : (slAt (liveL m) j).k = k
      · subst e
        rw [getM_setM_eq I1 hk hv.1, if_neg (by rw [hin]; simp), if_pos rfl]
      · rw [getM_setM_ne I1 e, h1, if_neg e]
theorem keepM_get {n : Nat} {m : List Sl} (I : Inv m) : Inv (keepM n m) ∧ ∀ k, getM (keepM n m) k = if inN n k = true then V.zero else getM m k := by
  have h := keepJ_get (n := n) I (nOf m) (Nat.le_refl _)
  rw [keepJ_all] at h
  refine ⟨h.1, fun k => ?_⟩
  rw [h.2 k, show (liveL m).take (nOf m) = liveL m from List.take_length, getM_live I]
theorem keepM_free {n : Nat} {m : List Sl} {i : Nat} (h1 : 1 ≤ i) (h2 : i ≤ n) (h3 : (n : Int) ≤ 2147483647) : lastIx (keepM n m) (kI (i : Int)) = none :=
  lastIx_no fun j hj e => by
    rw [← keepJ_all] at hj e
    obtain ⟨i', -, -, h5, h6⟩ := keepJ_mem hj
    rw [e, inN_kI h1 h2 h3] at h6
    cases h6
theorem lastIx_setM_none {L : List Sl} (I : Inv L) {k v k' : V} (hn : k ≠ k') (h : lastIx L k' = none) : lastIx (setM L k v).2 k' = none := by
  unfold setM
  split
  · exact h
  · split
    · exact h
    · split
      · rename_i i ht
        unfold thereM at ht
        cases e : lastIx L k with
        | none => rw [e] at ht; cases ht
        | some i' =>
          rw [e] at ht
          simp only at ht
          split at ht
          · cases ht
          · injection ht with ht
            subst ht
            obtain ⟨a1, a2, -⟩ := lastIx_some e
            simp only
            rw [lastIx_set a1 (by rw [a2]; split <;> rfl)]
            exact h
      · simp only
        split
        · exact h
        · unfold insM
          rw [lastIx_app_ne hn]
          split
          · rw [lastIx_live I]
            unfold thereM
            rw [h]
            rfl
          · exact h
end Go.Proofs.Ytoelgnjnbelokaa
