/-
  The plain laws of a table's map without the keys of the array part, and of a key set in it.
  What Set does to a table that holds what tables hold: the keys' values, and the table still holds it.
  How a table grows: at most one value more a Set.
  How a table grows, at a Set.
  How a table grows, at Insert and Remove.
-/
import Derived.Test.YtoelgnjnbelokaaTModel
import Derived.Test.YtoelgnjnbelokaaTSet
namespace Go.Proofs.Ytoelgnjnbelokaa

theorem getM_none' {L : List Sl} {k : V} (h : lastIx L k = none) : getM L k = V.zero := by unfold getM; rw [h]
theorem keepJ_get {n : Nat} {m : List Sl} (I : Inv m) (j : Nat) (hj : j ≤ nOf m) : Inv (keepJ n m j) ∧ ∀ k, getM (keepJ n m j) k = if inN n k = true then V.zero else getM ((liveL m).take j) k := by
  induction j with
  | zero =>
    refine ⟨Inv.nil, fun k => ?_⟩
    rw [keepJ_zero, List.take_zero]
    split <;> rfl
  | succ j ih =>
    obtain ⟨I1, h1⟩ := ih (by omega)
    obtain ⟨s1, s2⟩ := keep_step (n := n) I (show j < nOf m by omega)
    have hjl : j < (liveL m).length := by unfold nOf at hj; omega
    have I2 := I.liveL
    have hg : (slAt (liveL m) j).g = false := by
      obtain ⟨a, a1, a2, a3, a4⟩ := liveL_all (L := m) (show j < nOf m by omega)
      rw [a4]; exact a2
    have he : slAt (liveL m) j = ⟨(slAt (liveL m) j).k, (slAt (liveL m) j).v, false⟩ := by
      cases hx : slAt (liveL m) j with
      | mk a b c =>
        rw [hx] at hg
        simp only at hg
        subst hg
        rfl
    have ht : ∀ k, getM ((liveL m).take (j + 1)) k = if (slAt (liveL m) j).k = k then (slAt (liveL m) j).v else getM ((liveL m).take j) k := by
      intro k
      rw [take_succ_sl _ _ hjl]
      by_cases e : (slAt (liveL m) j).k = k
      · rw [if_pos e, ← e, he]
        unfold getM
        rw [lastIx_app_eq]
        simp only
        unfold slAt
        rw [List.getD_eq_getElem?_getD, List.getElem?_append_right (Nat.le_refl _), Nat.sub_self]
        rfl
      · rw [if_neg e, getM_app_ne e]
    cases hin : inN n (slAt (liveL m) j).k with
    | true =>
      rw [s1 hin]
      refine ⟨I1, fun k => ?_⟩
      rw [h1, ht]
      by_cases hk : inN n k = true
      · rw [if_pos hk, if_pos hk]
      · rw [if_neg hk, if_neg hk, if_neg (fun e => hk (by rw [← e]; exact hin))]
    | false =>
      have h2 := s2 hin
      have h3 : (setM (keepJ n m j) (slAt (liveL m) j).k (slAt (liveL m) j).v).2 = keepJ n m (j + 1) := by rw [h2]
      have hk := I2.key j hjl
      have hv := I2.val j hjl hg
      refine ⟨by rw [← h3]; exact I1.setM _ _, fun k => ?_⟩
      rw [← h3, ht]
      by_cases e : (slAt (liveL m) j).k = k
      · subst e
        rw [getM_setM_eq I1 hk hv.1, if_neg (by rw [hin]; simp), if_pos rfl]
      · rw [getM_setM_ne I1 e, h1, if_neg e]
theorem keepM_get {n : Nat} {m : List Sl} (I : Inv m) : Inv (keepM n m) ∧ ∀ k, getM (keepM n m) k = if inN n k = true then V.zero else getM m k := by
  have h := keepJ_get (n := n) I (nOf m) (Nat.le_refl _)
  rw [keepJ_all] at h
  refine ⟨h.1, fun k => ?_⟩
  rw [h.2 k, show (liveL m).take (nOf m) = liveL m from List.take_length, getM_live I]
theorem keepM_free {n : Nat} {m : List Sl} {i : Nat} (h1 : 1 ≤ i) (h2 : i ≤ n) (h3 : (n : Int) ≤ 2147483647) : lastIx (keepM n m) (kI (i : Int)) = none :=
  lastIx_no fun j hj e => by
    rw [← keepJ_all] at hj e
    obtain ⟨i', -, -, h5, h6⟩ := keepJ_mem hj
    rw [e, inN_kI h1 h2 h3] at h6
    cases h6
theorem lastIx_setM_none {L : List Sl} (I : Inv L) {k v k' : V} (hn : k ≠ k') (h : lastIx L k' = none) : lastIx (setM L k v).2 k' = none := by
  unfold setM
  split
  · exact h
  · split
    · exact h
    · split
      · rename_i i ht
        unfold thereM at ht
        cases e : lastIx L k with
        | none => rw [e] at ht; cases ht
        | some i' =>
          rw [e] at ht
          simp only at ht
          split at ht
          · cases ht
          · injection ht with ht
            subst ht
            obtain ⟨a1, a2, -⟩ := lastIx_some e
            simp only
            rw [lastIx_set a1 (by rw [a2]; split <;> rfl)]
            exact h
      · simp only
        split
        · exact h
        · unfold insM
          rw [lastIx_app_ne hn]
          split
          · rw [lastIx_live I]
            unfold thereM
            rw [h]
            rfl
          · exact h
end Go.Proofs.Ytoelgnjnbelokaa

namespace Go.Proofs.Ytoelgnjnbelokaa

section
variable {a : List V} {m : List Sl}
theorem inN_mono {n n' : Nat} {k : V} (hn : n ≤ n') (h : inN n k = true) : inN n' k = true := by
  obtain ⟨h1, h2, h3⟩ := inN_iff.1 h
  exact inN_iff.2 ⟨h1, h2, by omega⟩
theorem getT_yes {k : V} (h : vok k = true) (h2 : inN a.length k = true) : getT a m k = vAt a (k.p.toNat - 1) := by unfold getT; rw [if_neg (by rw [h]; simp), if_pos h2]
theorem getT_no {k : V} (h : vok k = true) (h2 : inN a.length k = false) : getT a m k = getM m k := by unfold getT; rw [if_neg (by rw [h]; simp), if_neg (by rw [h2]; simp)]
theorem shrink_law {a1 : List V} (hI : Inv m) (hval : ∀ i, i < a1.length → vok (vAt a1 i) = true) (hfree : ∀ i : Nat, 1 ≤ i → i ≤ a1.length → lastIx m (kI (i : Int)) = none) (hnext : getM m (kI ((a1.length : Int) + 1)) = V.zero) :
    TInv (shrinkA a1) m ∧ ∀ k', vok k' = true → getT (shrinkA a1) m k' = getT a1 m k' := by
  have hle : (shrinkA a1).length ≤ a1.length := by rw [shrinkA_len]; exact shrinkN_le _ _
  refine ⟨⟨hI, fun i hi => ?_, ?_, fun i h1 h2 => hfree i h1 (by omega), ?_⟩, fun k' hk' => ?_⟩
  · rw [(shrinkA_at i).2 hi]
    exact hval i (by omega)
  · rcases shrinkN_last a1 a1.length with h | h
    · exact .inl (by rw [shrinkA_len]; exact h)
    · right
      rw [(shrinkA_at _).1, shrinkA_len]
      exact h
  · by_cases e : (shrinkA a1).length = a1.length
    · rw [e]; exact hnext
    · have h1 := hfree ((shrinkA a1).length + 1) (by omega) (by omega)
      rw [show ((((shrinkA a1).length + 1 : Nat) : Int)) = ((shrinkA a1).length : Int) + 1 by omega] at h1
      exact getM_none' h1
  · cases h1 : inN (shrinkA a1).length k' with
    | true =>
      rw [getT_yes hk' h1, getT_yes hk' (inN_mono hle h1)]
      obtain ⟨j, j1, j2, j3, j4⟩ := inN_get h1
      rw [j4]
      exact (shrinkA_at _).2 (by omega)
    | false =>
      rw [getT_no hk' h1]
      cases h2 : inN a1.length k' with
      | false => rw [getT_no hk' h2]
      | true =>
        rw [getT_yes hk' h2]
        obtain ⟨j, j1, j2, j3, j4⟩ := inN_get h2
        have h3 : ¬ j ≤ (shrinkA a1).length := fun e => by
          have h4 := (inN_iff (n := (shrinkA a1).length)).2 ⟨(inN_iff.1 h2).1, (inN_iff.1 h2).2.1, by rw [j4]; omega⟩
          rw [h1] at h4
          cases h4
        have h5 := (shrinkA_at (a := a1) (j - 1)).1
        rw [vAt_out (by omega)] at h5
        rw [j3, getM_none' (hfree j j1 j2)]
        refine (zero_of_kind ?_ ?_).symm
        · exact hval _ (by unfold kI; simp only; omega)
        · rw [show ((kI (j : Int)).p.toNat - 1) = j - 1 by unfold kI; simp]
          exact h5.symm
theorem getT_set {i : Nat} (hi : i < a.length) (hb : a.length ≤ 1000000) (v : V) {k' : V} (hk' : vok k' = true) : getT (a.set i v) m k' = if k' = kI ((i : Int) + 1) then v else getT a m k' := by
  cases h1 : inN a.length k' with
  | true =>
    rw [getT_yes hk' (by rw [List.length_set]; exact h1), getT_yes hk' h1]
    obtain ⟨j, j1, j2, j3, j4⟩ := inN_get h1
    rw [j4]
    by_cases e : k' = kI ((i : Int) + 1)
    · rw [if_pos e]
      have : (j : Int) = (i : Int) + 1 := kI_inj (j3.symm.trans e)
      rw [show (j : Int).toNat - 1 = i by omega]
      exact vAt_set_eq hi
    · rw [if_neg e]
      refine vAt_set_ne fun h => e ?_
      rw [j3, show (j : Int) = (i : Int) + 1 by omega]
  | false =>
    rw [getT_no hk' (by rw [List.length_set]; exact h1), getT_no hk' h1, if_neg]
    intro e
    have h2 := inN_kI (n := a.length) (i := i + 1) (by omega) (by omega) (by omega)
    rw [show (((i + 1 : Nat)) : Int) = (i : Int) + 1 by omega, ← e, h1] at h2
    cases h2
/-- What add does. -/
theorem add_law (hI : Inv m) (hval : ∀ i, i < a.length → vok (vAt a i) = true) (hfree : ∀ i : Nat, 1 ≤ i → i ≤ a.length → lastIx m (kI (i : Int)) = none) {k v : V} {a' : List V} {m' : List Sl} (hk : k = kI ((a.length : Int) + 1)) (hv : vok v = true) (hv0 : v.k ≠ 0) (h : AddR m a v a' m') (hb : a.length ≤ 1000000) (hb' : a'.length ≤ 1000000) :
    TInv a' m' ∧ ∀ k', vok k' = true → getT a' m' k' = if k' = k then v else getT a m k' := by
  obtain ⟨hl, hpre, hmov, hstop⟩ := h.add
  have hpa : ∀ j, j < a.length + 1 → vAt a' j = vAt (a ++ [v]) j := fun j hj => by rw [← hpre, vAt_take hj]
  have hlow : ∀ j, j < a.length → vAt a' j = vAt a j := fun j hj => by rw [hpa j (by omega), vAt_app_lt hj]
  have hmid : vAt a' a.length = v := by rw [hpa _ (by omega), vAt_app_eq]
  have hmI : Inv m' ∧ ∀ k', inN a'.length k' = false → getM m' k' = getM m k' := by
    rcases h.map with ⟨rfl, -⟩ | rfl
    · exact ⟨hI, fun _ _ => rfl⟩
    · have h1 := keepM_get (n := a'.length) hI
      exact ⟨h1.1, fun k' hk' => by rw [h1.2, if_neg (by rw [hk']; simp)]⟩
  have hkin : inN a'.length k = true := by
    have := inN_kI (n := a'.length) (i := a.length + 1) (by omega) (by omega) (by omega)
    rw [show (((a.length + 1 : Nat)) : Int) = (a.length : Int) + 1 by omega, ← hk] at this
    exact this
  refine ⟨⟨hmI.1, fun j hj => ?_, .inr ?_, fun i i1 i2 => ?_, ?_⟩, fun k' hk' => ?_⟩
  · by_cases e1 : j < a.length
    · rw [hlow j e1]; exact hval j e1
    · by_cases e2 : j = a.length
      · subst e2; rw [hmid]; exact hv
      · rw [(hmov j (by omega) hj).1]; exact getM_valid hI _
  · by_cases e : a'.length = a.length + 1
    · rw [e, Nat.add_sub_cancel, hmid]; exact hv0
    · exact (hmov _ (by omega) (by omega)).2
  · rcases h.map with ⟨rfl, h2⟩ | rfl
    · by_cases e : i ≤ a.length
      · exact hfree i i1 e
      · exact h2 i (by omega) i2
    · exact keepM_free i1 i2 (by omega)
  · rw [hmI.2 _ (by
      cases hx : inN a'.length (kI ((a'.length : Int) + 1)) with
      | false => rfl
      | true =>
        have := (inN_iff.1 hx).2.2
        unfold kI at this
        simp only at this
        omega)]
    exact getM_zero hI hstop
  · cases h1 : inN a'.length k' with
    | true =>
      rw [getT_yes hk' h1]
      obtain ⟨j, j1, j2, j3, j4⟩ := inN_get h1
      rw [j4]
      by_cases e1 : j ≤ a.length
      · have h2 : inN a.length k' = true := inN_iff.2 ⟨(inN_iff.1 h1).1, (inN_iff.1 h1).2.1, by rw [j4]; omega⟩
        rw [if_neg (fun e => by
          have : (j : Int) = (a.length : Int) + 1 := kI_inj ((j3.symm.trans e).trans hk)
          omega), getT_yes hk' h2, j4]
        exact hlow _ (by omega)
      · by_cases e2 : j = a.length + 1
        · subst e2
          rw [if_pos (by rw [j3, hk]; congr 1), show (((a.length + 1 : Nat) : Int)).toNat - 1 = a.length by omega, hmid]
        · have h2 : inN a.length k' = false := by
            cases hx : inN a.length k' with
            | false => rfl
            | true =>
              have := (inN_iff.1 hx).2.2
              rw [j4] at this
              omega
          rw [if_neg (fun e => by
            have : (j : Int) = (a.length : Int) + 1 := kI_inj ((j3.symm.trans e).trans hk)
            omega), getT_no hk' h2, (hmov _ (by omega) (by omega)).1, j3]
          congr 2
          omega
    | false =>
      have h2 : inN a.length k' = false := by
        cases hx : inN a.length k' with
        | false => rfl
        | true => rw [inN_mono (by omega) hx] at h1; cases h1
      rw [getT_no hk' h1, hmI.2 _ h1, if_neg (fun e => by rw [e, hkin] at h1; cases h1), getT_no hk' h2]
theorem SetR.law {k v : V} {e : Int} {a' : List V} {m' : List Sl} (I : TInv a m) (h : SetR a m k v e a' m') (hb : a.length ≤ 1000000) (hb' : a'.length ≤ 1000000) :
    TInv a' m' ∧ ∀ k', vok k' = true → getT a' m' k' = if e = 0 ∧ k' = k then v else getT a m k' := by
  cases h with
  | badKey h => exact ⟨I, fun k' _ => by rw [if_neg (by simp)]⟩
  | badVal h hv => exact ⟨I, fun k' _ => by rw [if_neg (by simp)]⟩
  | here i hi hk hv =>
    have hval : ∀ j, j < (a.set i v).length → vok (vAt (a.set i v) j) = true := fun j hj => by
      rw [List.length_set] at hj
      by_cases e : i = j
      · subst e; rw [vAt_set_eq hi]; exact hv
      · rw [vAt_set_ne e]; exact I.val j hj
    have hg : ∀ k', vok k' = true → getT (a.set i v) m k' = if (0 : Int) = 0 ∧ k' = k then v else getT a m k' := fun k' hk' => by
      rw [getT_set hi hb v hk', hk]
      simp
    by_cases hl : i + 1 = a.length
    · rw [if_pos hl]
      have h1 := shrink_law (a1 := a.set i v) I.inv hval (fun j j1 j2 => I.free j j1 (by rwa [List.length_set] at j2)) (by rw [List.length_set]; exact I.next)
      exact ⟨h1.1, fun k' hk' => (h1.2 k' hk').trans (hg k' hk')⟩
    · rw [if_neg hl]
      refine ⟨⟨I.inv, hval, .inr ?_, fun j j1 j2 => I.free j j1 (by rwa [List.length_set] at j2), by rw [List.length_set]; exact I.next⟩, hg⟩
      rw [List.length_set, vAt_set_ne (by omega)]
      exact I.last.resolve_left (by omega)
  | add hk hv hv0 h =>
    have h1 := add_law I.inv I.val I.free hk hv hv0 h hb hb'
    exact ⟨h1.1, fun k' hk' => by rw [h1.2 k' hk']; simp⟩
  | map hk hv hin hnx h =>
    have hkv : vok k = true := by cases e : vok k with | true => rfl | false => exact absurd (.inr e) hk
    have hk2 : vok k = true ∧ k.k ≠ 0 := ⟨hkv, fun e => hk (.inl e)⟩
    have he : e = 0 := by have := setM_ok (L := m) hk2 hv; rw [h] at this; exact this
    have hm : m' = (setM m k v).2 := by rw [h]
    subst hm
    refine ⟨⟨I.inv.setM _ _, I.val, I.last, fun i i1 i2 => lastIx_setM_none I.inv (fun e => ?_) (I.free i i1 i2), ?_⟩, fun k' hk' => ?_⟩
    · have := inN_kI i1 i2 (show (a.length : Int) ≤ 2147483647 by omega)
      rw [← e, hin] at this
      cases this
    · by_cases e : k = kI ((a.length : Int) + 1)
      · rw [← e, getM_setM_eq I.inv hk2 hv]
        exact zero_of_kind hv (Classical.byContradiction fun h0 => hnx ⟨e, h0⟩)
      · rw [getM_setM_ne I.inv e]
        exact I.next
    · cases h1 : inN a.length k' with
      | true =>
        rw [getT_yes hk' h1, getT_yes hk' h1, if_neg (fun e => by rw [e.2, hin] at h1; cases h1)]
      | false =>
        rw [getT_no hk' h1, getT_no hk' h1]
        by_cases e : k' = k
        · rw [if_pos ⟨he, e⟩, e, getM_setM_eq I.inv hk2 hv]
        · rw [if_neg (fun x => e x.2), getM_setM_ne I.inv (fun x => e x.symm)]
/-- What Remove leaves. -/
theorem rem_law (I : TInv a m) {i : Nat} (hi : i < a.length) : TInv (shrinkA (a.eraseIdx i ++ [V.zero])) m ∧ ∀ k', vok k' = true → getT (shrinkA (a.eraseIdx i ++ [V.zero])) m k' = getT (a.eraseIdx i ++ [V.zero]) m k' := by
  have hl : (a.eraseIdx i ++ [V.zero]).length = a.length := by
    rw [List.length_append, List.length_eraseIdx_of_lt hi, List.length_singleton]
    omega
  refine shrink_law I.inv (fun j hj => ?_) (fun j j1 j2 => I.free j j1 (by rwa [hl] at j2)) (by rw [hl]; exact I.next)
  rw [hl] at hj
  have h1 : (a.eraseIdx i).length = a.length - 1 := List.length_eraseIdx_of_lt hi
  by_cases e : j < a.length - 1
  · rw [vAt_app_lt (by omega)]
    have h2 : vAt (a.eraseIdx i) j = vAt a (if j < i then j else j + 1) := by
      unfold vAt
      rw [List.getD_eq_getElem?_getD, List.getElem?_eraseIdx, List.getD_eq_getElem?_getD]
      split <;> rfl
    rw [h2]
    refine I.val _ ?_
    split <;> omega
  · obtain rfl : j = (a.eraseIdx i).length := by omega
    rw [vAt_app_eq]
    exact zero_valid
theorem TInv.all (I : TInv a m) : ∀ x ∈ a, vok x = true := fun x hx => by
  obtain ⟨j, hj, rfl⟩ := List.getElem_of_mem hx
  have h := I.val j hj
  unfold vAt at h
  rw [List.getD_eq_getElem?_getD, List.getElem?_eq_getElem hj] at h
  exact h
/-- What Insert among the values does. -/
theorem ins_law (I : TInv a m) {i : Nat} (hi : i < a.length) {v : V} (hv : vok v = true) {a' : List V} {m' : List Sl} (h : AddR m (a.take i ++ (v :: (a.drop i).take (a.length - (i + 1)))) (vAt a (a.length - 1)) a' m') (hb : a.length ≤ 1000000) (hb' : a'.length ≤ 1000000) :
    TInv a' m' ∧ ∀ k', vok k' = true → getT a' m' k' = if k' = kI ((a.length : Int) + 1) then vAt a (a.length - 1) else getT (a.take i ++ (v :: (a.drop i).take (a.length - (i + 1)))) m k' := by
  have hl : (a.take i ++ (v :: (a.drop i).take (a.length - (i + 1)))).length = a.length := by
    simp only [List.length_append, List.length_take, List.length_drop, List.length_cons]
    omega
  refine add_law I.inv (fun j hj => ?_) (fun j j1 j2 => I.free j j1 (by rwa [hl] at j2)) (by rw [hl]) (I.val _ (by omega)) (I.last.resolve_left (by omega)) h (by rw [hl]; exact hb) hb'
  have hmem := List.mem_of_getElem? (vAt_get _ _ hj)
  rcases List.mem_append.1 hmem with h1 | h1
  · exact I.all _ (List.mem_of_mem_take h1)
  · rcases List.mem_cons.1 h1 with h1 | h1
    · rw [h1]; exact hv
    · exact I.all _ (List.mem_of_mem_drop (List.mem_of_mem_take h1))
end
end Go.Proofs.Ytoelgnjnbelokaa

namespace Go.Proofs.Ytoelgnjnbelokaa

theorem nodup_len {α : Type} [DecidableEq α] : ∀ (l l' : List α), l.Nodup → (∀ x ∈ l, x ∈ l') → l.length ≤ l'.length
  | [], _, _, _ => Nat.zero_le _
  | x :: t, l', hn, hs => by
    have h1 := List.nodup_cons.1 hn
    have h2 := nodup_len t (l'.erase x) h1.2 (fun y hy => (List.mem_erase_of_ne (fun e => h1.1 (by rw [← e]; exact hy))).2 (hs y (List.mem_cons_of_mem _ hy)))
    have h3 := hs x (List.mem_cons_self ..)
    rw [List.length_erase_of_mem h3] at h2
    have := List.length_pos_of_mem h3
    rw [List.length_cons]
    omega
theorem filter_parts {α : Type} (p : α → Bool) (l : List α) : (l.filter p).length + (l.filter fun x => !p x).length = l.length := by
  induction l with
  | nil => rfl
  | cons x l ih =>
    rw [List.filter_cons, List.filter_cons]
    cases p x
    · simp only [Bool.not_false, if_true, Bool.false_eq_true, if_false, List.length_cons]
      omega
    · simp only [Bool.not_true, if_true, Bool.false_eq_true, if_false, List.length_cons]
      omega
section
variable {a : List V} {m : List Sl}
theorem getM_live_mem (I : Inv m) {k : V} (h : (getM m k).k ≠ 0) : ∃ s ∈ liveL m, s.k = k := by
  obtain ⟨i, h1, h2, h3⟩ := getM_nz h
  refine ⟨slAt m i, ?_, h3⟩
  have hg : (slAt m i).g = false := by
    cases e : (slAt m i).g with
    | false => rfl
    | true =>
      exfalso
      apply h
      unfold getM
      rw [h1]
      simp only
      rw [I.gone i h2 e]
      rfl
  unfold liveL
  exact List.mem_filter.2 ⟨List.mem_of_getElem? (slAt_get _ _ h2), by rw [hg]; rfl⟩
theorem add_bound (I : Inv m) {v : V} {a' : List V} {m' : List Sl} (h : AddR m a v a' m') (hb : a.length ≤ 1000000) : a'.length ≤ 2147483647 := by
  refine Classical.byContradiction fun h0 => ?_
  obtain ⟨h3, h4⟩ := h.add.mov 2147483647 (by omega) (by omega)
  rw [h3] at h4
  obtain ⟨i, -, h2, h5⟩ := getM_nz h4
  have h6 := (I.key i h2).1
  rw [h5] at h6
  have h7 : isI (kI (((2147483647 : Nat) : Int) + 1)) = true := by unfold isI; rw [h6]; simp [kI]
  have h8 := (isI_eq h7).2.2
  unfold kI at h8
  simp only at h8
  omega
theorem add_len (I : Inv m) {v : V} {a' : List V} {m' : List Sl} (h : AddR m a v a' m') (hb : a.length ≤ 1000000) : a'.length + nOf m' ≤ a.length + nOf m + 1 ∧ m'.length ≤ m.length := by
  have hb' := add_bound I h hb
  obtain ⟨hl, -, hmov, -⟩ := h.add
  rcases h.map with ⟨rfl, h2⟩ | rfl
  · refine ⟨?_, Nat.le_refl _⟩
    by_cases e : a'.length = a.length + 1
    · omega
    · exfalso
      obtain ⟨h3, h4⟩ := hmov (a.length + 1) (by omega) (by omega)
      rw [h3] at h4
      have h5 := h2 (a.length + 2) (by omega) (by omega)
      rw [show (((a.length + 2 : Nat)) : Int) = ((a.length + 1 : Nat) : Int) + 1 by omega] at h5
      rw [getM_none' h5] at h4
      exact h4 rfl
  · have hk : nOf (keepM a'.length m) = (keepM a'.length m).length := by
      rw [← keepJ_all]
      unfold nOf
      rw [keep_live]
    have hp := filter_parts (fun s : Sl => inN a'.length s.k) (liveL m)
    have hkl : (keepM a'.length m).length = ((liveL m).filter fun s => !inN a'.length s.k).length := rfl
    have hsub := nodup_len ((List.range (a'.length - (a.length + 1))).map fun t : Nat => kI ((a.length : Int) + 2 + (t : Int))) (((liveL m).filter fun s => inN a'.length s.k).map fun s => s.k) (by
      rw [List.nodup_iff_pairwise_ne, List.pairwise_map]
      refine List.Pairwise.imp ?_ (List.nodup_range (n := a'.length - (a.length + 1)))
      intro x y hxy e
      have := kI_inj e
      omega) (fun x hx => by
      obtain ⟨t, ht, rfl⟩ := List.mem_map.1 hx
      rw [List.mem_range] at ht
      obtain ⟨h3, h4⟩ := hmov (a.length + 1 + t) (by omega) (by omega)
      rw [h3, show (((a.length + 1 + t : Nat)) : Int) + 1 = (a.length : Int) + 2 + (t : Int) by omega] at h4
      obtain ⟨s, hs, hsk⟩ := getM_live_mem I h4
      refine List.mem_map.2 ⟨s, List.mem_filter.2 ⟨hs, ?_⟩, hsk⟩
      rw [hsk, show (a.length : Int) + 2 + (t : Int) = ((a.length + 2 + t : Nat) : Int) by omega]
      exact inN_kI (by omega) (by omega) (by omega))
    rw [List.length_map, List.length_range, List.length_map] at hsub
    have hle : nOf m ≤ m.length := List.length_filter_le _ _
    have hnm : nOf m = (liveL m).length := rfl
    refine ⟨?_, ?_⟩ <;> omega
end
end Go.Proofs.Ytoelgnjnbelokaa

namespace Go.Proofs.Ytoelgnjnbelokaa

theorem filter_set_le {α : Type} (p : α → Bool) (x : α) : ∀ (l : List α) (i : Nat), ((l.set i x).filter p).length ≤ (l.filter p).length + 1
  | [], i => by simp
  | y :: l, 0 => by
    rw [List.set_cons_zero, List.filter_cons, List.filter_cons]
    split <;> split <;> (try simp only [List.length_cons]) <;> omega
  | y :: l, i + 1 => by
    rw [List.set_cons_succ, List.filter_cons, List.filter_cons]
    have := filter_set_le p x l i
    split <;> (try simp only [List.length_cons]) <;> omega
theorem ins_nOf (L : List Sl) (k v : V) : nOf (insM L k v) = nOf L + 1 := by
  unfold insM nOf liveL
  split <;> simp [List.filter_append, List.filter_filter]
theorem setM_nOf (L : List Sl) (k v : V) : nOf (setM L k v).2 ≤ nOf L + 1 := by
  unfold setM
  split
  · exact Nat.le_succ _
  · split
    · exact Nat.le_succ _
    · split
      · exact filter_set_le _ _ _ _
      · simp only
        split
        · exact Nat.le_succ _
        · rw [ins_nOf]
          exact Nat.le_refl _
section
variable {a : List V} {m : List Sl}
theorem SetR.len {k v : V} {e : Int} {a' : List V} {m' : List Sl} (I : Inv m) (h : SetR a m k v e a' m') (hb : a.length ≤ 1000000) : a'.length + nOf m' ≤ a.length + nOf m + 1 ∧ m'.length ≤ m.length + 1 := by
  cases h with
  | badKey h => exact ⟨by omega, by omega⟩
  | badVal h hv => exact ⟨by omega, by omega⟩
  | here i hi hk hv =>
    refine ⟨?_, by omega⟩
    have h1 : (if i + 1 = a.length then shrinkA (a.set i v) else a.set i v).length ≤ a.length := by
      split
      · rw [shrinkA_len]
        have := shrinkN_le (a.set i v) (a.set i v).length
        rw [List.length_set] at this ⊢
        exact this
      · rw [List.length_set]
        exact Nat.le_refl _
    omega
  | add hk hv hv0 h =>
    have h1 := add_len I h hb
    exact ⟨h1.1, by omega⟩
  | map hk hv hin hnx h =>
    have h1 := setM_nOf m k v
    have h2 := setM_len m k v
    rw [h] at h1 h2
    simp only at h1 h2
    exact ⟨by omega, h2⟩
end
end Go.Proofs.Ytoelgnjnbelokaa

namespace Go.Proofs.Ytoelgnjnbelokaa

section
variable {a : List V} {m : List Sl}
theorem ins_len (I : Inv m) {i : Nat} (hi : i < a.length) {v x : V} {a' : List V} {m' : List Sl} (h : AddR m (a.take i ++ (v :: (a.drop i).take (a.length - (i + 1)))) x a' m') (hb : a.length ≤ 1000000) : a'.length + nOf m' ≤ a.length + nOf m + 1 ∧ m'.length ≤ m.length := by
  have hl : (a.take i ++ (v :: (a.drop i).take (a.length - (i + 1)))).length = a.length := by
    simp only [List.length_append, List.length_take, List.length_drop, List.length_cons]
    omega
  have h1 := add_len I h (by rw [hl]; exact hb)
  rwa [hl] at h1
theorem rem_len {i : Nat} (hi : i < a.length) : (shrinkA (a.eraseIdx i ++ [V.zero])).length ≤ a.length := by
  rw [shrinkA_len]
  have h1 := shrinkN_le (a.eraseIdx i ++ [V.zero]) (a.eraseIdx i ++ [V.zero]).length
  rw [List.length_append, List.length_eraseIdx_of_lt hi, List.length_singleton] at h1 ⊢
  omega
end
end Go.Proofs.Ytoelgnjnbelokaa
