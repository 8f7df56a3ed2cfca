/-
  The plain laws of the values that follow in the map part, and of the map without the keys of the array part.
-/
import Derived.Test.YtoelgnjnbelokaaTModel
namespace Go.Proofs.Ytoelgnjnbelokaa

theorem getM_nz {m : List Sl} {k : V} (h : (getM m k).k ≠ 0) : ∃ i, lastIx m k = some i ∧ i < m.length ∧ (slAt m i).k = k := by
  unfold getM at h
  cases e : lastIx m k with
  | none => rw [e] at h; exact absurd rfl h
  | some i =>
    obtain ⟨h1, h2, _⟩ := lastIx_some e
    exact ⟨i, rfl, h1, h2⟩
/-- On the way: a and v, or some values more and the next one. -/
structure AddQ (m : List Sl) (a : List V) (v : V) (a1 : List V) : Prop where
  len : a.length + 1 ≤ a1.length
  pre : a1.take (a.length + 1) = a ++ [v]
  mov : ∀ i, a.length + 1 ≤ i → i < a1.length → vAt a1 i = getM m (kI ((i : Int) + 1)) ∧ (vAt a1 i).k ≠ 0
def AddW (m : List Sl) (a : List V) (v : V) (a1 : List V) (v1 : V) : Prop := (a1 = a ∧ v1 = v) ∨ (AddQ m a v a1 ∧ v1 = getM m (kI ((a1.length : Int) + 1)))
theorem AddW.step {m : List Sl} {a a1 : List V} {v v1 : V} (h : AddW m a v a1 v1) (hv : v1.k ≠ 0) : AddQ m a v (a1 ++ [v1]) := by
  rcases h with ⟨rfl, rfl⟩ | ⟨h, rfl⟩
  · refine ⟨by simp, ?_, fun i h1 h2 => ?_⟩
    · rw [List.take_of_length_le (by simp)]
    · rw [List.length_append, List.length_singleton] at h2; omega
  · refine ⟨by rw [List.length_append]; have := h.len; omega, ?_, fun i h1 h2 => ?_⟩
    · rw [List.take_append_of_le_length h.len]; exact h.pre
    · rw [List.length_append, List.length_singleton] at h2
      by_cases e : i < a1.length
      · rw [vAt_app_lt e]; exact h.mov i h1 e
      · obtain rfl : i = a1.length := by omega
        rw [vAt_app_eq]
        exact ⟨rfl, hv⟩
theorem cntI_le (m : List Sl) (n : Nat) : cntI m n ≤ m.length := List.length_filter_le _ _
/-- The next value: fewer slots are left. -/
theorem cntI_next {m : List Sl} {n : Nat} (hn : (n : Int) + 2 ≤ 2147483647) (h : (getM m (kI (((n + 1 : Nat) : Int) + 1))).k ≠ 0) : cntI m (n + 2) < cntI m (n + 1) := by
  obtain ⟨i, -, h2, h3⟩ := getM_nz h
  exact cntI_step (n := n + 1) h2 h3 (by omega)
theorem kI_ne_zero (n : Int) : kI n ≠ V.zero := fun e => by unfold kI V.zero at e; injection e with e; cases e
theorem next_err {m : List Sl} (n : Int) : (nextM m (kI n)).2.2.2 = if lastIx m (kI n) = none then 13 else 0 := by
  unfold nextM
  rw [if_neg (kI_ne_zero n)]
  cases e : lastIx m (kI n) with
  | none => rfl
  | some i =>
    simp only
    rw [if_neg (by simp)]
    unfold entM
    split <;> rfl
/-- Whether a key that was appended has a slot. -/
def staleB (m : List Sl) (lo hi : Nat) : Bool := (List.range (hi + 1)).any fun i => decide (lo ≤ i) && (lastIx m (kI (i : Int))).isSome
theorem staleB_false {m : List Sl} {lo hi : Nat} (h : staleB m lo hi = false) : ∀ i : Nat, lo ≤ i → i ≤ hi → lastIx m (kI (i : Int)) = none := by
  intro i h1 h2
  unfold staleB at h
  rw [List.any_eq_false] at h
  have := h i (List.mem_range.2 (by omega))
  simpa [h1] using this
theorem staleB_none {m : List Sl} {lo hi : Nat} (h : hi < lo) : staleB m lo hi = false := by
  unfold staleB
  rw [List.any_eq_false]
  intro i hi'
  have := List.mem_range.1 hi'
  simp
  intro h1
  omega
theorem staleB_succ {m : List Sl} {lo hi : Nat} (h : lo ≤ hi + 1) : staleB m lo (hi + 1) = (staleB m lo hi || (lastIx m (kI ((hi + 1 : Nat) : Int))).isSome) := by
  unfold staleB
  rw [List.range_succ, List.any_append]
  simp [h]
/-! ### The map without the keys of the array part -/
def keepJ (n : Nat) (m : List Sl) (j : Nat) : List Sl := ((liveL m).take j).filter fun s => !inN n s.k
theorem keepJ_zero (n : Nat) (m : List Sl) : keepJ n m 0 = [] := rfl
theorem keepJ_all (n : Nat) (m : List Sl) : keepJ n m (nOf m) = keepM n m := by
  unfold keepJ keepM nOf
  rw [List.take_length]
theorem keepJ_len (n : Nat) (m : List Sl) (j : Nat) : (keepJ n m j).length ≤ j := by
  unfold keepJ
  refine Nat.le_trans (List.length_filter_le _ _) ?_
  rw [List.length_take]
  omega
theorem keepJ_mem {n : Nat} {m : List Sl} {j i : Nat} (h : i < (keepJ n m j).length) : ∃ i', i' < j ∧ i' < nOf m ∧ slAt (keepJ n m j) i = slAt (liveL m) i' ∧ inN n (slAt (keepJ n m j) i).k = false := by
  have hm : slAt (keepJ n m j) i ∈ keepJ n m j := by
    have := slAt_get _ _ h
    exact List.mem_of_getElem? this
  unfold keepJ at hm
  obtain ⟨h1, h2⟩ := List.mem_filter.1 hm
  obtain ⟨i', h3, h4⟩ := List.getElem_of_mem h1
  rw [List.length_take] at h3
  refine ⟨i', by omega, by unfold nOf; omega, ?_, by simp only [Bool.not_eq_true'] at h2; exact h2⟩
  rw [show slAt (keepJ n m j) i = _ from h4.symm]
  unfold slAt
  rw [List.getElem_take, List.getD_eq_getElem?_getD, List.getElem?_eq_getElem (by omega)]
  rfl
theorem keep_live {n : Nat} {m : List Sl} {j : Nat} : liveL (keepJ n m j) = keepJ n m j := by
  unfold liveL
  rw [List.filter_eq_self]
  intro s hs
  unfold keepJ at hs
  have h1 := (List.mem_filter.1 hs).1
  have h2 := List.mem_of_mem_take h1
  exact (List.mem_filter.1 h2).2
theorem keep_step {n : Nat} {m : List Sl} (I : Inv m) {j : Nat} (hj : j < nOf m) :
    (inN n (slAt (liveL m) j).k = true → keepJ n m (j + 1) = keepJ n m j) ∧ (inN n (slAt (liveL m) j).k = false → setM (keepJ n m j) (slAt (liveL m) j).k (slAt (liveL m) j).v = (0, keepJ n m (j + 1))) := by
  have hs : keepJ n m (j + 1) = keepJ n m j ++ (if inN n (slAt (liveL m) j).k = true then [] else [slAt (liveL m) j]) := by
    unfold keepJ
    rw [take_succ_sl _ _ hj, List.filter_append]
    congr 1
    by_cases h : inN n (slAt (liveL m) j).k = true
    · rw [if_pos h]; simp [h]
    · rw [if_neg h]; simp [h]
  refine ⟨fun h => by rw [hs, if_pos h]; simp, fun h => ?_⟩
  have I2 := I.liveL
  have hg : (slAt (liveL m) j).g = false := by
    obtain ⟨a, a1, a2, a3, a4⟩ := liveL_all (L := m) hj
    rw [a4]; exact a2
  have hk := I2.key j hj
  have hv := I2.val j hj hg
  have ht : thereM (keepJ n m j) (slAt (liveL m) j).k = none := by
    have : lastIx (keepJ n m j) (slAt (liveL m) j).k = none := lastIx_no fun i hi e => by
      obtain ⟨i', h1, h2, h3, -⟩ := keepJ_mem hi
      rw [h3] at e
      have h4 := I2.last i' j h1 hj e
      obtain ⟨a, a1, a2, a3, a4⟩ := liveL_all (L := m) h2
      rw [a4, a2] at h4
      cases h4
    unfold thereM
    rw [this]
  have he : (⟨(slAt (liveL m) j).k, (slAt (liveL m) j).v, false⟩ : Sl) = slAt (liveL m) j := by
    cases hx : slAt (liveL m) j with
    | mk a b c =>
      rw [hx] at hg
      simp only at hg
      subst hg
      rfl
  unfold setM
  rw [if_neg (by rw [hk.1]; simp [hk.2]), if_neg (by rw [hv.1]; simp), ht]
  simp only
  rw [if_neg hv.2]
  unfold insM
  rw [if_neg (by unfold nOf; rw [keep_live]; omega), he, hs, if_neg (by rw [h]; simp)]
theorem live_get {m : List Sl} (I : Inv m) {j : Nat} (hj : j < nOf m) : getM m (slAt (liveL m) j).k = (slAt (liveL m) j).v := by
  obtain ⟨a, a1, a2, a3, a4⟩ := liveL_all (L := m) hj
  rw [a4]
  unfold getM
  rw [(there_of I a1 a2).1]
end Go.Proofs.Ytoelgnjnbelokaa
