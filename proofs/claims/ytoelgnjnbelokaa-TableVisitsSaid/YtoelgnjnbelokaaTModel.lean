/-
  The plain model of a table: the values of the keys 1 to len, and a map of all other keys.
  The plain laws of the values that follow in the map part, and of the map without the keys of the array part.
-/
import Derived.Test.YtoelgnjnbelokaaModel
namespace Go.Proofs.Ytoelgnjnbelokaa

def kI (n : Int) : V := ⟨2, n, 1, ⟨#[]⟩, 0⟩
/-- An integer key. -/
def isI (k : V) : Bool := decide (k.k = 2) && decide (k.q = 1) && vok k
theorem isI_kI {n : Int} (h1 : -2147483647 ≤ n) (h2 : n ≤ 2147483647) : isI (kI n) = true ∧ vok (kI n) = true := by
  have hv : vok (kI n) = true := by
    have hg : Nat.gcd n.natAbs (1 : Int).toNat = 1 := Nat.gcd_one_right _
    have hs : (⟨#[]⟩ : ByteArray).toList = [] := by decide +kernel
    simp [vok, kI, numOk, h1, h2, hs]
  exact ⟨by unfold isI; rw [hv]; simp [kI], hv⟩
theorem isI_eq {k : V} (h : isI k = true) : k = kI k.p ∧ -2147483647 ≤ k.p ∧ k.p ≤ 2147483647 := by
  unfold isI at h
  simp only [Bool.and_eq_true, decide_eq_true_eq] at h
  obtain ⟨⟨h1, h2⟩, h3⟩ := h
  obtain ⟨k, p, q, s, r⟩ := k
  simp only at h1 h2
  subst h1 h2
  unfold vok at h3
  simp [numOk] at h3
  obtain ⟨⟨⟨hp1, hp2⟩, hs⟩, rfl⟩ := h3
  exact ⟨by unfold kI; rw [bytes_nil hs], hp1, hp2⟩
theorem kI_inj {n m : Int} (h : kI n = kI m) : n = m := by
  unfold kI at h
  injection h
theorem isI_vok {k : V} (h : isI k = true) : vok k = true := by
  unfold isI at h
  simp only [Bool.and_eq_true] at h
  exact h.2
/-- A key of the first n. -/
def inN (n : Nat) (k : V) : Bool := isI k && decide (1 ≤ k.p) && decide (k.p ≤ (n : Int))
theorem inN_iff {n : Nat} {k : V} : inN n k = true ↔ isI k = true ∧ 1 ≤ k.p ∧ k.p ≤ (n : Int) := by
  unfold inN
  simp [and_assoc]
theorem inN_kI {n : Nat} {i : Nat} (h1 : 1 ≤ i) (h2 : i ≤ n) (h3 : (n : Int) ≤ 2147483647) : inN n (kI (i : Int)) = true :=
  inN_iff.2 ⟨(isI_kI (by omega) (by omega)).1, by unfold kI; simp only; omega, by unfold kI; simp only; omega⟩
theorem inN_get {n : Nat} {k : V} (h : inN n k = true) : ∃ i : Nat, 1 ≤ i ∧ i ≤ n ∧ k = kI (i : Int) ∧ k.p = (i : Int) := by
  obtain ⟨h1, h2, h3⟩ := inN_iff.1 h
  refine ⟨k.p.toNat, by omega, by omega, ?_, by omega⟩
  rw [show ((k.p.toNat : Nat) : Int) = k.p by omega]
  exact (isI_eq h1).1
/-- The value of a key. -/
def getT (a : List V) (m : List Sl) (k : V) : V := if vok k = false then V.zero else if inN a.length k = true then vAt a (k.p.toNat - 1) else getM m k
/-- The length without the values nil at the end. -/
def shrinkN (a : List V) : Nat → Nat
  | 0 => 0
  | n + 1 => if (vAt a n).k = 0 then shrinkN a n else n + 1
def shrinkA (a : List V) : List V := a.take (shrinkN a a.length)
theorem shrinkN_le (a : List V) (n : Nat) : shrinkN a n ≤ n := by
  induction n with
  | zero => exact Nat.le_refl _
  | succ n ih =>
    unfold shrinkN
    split
    · omega
    · exact Nat.le_refl _
theorem shrinkN_nil {a : List V} {n i : Nat} (h1 : shrinkN a n ≤ i) (h2 : i < n) : (vAt a i).k = 0 := by
  induction n with
  | zero => omega
  | succ n ih =>
    unfold shrinkN at h1
    split at h1
    · rename_i h
      by_cases e : i = n
      · subst e; exact h
      · exact ih h1 (by omega)
    · omega
theorem shrinkN_last (a : List V) (n : Nat) : shrinkN a n = 0 ∨ (vAt a (shrinkN a n - 1)).k ≠ 0 := by
  induction n with
  | zero => exact .inl rfl
  | succ n ih =>
    unfold shrinkN
    split
    · exact ih
    · rename_i h
      right
      simpa using h
theorem vAt_take {a : List V} {n i : Nat} (h : i < n) : vAt (a.take n) i = vAt a i := by
  unfold vAt
  rw [List.getD_eq_getElem?_getD, List.getD_eq_getElem?_getD, List.getElem?_take_of_lt h]
theorem vAt_set_eq {a : List V} {i : Nat} {v : V} (h : i < a.length) : vAt (a.set i v) i = v := by
  unfold vAt; rw [List.getD_eq_getElem?_getD, List.getElem?_set_self h]; rfl
theorem vAt_set_ne {a : List V} {i j : Nat} {v : V} (h : i ≠ j) : vAt (a.set i v) j = vAt a j := by
  unfold vAt; rw [List.getD_eq_getElem?_getD, List.getD_eq_getElem?_getD, List.getElem?_set_ne h]
theorem vAt_app_lt {a b : List V} {i : Nat} (h : i < a.length) : vAt (a ++ b) i = vAt a i := by
  unfold vAt; rw [List.getD_eq_getElem?_getD, List.getD_eq_getElem?_getD, List.getElem?_append_left h]
theorem vAt_app_eq {a : List V} {v : V} : vAt (a ++ [v]) a.length = v := by unfold vAt; simp
theorem vAt_out {a : List V} {i : Nat} (h : a.length ≤ i) : vAt a i = V.zero := by
  unfold vAt; rw [List.getD_eq_getElem?_getD, List.getElem?_eq_none h]; rfl
theorem shrinkA_len (a : List V) : (shrinkA a).length = shrinkN a a.length := by
  unfold shrinkA
  rw [List.length_take]
  have := shrinkN_le a a.length
  omega
theorem shrinkA_at {a : List V} (i : Nat) : (vAt (shrinkA a) i).k = (vAt a i).k ∧ (i < (shrinkA a).length → vAt (shrinkA a) i = vAt a i) := by
  by_cases h : i < (shrinkA a).length
  · have e : vAt (shrinkA a) i = vAt a i := by
      unfold shrinkA
      rw [shrinkA_len] at h
      exact vAt_take h
    exact ⟨by rw [e], fun _ => e⟩
  · refine ⟨?_, fun h' => absurd h' h⟩
    rw [vAt_out (by omega)]
    rw [shrinkA_len] at h
    by_cases h2 : i < a.length
    · exact (shrinkN_nil (by omega) h2).symm
    · rw [vAt_out (by omega)]
/-! ### What holds of a table -/
structure TInv (a : List V) (m : List Sl) : Prop where
  inv : Inv m
  val : ∀ i, i < a.length → vok (vAt a i) = true
  last : a.length = 0 ∨ (vAt a (a.length - 1)).k ≠ 0
  free : ∀ i : Nat, 1 ≤ i → i ≤ a.length → lastIx m (kI (i : Int)) = none
  next : getM m (kI ((a.length : Int) + 1)) = V.zero
theorem TInv.nil : TInv [] [] := ⟨Inv.nil, fun i h => absurd h (by simp), .inl rfl, fun i h1 h2 => by simp at h2; omega, rfl⟩
theorem zero_valid : vok V.zero = true := by decide +kernel
theorem getM_valid {m : List Sl} (I : Inv m) (k : V) : vok (getM m k) = true := by
  unfold getM
  cases e : lastIx m k with
  | none => exact zero_valid
  | some i =>
    obtain ⟨h1, _, _⟩ := lastIx_some e
    cases hg : (slAt m i).g with
    | true => simp only; rw [I.gone i h1 hg]; exact zero_valid
    | false => exact (I.val i h1 hg).1
theorem getM_zero {m : List Sl} (I : Inv m) {k : V} (h : (getM m k).k = 0) : getM m k = V.zero := zero_of_kind (getM_valid I k) h
theorem TInv.getT_valid {a : List V} {m : List Sl} (I : TInv a m) (k : V) : vok (getT a m k) = true := by
  unfold getT
  split
  · exact zero_valid
  · split
    · rename_i h
      obtain ⟨i, h1, h2, -, h4⟩ := inN_get h
      rw [h4]
      exact I.val _ (by omega)
    · exact getM_valid I.inv k
/-! ### The values that follow -/
/-- The array part after v was appended, and those of the keys that follow. -/
structure AddP (m : List Sl) (a : List V) (v : V) (a' : List V) : Prop where
  len : a.length + 1 ≤ a'.length
  pre : a'.take (a.length + 1) = a ++ [v]
  mov : ∀ i, a.length + 1 ≤ i → i < a'.length → vAt a' i = getM m (kI ((i : Int) + 1)) ∧ (vAt a' i).k ≠ 0
  stop : (getM m (kI ((a'.length : Int) + 1))).k = 0
/-- The slots of integer keys beyond n. -/
def cntI (m : List Sl) (n : Nat) : Nat := (m.filter fun s => isI s.k && decide ((n : Int) < s.k.p)).length
theorem cntI_step {m : List Sl} {n : Nat} {i : Nat} (hi : i < m.length) (hk : (slAt m i).k = kI ((n : Int) + 1)) (hn : (n : Int) + 1 ≤ 2147483647) : cntI m (n + 1) < cntI m n := by
  have key : ∀ (l : List Sl), cntI l (n + 1) ≤ cntI l n := by
    intro l
    unfold cntI
    induction l with
    | nil => exact Nat.le_refl _
    | cons s l ih =>
      rw [List.filter_cons, List.filter_cons]
      by_cases h1 : (isI s.k && decide (((n + 1 : Nat) : Int) < s.k.p)) = true
      · have h2 : (isI s.k && decide ((n : Int) < s.k.p)) = true := by
          simp only [Bool.and_eq_true, decide_eq_true_eq] at h1 ⊢
          exact ⟨h1.1, by omega⟩
        rw [if_pos h1, if_pos h2]
        simpa using ih
      · rw [if_neg h1]
        split
        · simp only [List.length_cons]; omega
        · exact ih
  have hs : m = m.take i ++ [slAt m i] ++ m.drop (i + 1) := by rw [← take_succ_sl m i hi, List.take_append_drop]
  have e : ∀ k, cntI m k = cntI (m.take i) k + cntI [slAt m i] k + cntI (m.drop (i + 1)) k := fun k => by
    conv => lhs; rw [hs]
    unfold cntI
    rw [List.filter_append, List.filter_append, List.length_append, List.length_append]
  rw [e, e]
  have h1 := key (m.take i)
  have h2 := key (m.drop (i + 1))
  have h3 : cntI [slAt m i] (n + 1) = 0 := by
    have : (isI (slAt m i).k && decide (((n + 1 : Nat) : Int) < (slAt m i).k.p)) = false := by rw [hk]; simp [kI]
    unfold cntI
    rw [List.filter_cons, if_neg (by rw [this]; simp)]
    rfl
  have h4 : cntI [slAt m i] n = 1 := by
    have : (isI (slAt m i).k && decide ((n : Int) < (slAt m i).k.p)) = true := by
      rw [hk, (isI_kI (n := (n : Int) + 1) (by omega) hn).1]
      exact decide_eq_true (show (n : Int) < (n : Int) + 1 by omega)
    unfold cntI
    rw [List.filter_cons, if_pos this]
    rfl
  omega
/-- The map after the keys of the array part were dropped. -/
def keepM (n : Nat) (m : List Sl) : List Sl := (liveL m).filter fun s => !inN n s.k
structure AddR (m : List Sl) (a : List V) (v : V) (a' : List V) (m' : List Sl) : Prop where
  add : AddP m a v a'
  map : (m' = m ∧ ∀ i : Nat, a.length + 1 ≤ i → i ≤ a'.length → lastIx m (kI (i : Int)) = none) ∨ m' = keepM a'.length m
end Go.Proofs.Ytoelgnjnbelokaa

namespace Go.Proofs.Ytoelgnjnbelokaa

theorem getM_nz {m : List Sl} {k : V} (h : (getM m k).k ≠ 0) : ∃ i, lastIx m k = some i ∧ i < m.length ∧ (slAt m i).k = k := by
  unfold getM at h
  cases e : lastIx m k with
  | none => rw [e] at h; exact absurd rfl h
  | some i =>
    obtain ⟨h1, h2, _⟩ := lastIx_some e
    exact ⟨i, rfl, h1, h2⟩
/-- On the way: a and v, or some values more and the next one. -/
structure AddQ (m : List Sl) (a : List V) (v : V) (a1 : List V) : Prop where
  len : a.length + 1 ≤ a1.length
  pre : a1.take (a.length + 1) = a ++ [v]
  mov : ∀ i, a.length + 1 ≤ i → i < a1.length → vAt a1 i = getM m (kI ((i : Int) + 1)) ∧ (vAt a1 i).k ≠ 0
def AddW (m : List Sl) (a : List V) (v : V) (a1 : List V) (v1 : V) : Prop := (a1 = a ∧ v1 = v) ∨ (AddQ m a v a1 ∧ v1 = getM m (kI ((a1.length : Int) + 1)))
theorem AddW.step {m : List Sl} {a a1 : List V} {v v1 : V} (h : AddW m a v a1 v1) (hv : v1.k ≠ 0) : AddQ m a v (a1 ++ [v1]) := by
  rcases h with ⟨rfl, rfl⟩ | ⟨h, rfl⟩
  · refine ⟨by simp, ?_, fun i h1 h2 => ?_⟩
    · rw [List.take_of_length_le (by simp)]
    · rw [List.length_append, List.length_singleton] at h2; omega
  · refine ⟨by rw [List.length_append]; have := h.len; omega, ?_, fun i h1 h2 => ?_⟩
    · rw [List.take_append_of_le_length h.len]; exact h.pre
    · rw [List.length_append, List.length_singleton] at h2
      by_cases e : i < a1.length
      · rw [vAt_app_lt e]; exact h.mov i h1 e
      · obtain rfl : i = a1.length := by omega
        rw [vAt_app_eq]
        exact ⟨rfl, hv⟩
theorem cntI_le (m : List Sl) (n : Nat) : cntI m n ≤ m.length := List.length_filter_le _ _
/-- The next value: fewer slots are left. -/
theorem cntI_next {m : List Sl} {n : Nat} (hn : (n : Int) + 2 ≤ 2147483647) (h : (getM m (kI (((n + 1 : Nat) : Int) + 1))).k ≠ 0) : cntI m (n + 2) < cntI m (n + 1) := by
  obtain ⟨i, -, h2, h3⟩ := getM_nz h
  exact cntI_step (n := n + 1) h2 h3 (by omega)
theorem kI_ne_zero (n : Int) : kI n ≠ V.zero := fun e => by unfold kI V.zero at e; injection e with e; cases e
theorem next_err {m : List Sl} (n : Int) : (nextM m (kI n)).2.2.2 = if lastIx m (kI n) = none then 13 else 0 := by
  unfold nextM
  rw [if_neg (kI_ne_zero n)]
  cases e : lastIx m (kI n) with
  | none => rfl
  | some i =>
    simp only
    rw [if_neg (by simp)]
    unfold entM
    split <;> rfl
/-- Whether a key that was appended has a slot. -/
def staleB (m : List Sl) (lo hi : Nat) : Bool := (List.range (hi + 1)).any fun i => decide (lo ≤ i) && (lastIx m (kI (i : Int))).isSome
theorem staleB_false {m : List Sl} {lo hi : Nat} (h : staleB m lo hi = false) : ∀ i : Nat, lo ≤ i → i ≤ hi → lastIx m (kI (i : Int)) = none := by
  intro i h1 h2
  unfold staleB at h
  rw [List.any_eq_false] at h
  have := h i (List.mem_range.2 (by omega))
  simpa [h1] using this
theorem staleB_none {m : List Sl} {lo hi : Nat} (h : hi < lo) : staleB m lo hi = false := by
  unfold staleB
  rw [List.any_eq_false]
  intro i hi'
  have := List.mem_range.1 hi'
  simp
  intro h1
  omega
theorem staleB_succ {m : List Sl} {lo hi : Nat} (h : lo ≤ hi + 1) : staleB m lo (hi + 1) = (staleB m lo hi || (lastIx m (kI ((hi + 1 : Nat) : Int))).isSome) := by
  unfold staleB
  rw [List.range_succ, List.any_append]
  simp [h]
/-! ### The map without the keys of the array part -/
def keepJ (n : Nat) (m : List Sl) (j : Nat) : List Sl := ((liveL m).take j).filter fun s => !inN n s.k
theorem keepJ_zero (n : Nat) (m : List Sl) : keepJ n m 0 = [] := rfl
theorem keepJ_all (n : Nat) (m : List Sl) : keepJ n m (nOf m) = keepM n m := by
  unfold keepJ keepM nOf
  rw [List.take_length]
theorem keepJ_len (n : Nat) (m : List Sl) (j : Nat) : (keepJ n m j).length ≤ j := by
  unfold keepJ
  refine Nat.le_trans (List.length_filter_le _ _) ?_
  rw [List.length_take]
  omega
theorem keepJ_mem {n : Nat} {m : List Sl} {j i : Nat} (h : i < (keepJ n m j).length) : ∃ i', i' < j ∧ i' < nOf m ∧ slAt (keepJ n m j) i = slAt (liveL m) i' ∧ inN n (slAt (keepJ n m j) i).k = false := by
  have hm : slAt (keepJ n m j) i ∈ keepJ n m j := by
    have := slAt_get _ _ h
    exact List.mem_of_getElem? this
  unfold keepJ at hm
  obtain ⟨h1, h2⟩ := List.mem_filter.1 hm
  obtain ⟨i', h3, h4⟩ := List.getElem_of_mem h1
  rw [List.length_take] at h3
  refine ⟨i', by omega, by unfold nOf; omega, ?_, by simp only [Bool.not_eq_true'] at h2; exact h2⟩
  rw [show slAt (keepJ n m j) i = _ from h4.symm]
  unfold slAt
  rw [List.getElem_take, List.getD_eq_getElem?_getD, List.getElem?_eq_getElem (by omega)]
  rfl
theorem keep_live {n : Nat} {m : List Sl} {j : Nat} : liveL (keepJ n m j) = keepJ n m j := by
  unfold liveL
  rw [List.filter_eq_self]
  intro s hs
  unfold keepJ at hs
  have h1 := (List.mem_filter.1 hs).1
  have h2 := List.mem_of_mem_take h1
  exact (List.mem_filter.1 h2).2
theorem keep_step {n : Nat} {m : List Sl} (I : Inv m) {j : Nat} (hj : j < nOf m) :
    (inN n (slAt (liveL m) j).k = true → keepJ n m (j + 1) = keepJ n m j) ∧ (inN n (slAt (liveL m) j).k = false → setM (keepJ n m j) (slAt (liveL m) j).k (slAt (liveL m) j).v = (0, keepJ n m (j + 1))) := by
  have hs : keepJ n m (j + 1) = keepJ n m j ++ (if inN n (slAt (liveL m) j).k = true then [] else [slAt (liveL m) j]) := by
    unfold keepJ
    rw [take_succ_sl _ _ hj, List.filter_append]
    congr 1
    by_cases h : inN n (slAt (liveL m) j).k = true
    · rw [if_pos h]; simp [h]
    · rw [if_neg h]; simp [h]
  refine ⟨fun h => by rw [hs, if_pos h]; simp, fun h => ?_⟩
  have I2 := I.liveL
  have hg : (slAt (liveL m) j).g = false := by
    obtain ⟨a, a1, a2, a3, a4⟩ := liveL_all (L := m) hj
    rw [a4]; exact a2
  have hk := I2.key j hj
  have hv := I2.val j hj hg
  have ht : thereM (keepJ n m j) (slAt (liveL m) j).k = none := by
    have : lastIx (keepJ n m j) (slAt (liveL m) j).k = none := lastIx_no fun i hi e => by
      obtain ⟨i', h1, h2, h3, -⟩ := keepJ_mem hi
      rw [h3] at e
      have h4 := I2.last i' j h1 hj e
      obtain ⟨a, a1, a2, a3, a4⟩ := liveL_all (L := m) h2
      rw [a4, a2] at h4
      cases h4
    unfold thereM
    rw [this]
  have he : (⟨(slAt (liveL m) j).k, (slAt (liveL m) j).v, false⟩ : Sl) = slAt (liveL m) j := by
    cases hx : slAt (liveL m) j with
    | mk a b c =>
      rw [hx] at hg
      simp only at hg
      subst hg
      rfl
  unfold setM
  rw [if_neg (by rw [hk.1]; simp [hk.2]), if_neg (by rw [hv.1]; simp), ht]
  simp only
  rw [if_neg hv.2]
  unfold insM
  rw [if_neg (by unfold nOf; rw [keep_live]; omega), he, hs, if_neg (by rw [h]; simp)]
theorem live_get {m : List Sl} (I : Inv m) {j : Nat} (hj : j < nOf m) : getM m (slAt (liveL m) j).k = (slAt (liveL m) j).v := by
  obtain ⟨a, a1, a2, a3, a4⟩ := liveL_all (L := m) hj
  rw [a4]
  unfold getM
  rw [(there_of I a1 a2).1]
end Go.Proofs.Ytoelgnjnbelokaa
