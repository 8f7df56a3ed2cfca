/-
  The plain model of a table: the values of the keys 1 to len, and a map of all other keys.
-/
import Derived.Test.YtoelgnjnbelokaaModel2
namespace Go.Proofs.Ytoelgnjnbelokaa

def kI (n : Int) : V := ⟨2, n, 1, ⟨#[]⟩, 0⟩
/-- An integer key. -/
def isI (k : V) : Bool := decide (k.k = 2) && decide (k.q = 1) && vok k
theorem isI_kI {n : Int} (h1 : -2147483647 ≤ n) (h2 : n ≤ 2147483647) : isI (kI n) = true ∧ vok (kI n) = true := by
  have hv : vok (kI n) = true := by
    have hg : Nat.gcd n.natAbs (1 : Int).toNat = 1 := Nat.gcd_one_right _
    have hs : (⟨#[]⟩ : ByteArray).toList = [] := by decide +kernel
    simp [vok, kI, numOk, h1, h2, hs]
  exact ⟨by unfold isI; rw [hv]; simp [kI], hv⟩
theorem isI_eq {k : V} (h : isI k = true) : k = kI k.p ∧ -2147483647 ≤ k.p ∧ k.p ≤ 2147483647 := by
  unfold isI at h
  simp only [Bool.and_eq_true, decide_eq_true_eq] at h
  obtain ⟨⟨h1, h2⟩, h3⟩ := h
  obtain ⟨k, p, q, s, r⟩ := k
  simp only at h1 h2
  subst h1 h2
  unfold vok at h3
  simp [numOk] at h3
  obtain ⟨⟨⟨hp1, hp2⟩, hs⟩, rfl⟩ := h3
  exact ⟨by unfold kI; rw [bytes_nil hs], hp1, hp2⟩
theorem kI_inj {n m : Int} (h : kI n = kI m) : n = m := by
  unfold kI at h
  injection h
theorem isI_vok {k : V} (h : isI k = true) : vok k = true := by
  unfold isI at h
  simp only [Bool.and_eq_true] at h
  exact h.2
/-- A key of the first n. -/
def inN (n : Nat) (k : V) : Bool := isI k && decide (1 ≤ k.p) && decide (k.p ≤ (n : Int))
theorem inN_iff {n : Nat} {k : V} : inN n k = true ↔ isI k = true ∧ 1 ≤ k.p ∧ k.p ≤ (n : Int) := by
  unfold inN
  simp [and_assoc]
theorem inN_kI {n : Nat} {i : Nat} (h1 : 1 ≤ i) (h2 : i ≤ n) (h3 : (n : Int) ≤ 2147483647) : inN n (kI (i : Int)) = true :=
  inN_iff.2 ⟨(isI_kI (by omega) (by omega)).1, by unfold kI; simp only; omega, by unfold kI; simp only; omega⟩
theorem inN_get {n : Nat} {k : V} (h : inN n k = true) : ∃ i : Nat, 1 ≤ i ∧ i ≤ n ∧ k = kI (i : Int) ∧ k.p = (i : Int) := by
  obtain ⟨h1, h2, h3⟩ := inN_iff.1 h
  refine ⟨k.p.toNat, by omega, by omega, ?_, by omega⟩
  rw [show ((k.p.toNat : Nat) : Int) = k.p by omega]
  exact (isI_eq h1).1
/-- The value of a key. -/
def getT (a : List V) (m : List Sl) (k : V) : V := if vok k = false then V.zero else if inN a.length k = true then vAt a (k.p.toNat - 1) else getM m k
/-- The length without the values nil at the end. -/
def shrinkN (a : List V) : Nat → Nat
  | 0 => 0
  | n + 1 => if (vAt a n).k = 0 then shrinkN a n else n + 1
def shrinkA (a : List V) : List V := a.take (shrinkN a a.length)
theorem shrinkN_le (a : List V) (n : Nat) : shrinkN a n ≤ n := by
  induction n with
  | zero => exact Nat.le_refl _
  | succ n ih =>
    unfold shrinkN
    split
    · omega
    · exact Nat.le_refl _
theorem shrinkN_nil {a : List V} {n i : Nat} (h1 : shrinkN a n ≤ i) (h2 : i < n) : (vAt a i).k = 0 := by
  induction n with
  | zero => omega
  | succ n ih =>
    unfold shrinkN at h1
    split at h1
    · rename_i h
      by_cases e : i = n
      · subst e; exact h
      · exact ih h1 (by omega)
    · omega
theorem shrinkN_last (a : List V) (n : Nat) : shrinkN a n = 0 ∨ (vAt a (shrinkN a n - 1)).k ≠ 0 := by
  induction n with
  | zero => exact .inl rfl
  | succ n ih =>
    unfold shrinkN
    split
    · exact ih
    · rename_i h
      right
      simpa using h
theorem vAt_take {a : List V} {n i : Nat} (h : i < n) : vAt (a.take n) i = vAt a i := by
  unfold vAt
  rw [List.getD_eq_getElem?_getD, List.getD_eq_getElem?_getD, List.getElem?_take_of_lt h]
theorem vAt_set_eq {a : List V} {i : Nat} {v : V} (h : i < a.length) : vAt (a.set i v) i = v := by
  unfold vAt; rw [List.getD_eq_getElem?_getD, List.getElem?_set_self h]; rfl
theorem vAt_set_ne {a : List V} {i j : Nat} {v : V} (h : i ≠ j) : vAt (a.set i v) j = vAt a j := by
  unfold vAt; rw [List.getD_eq_getElem?_getD, List.getD_eq_getElem?_getD, List.getElem?_set_ne h]
theorem vAt_app_lt {a b : List V} {i : Nat} (h : i < a.length) : vAt (a ++ b) i = vAt a i := by
  unfold vAt; rw [List.getD_eq_getElem?_getD, List.getD_eq_getElem?_getD, List.getElem?_append_left h]
theorem vAt_app_eq {a : List V} {v : V} : vAt (a ++ [v]) a.length = v := by unfold vAt; simp
theorem vAt_out {a : List V} {i : Nat} (h : a.length ≤ i) : vAt a i = V.zero := by
  unfold vAt; rw [List.getD_eq_getElem?_getD, List.getElem?_eq_none h]; rfl
theorem shrinkA_len (a : List V) : (shrinkA a).length = shrinkN a a.length := by
  unfold shrinkA
  rw [List.length_take]
  have := shrinkN_le a a.length
  omega
theorem shrinkA_at {a : List V} (i : Nat) : (vAt (shrinkA a) i).k = (vAt a i).k ∧ (i < (shrinkA a).length → vAt (shrinkA a) i = vAt a i) := by
  by_cases h : i < (shrinkA a).length
  · have e : vAt (shrinkA a) i = vAt a i := by
      unfold shrinkA
      rw [shrinkA_len] at h
      exact vAt_take h
    exact ⟨by rw [e], fun _ => e⟩
  · refine ⟨?_, fun h' => absurd h' h⟩
    rw [vAt_out (by omega)]
    rw [shrinkA_len] at h
    by_cases h2 : i < a.length
    · exact (shrinkN_nil (by omega) h2).symm
    · rw [vAt_out (by omega)]
/-! ### What holds of a table -/
structure TInv (a : List V) (m : List Sl) : Prop where
  inv : Inv m
  val : ∀ i, i < a.length → vok (vAt a i) = true
  last : a.length = 0 ∨ (vAt a (a.length - 1)).k ≠ 0
  free : ∀ i : Nat, 1 ≤ i → i ≤ a.length → lastIx m (kI (i : Int)) = none
  next : getM m (kI ((a.length : Int) + 1)) = V.zero
theorem TInv.nil : TInv [] [] := ⟨Inv.nil, fun i h => absurd h (by simp), .inl rfl, fun i h1 h2 => by simp at h2; omega, rfl⟩
theorem zero_valid : vok V.zero = true := by decide +kernel
theorem getM_valid {m : List Sl} (I : Inv m) (k : V) : vok (getM m k) = true := by
  unfold getM
  cases e : lastIx m k with
  | none => exact zero_valid
  | some i =>
    obtain ⟨h1, _, _⟩ := lastIx_some e
    cases hg : (slAt m i).g with
    | true => simp only; rw [I.gone i h1 hg]; exact zero_valid
    | false => exact (I.val i h1 hg).1
theorem getM_zero {m : List Sl} (I : Inv m) {k : V} (h : (getM m k).k = 0) : getM m k = V.zero := zero_of_kind (getM_valid I k) h
theorem TInv.getT_valid {a : List V} {m : List Sl} (I : TInv a m) (k : V) : vok (getT a m k) = true := by
  unfold getT
  split
  · exact zero_valid
  · split
    · rename_i h
      obtain ⟨i, h1, h2, -, h4⟩ := inN_get h
      rw [h4]
      exact I.val _ (by omega)
    · exact getM_valid I.inv k
/-! ### The values that follow -/
/-- The array part after v was appended, and those of the keys that follow. -/
structure AddP (m : List Sl) (a : List V) (v : V) (a' : List V) : Prop where
  len : a.length + 1 ≤ a'.length
  pre : a'.take (a.length + 1) = a ++ [v]
  mov : ∀ i, a.length + 1 ≤ i → i < a'.length → vAt a' i = getM m (kI ((i : Int) + 1)) ∧ (vAt a' i).k ≠ 0
  stop : (getM m (kI ((a'.length : Int) + 1))).k = 0
/-- The slots of integer keys beyond n. -/
def cntI (m : List Sl) (n : Nat) : Nat := (m.filter fun s => isI s.k && decide ((n : Int) < s.k.p)).length
theorem cntI_step {m : List Sl} {n : Nat} {i : Nat} (hi : i < m.length) (hk : (slAt m i).k = kI ((n : Int) + 1)) (hn : (n : Int) + 1 ≤ 2147483647) : cntI m (n + 1) < cntI m n := by
  have key : ∀ (l : List Sl), cntI l (n + 1) ≤ cntI l n := by
    intro l
    unfold cntI
    induction l with
    | nil => exact Nat.le_refl _
    | cons s l ih =>
      rw [List.filter_cons, List.filter_cons]
      by_cases h1 : (isI s.k && decide (((n + 1 : Nat) : Int) < s.k.p)) = true
      · have h2 : (isI s.k && decide ((n : Int) < s.k.p)) = true := by
          simp only [Bool.and_eq_true, decide_eq_true_eq] at h1 ⊢
          exact ⟨h1.1, by omega⟩
        rw [if_pos h1, if_pos h2]
        simpa using ih
      · rw [if_neg h1]
        split
        · simp only [List.length_cons]; omega
        · exact ih
  have hs : m = m.take i ++ [slAt m i] ++ m.drop (i + 1) := by rw [← take_succ_sl m i hi, List.take_append_drop]
  have e : ∀ k, cntI m k = cntI (m.take i) k + cntI [slAt m i] k + cntI (m.drop (i + 1)) k := fun k => by
    conv => lhs; rw [hs]
    unfold cntI
    rw [List.filter_append, List.filter_append, List.length_append, List.length_append]
  rw [e, e]
  have h1 := key (m.take i)
  have h2 := key (m.drop (i + 1))
  have h3 : cntI [slAt m i] (n + 1) = 0 := by
    have : (isI (slAt m i).k && decide (((n + 1 : Nat) : Int) < (slAt m i).k.p)) = false := by rw [hk]; simp [kI]
    unfold cntI
    rw [List.filter_cons, if_neg (by rw [this]; simp)]
    rfl
  have h4 : cntI [slAt m i] n = 1 := by
    have : (isI (slAt m i).k && decide ((n : Int) < (slAt m i).k.p)) = true := by
      rw [hk, (isI_kI (n := (n : Int) + 1) (by omega) hn).1]
      exact decide_eq_true (show (n : Int) < (n : Int) + 1 by omega)
    unfold cntI
    rw [List.filter_cons, if_pos this]
    rfl
  omega
/-- The map after the keys of the array part were dropped. -/
def keepM (n : Nat) (m : List Sl) : List Sl := (liveL m).filter fun s => !inN n s.k
structure AddR (m : List Sl) (a : List V) (v : V) (a' : List V) (m' : List Sl) : Prop where
  add : AddP m a v a'
  map : (m' = m ∧ ∀ i : Nat, a.length + 1 ≤ i → i ≤ a'.length → lastIx m (kI (i : Int)) = none) ∨ m' = keepM a'.length m
end Go.Proofs.Ytoelgnjnbelokaa
