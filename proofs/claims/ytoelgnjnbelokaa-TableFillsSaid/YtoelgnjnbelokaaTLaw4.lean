/-
  How a table grows, at a Set.
-/
import Derived.Test.YtoelgnjnbelokaaTLaw3
namespace Go.Proofs.Ytoelgnjnbelokaa

theorem filter_set_le {α : Type} (p : α → Bool) (x : α) : ∀ (l : List α) (i : Nat), ((l.set i x).filter p).length ≤ (l.filter p).length + 1
  | [], i => by simp
  | y :: l, 0 => by
    rw [List.set_cons_zero, List.filter_cons, List.filter_cons]
    split <;> split <;> (try simp only [List.length_cons]) <;> omega
  | y :: l, i + 1 => by
    rw [List.set_cons_succ, List.filter_cons, List.filter_cons]
    have := filter_set_le p x l i
    split <;> (try simp only [List.length_cons]) <;> omega
theorem ins_nOf (L : List Sl) (k v : V) : nOf (insM L k v) = nOf L + 1 := by
  unfold insM nOf liveL
  split <;> simp [List.filter_append, List.filter_filter]
theorem setM_nOf (L : List Sl) (k v : V) : nOf (setM L k v).2 ≤ nOf L + 1 := by
  unfold setM
  split
  · exact Nat.le_succ _
  · split
    · exact Nat.le_succ _
    · split
      · exact filter_set_le _ _ _ _
      · simp only
        split
        · exact Nat.le_succ _
        · rw [ins_nOf]
          exact Nat.le_refl _
section
variable {a : List V} {m : List Sl}
theorem SetR.len {k v : V} {e : Int} {a' : List V} {m' : List Sl} (I : Inv m) (h : SetR a m k v e a' m') (hb : a.length ≤ 1000000) : a'.length + nOf m' ≤ a.length + nOf m + 1 ∧ m'.length ≤ m.length + 1 := by
  cases h with
  | badKey h => exact ⟨by omega, by omega⟩
  | badVal h hv => exact ⟨by omega, by omega⟩
  | here i hi hk hv =>
    refine ⟨?_, by omega⟩
    have h1 : (if i + 1 = a.length then shrinkA (a.set i v) else a.set i v).length ≤ a.length := by
      split
      · rw [shrinkA_len]
        have := shrinkN_le (a.set i v) (a.set i v).length
        rw [List.length_set] at this ⊢
        exact this
      · rw [List.length_set]
        exact Nat.le_refl _
    omega
  | add hk hv hv0 h =>
    have h1 := add_len I h hb
    exact ⟨h1.1, by omega⟩
  | map hk hv hin hnx h =>
    have h1 := setM_nOf m k v
    have h2 := setM_len m k v
    rw [h] at h1 h2
    simp only at h1 h2
    exact ⟨by omega, h2⟩
end
end Go.Proofs.Ytoelgnjnbelokaa
