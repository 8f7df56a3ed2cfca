/-
  The length of a table is a border; after a script that sets no nil, no value of the array part is nil.
-/
import Derived.Test.YtoelgnjnbelokaaTGets
namespace Go.Proofs.Ytoelgnjnbelokaa

section
variable {a : List V} {m : List Sl}
theorem getT_kI {i : Nat} (h1 : 1 ≤ i) (h2 : i ≤ a.length) (hb : a.length ≤ 1000000) : getT a m (kI (i : Int)) = vAt a (i - 1) := by
  have h := inN_kI h1 h2 (show (a.length : Int) ≤ 2147483647 by omega)
  rw [getT_yes (isI_vok (inN_iff.1 h).1) h]
  unfold kI
  simp
theorem border_next (I : TInv a m) (hb : a.length ≤ 1000000) : getT a m (kI ((a.length : Int) + 1)) = V.zero := by
  rw [getT_no (isI_kI (by omega) (by omega)).2 (by
    cases hx : inN a.length (kI ((a.length : Int) + 1)) with
    | false => rfl
    | true =>
      have := (inN_iff.1 hx).2.2
      unfold kI at this
      simp only at this
      omega)]
  exact I.next
theorem border_last (I : TInv a m) (hb : a.length ≤ 1000000) (hn : 0 < a.length) : (getT a m (kI (a.length : Int))).k ≠ 0 := by
  rw [getT_kI hn (Nat.le_refl _) hb]
  exact I.last.resolve_left (by omega)
theorem SetR.full {k v : V} {e : Int} {a' : List V} {m' : List Sl} (h : SetR a m k v e a' m') (hf : ∀ i, i < a.length → (vAt a i).k ≠ 0) (hv0 : v.k ≠ 0) : ∀ i, i < a'.length → (vAt a' i).k ≠ 0 := by
  cases h with
  | badKey h => exact hf
  | badVal h hv => exact hf
  | here i hi hk hv =>
    have h1 : ∀ j, j < (a.set i v).length → (vAt (a.set i v) j).k ≠ 0 := fun j hj => by
      rw [List.length_set] at hj
      by_cases e : i = j
      · subst e; rw [vAt_set_eq hi]; exact hv0
      · rw [vAt_set_ne e]; exact hf j hj
    split
    · intro j hj
      rw [(shrinkA_at j).2 hj]
      refine h1 j ?_
      rw [shrinkA_len] at hj
      have := shrinkN_le (a.set i v) (a.set i v).length
      omega
    · exact h1
  | add hk hv hv0' h =>
    intro j hj
    by_cases e : j < a.length + 1
    · rw [← vAt_take e, h.add.pre]
      by_cases e2 : j < a.length
      · rw [vAt_app_lt e2]; exact hf j e2
      · obtain rfl : j = a.length := by omega
        rw [vAt_app_eq]; exact hv0
    · exact (h.add.mov j (by omega) hj).2
  | map hk hv hin hnx h => exact hf
end
end Go.Proofs.Ytoelgnjnbelokaa
