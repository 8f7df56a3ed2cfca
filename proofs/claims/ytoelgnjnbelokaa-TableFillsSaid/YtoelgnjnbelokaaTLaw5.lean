/-
  How a table grows, at Insert and Remove.
-/
import Derived.Test.YtoelgnjnbelokaaTLaw4
namespace Go.Proofs.Ytoelgnjnbelokaa

section
variable {a : List V} {m : List Sl}
theorem ins_len (I : Inv m) {i : Nat} (hi : i < a.length) {v x : V} {a' : List V} {m' : List Sl} (h : AddR m (a.take i ++ (v :: (a.drop i).take (a.length - (i + 1)))) x a' m') (hb : a.length ≤ 1000000) : a'.length + nOf m' ≤ a.length + nOf m + 1 ∧ m'.length ≤ m.length := by
  have hl : (a.take i ++ (v :: (a.drop i).take (a.length - (i + 1)))).length = a.length := by
    simp only [List.length_append, List.length_take, List.length_drop, List.length_cons]
    omega
  have h1 := add_len I h (by rw [hl]; exact hb)
  rwa [hl] at h1
theorem rem_len {i : Nat} (hi : i < a.length) : (shrinkA (a.eraseIdx i ++ [V.zero])).length ≤ a.length := by
  rw [shrinkA_len]
  have h1 := shrinkN_le (a.eraseIdx i ++ [V.zero]) (a.eraseIdx i ++ [V.zero]).length
  rw [List.length_append, List.length_eraseIdx_of_lt hi, List.length_singleton] at h1 ⊢
  omega
end
end Go.Proofs.Ytoelgnjnbelokaa
