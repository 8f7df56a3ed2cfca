/-
  Two lists of values are compared element by element; one walk for each function of this form.
-/
import Derived.Test.YtoelgnjnbelokaaAcc
import Derived.Test.YtoelgnjnbelokaaRegion
import Derived.Test.YtoelgnjnbelokaaProg
namespace Go.Proofs.Ytoelgnjnbelokaa
open Go.RowKit

theorem vlist_ext {rs rs' : List V} (hl : rs.length = rs'.length) (h : ∀ i, i < rs.length → vAt rs i = vAt rs' i) : rs = rs' := by
  apply List.ext_getElem? 
  intro i
  by_cases hi : i < rs.length
  · rw [vAt_get rs i hi, vAt_get rs' i (by omega), h i hi]
  · rw [List.getElem?_eq_none (by omega), List.getElem?_eq_none (by omega)]
theorem V.ne_cases {a b : V} (h : a ≠ b) : a.k ≠ b.k ∨ (a.k = b.k ∧ a.p ≠ b.p) ∨ (a.k = b.k ∧ a.p = b.p ∧ a.q ≠ b.q) ∨ (a.k = b.k ∧ a.p = b.p ∧ a.q = b.q ∧ a.s ≠ b.s) ∨ (a.k = b.k ∧ a.p = b.p ∧ a.q = b.q ∧ a.s = b.s ∧ a.r ≠ b.r) := by
  by_cases h1 : a.k = b.k <;> by_cases h2 : a.p = b.p <;> by_cases h3 : a.q = b.q <;> by_cases h4 : a.s = b.s <;> by_cases h5 : a.r = b.r <;> simp only [h1, h2, h3, h4, h5, ne_eq, not_true_eq_false, not_false_eq_true, and_self, and_true, and_false, or_true, or_false]
  refine h ?_
  cases a; cases b
  simp at h1 h2 h3 h4 h5
  subst h1 h2 h3 h4 h5
  rfl
theorem bytes_ne {a b : ByteArray} (h : a ≠ b) : ¬ a.toList = b.toList := fun e => h (by
  rw [ByteArray.toList_eq, ByteArray.toList_eq] at e
  obtain ⟨⟨x⟩⟩ := a
  obtain ⟨⟨y⟩⟩ := b
  simpa using e)

end Go.Proofs.Ytoelgnjnbelokaa
