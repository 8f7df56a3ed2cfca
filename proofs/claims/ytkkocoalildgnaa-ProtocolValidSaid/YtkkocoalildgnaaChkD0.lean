/-
  The document's check of the fields of an action.
-/
import Derived.Test.YtkkocoalildgnaaChkO0
namespace Go.Proofs.Ytkkocoalildgnaa
open Go.RowKit

theorem bytes_nil (s : ByteArray) : (s = ⟨#[]⟩) ↔ s.toList = [] := by
  rw [ByteArray.toList_eq]
  obtain ⟨⟨x⟩⟩ := s
  simp [ByteArray.mk.injEq]
theorem int_beq (a b : Int) : (a == b) = decide (a = b) := by by_cases h : a = b <;> simp [h]
def fldB (a : Ac) : Bool := decide (restOf a = AcB a.k)
end Go.Proofs.Ytkkocoalildgnaa
