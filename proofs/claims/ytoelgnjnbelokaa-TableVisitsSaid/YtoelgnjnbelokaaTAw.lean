/-
  The chapter's examples, in the plain model.
-/
import Derived.Test.YtoelgnjnbelokaaTLaw
import Derived.Test.YtoelgnjnbelokaaWTNil
namespace Go.Proofs.Ytoelgnjnbelokaa

theorem AddP.det {m : List Sl} {a : List V} {v : V} {a' a2 : List V} (h : AddP m a v a') (h2 : AddP m a v a2) : a' = a2 := by
  have hl : a'.length = a2.length := by
    rcases Nat.lt_trichotomy a'.length a2.length with e | e | e
    · have h3 := h2.mov a'.length h.len e
      rw [h3.1] at h3
      exact absurd h.stop h3.2
    · exact e
    · have h3 := h.mov a2.length h2.len e
      rw [h3.1] at h3
      exact absurd h2.stop h3.2
  refine List.ext_getElem? fun i => ?_
  by_cases hi : i < a'.length
  · by_cases hi2 : i < a.length + 1
    · rw [← List.getElem?_take_of_lt hi2, ← List.getElem?_take_of_lt (l := a2) hi2, h.pre, h2.pre]
    · rw [vAt_get _ _ hi, vAt_get _ _ (by omega), (h.mov i (by omega) hi).1, (h2.mov i (by omega) (by omega)).1]
  · rw [List.getElem?_eq_none (by omega), List.getElem?_eq_none (by omega)]
def cA : V := kS ⟨#[97]⟩
def cB : V := kS ⟨#[98]⟩
def cC : V := kS ⟨#[99]⟩
def cX : V := kS ⟨#[120]⟩
def m1 : List Sl := [⟨kI 3, cC, false⟩]
theorem aw1 : setM [] (kI 3) cC = (0, m1) := by decide +kernel
theorem aw1' {e : Int} {a' : List V} {m' : List Sl} (h : SetR [] [] (kI 3) cC e a' m') : e = 0 ∧ a' = [] ∧ m' = m1 := by
  cases h with
  | badKey h => exact absurd h (by decide +kernel)
  | badVal h hv => exact absurd hv (by decide +kernel)
  | here i hi => simp at hi
  | add hk => exact absurd hk (by decide +kernel)
  | map hk hv hin hnx h =>
    rw [aw1] at h
    injection h with h1 h2
    exact ⟨h1.symm, rfl, h2.symm⟩
theorem aw2P : AddP m1 [] cA [cA] := ⟨by simp, rfl, fun i h1 h2 => by simp at h1 h2; omega, by decide +kernel⟩
theorem aw2 {e : Int} {a' : List V} {m' : List Sl} (h : SetR [] m1 (kI 1) cA e a' m') : e = 0 ∧ a' = [cA] ∧ m' = m1 := by
  cases h with
  | badKey h => exact absurd h (by decide +kernel)
  | badVal h hv => exact absurd hv (by decide +kernel)
  | here i hi => simp at hi
  | add hk hv hv0 h =>
    obtain rfl := h.add.det aw2P
    refine ⟨rfl, rfl, ?_⟩
    rcases h.map with ⟨h, -⟩ | h
    · exact h
    · rw [h]; decide +kernel
  | map hk hv hin hnx h => exact absurd hnx (by decide +kernel)
theorem aw3P : AddP m1 [cA] cB [cA, cB, cC] := ⟨by simp, rfl, fun i h1 h2 => by
  simp at h1 h2
  obtain rfl : i = 2 := by omega
  decide +kernel, by decide +kernel⟩
theorem aw3 {e : Int} {a' : List V} {m' : List Sl} (h : SetR [cA] m1 (kI 2) cB e a' m') : e = 0 ∧ a' = [cA, cB, cC] ∧ m' = [] := by
  cases h with
  | badKey h => exact absurd h (by decide +kernel)
  | badVal h hv => exact absurd hv (by decide +kernel)
  | here i hi hk =>
    simp at hi
    subst hi
    exact absurd hk (by decide +kernel)
  | add hk hv hv0 h =>
    obtain rfl := h.add.det aw3P
    refine ⟨rfl, rfl, ?_⟩
    rcases h.map with ⟨-, h⟩ | h
    · exact absurd (h 3 (by simp) (by simp)) (by decide +kernel)
    · rw [h]; decide +kernel
  | map hk hv hin hnx h => exact absurd hnx (by decide +kernel)
theorem aw4P : AddP [] [cA, cX, cB] cC [cA, cX, cB, cC] := ⟨by simp, rfl, fun i h1 h2 => by simp at h1 h2; omega, by decide +kernel⟩
theorem aw4 {a' : List V} {m' : List Sl} (h : AddR [] ([cA, cB, cC].take 1 ++ (cX :: ([cA, cB, cC].drop 1).take ([cA, cB, cC].length - (1 + 1)))) (vAt [cA, cB, cC] ([cA, cB, cC].length - 1)) a' m') : a' = [cA, cX, cB, cC] ∧ m' = [] := by
  have h1 : AddR [] [cA, cX, cB] cC a' m' := h
  obtain rfl := h1.add.det aw4P
  refine ⟨rfl, ?_⟩
  rcases h.map with ⟨h, -⟩ | h
  · exact h
  · rw [h]; decide +kernel
theorem aw5 : getT [cA, cX, cB, cC] [] (kI 2) = cX := by decide +kernel
theorem aw6 : getT [cA, cX, cB, cC] [] (kI 4) = cC := by decide +kernel
theorem aw7 : vAt [cA, cX, cB, cC] 0 = cA ∧ shrinkA ([cA, cX, cB, cC].eraseIdx 0 ++ [V.zero]) = [cX, cB, cC] := by decide +kernel
theorem aw8 : nextT [cX, cB, cC] [] V.zero = (kI 1, cX, true, 0) := by decide +kernel
theorem aw9 : nOf ([] : List Sl) + cntV [cA, cB, cC] = 3 := by decide +kernel
theorem awv : vok cX = true ∧ vok cC = true := by decide +kernel
end Go.Proofs.Ytoelgnjnbelokaa
