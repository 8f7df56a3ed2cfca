/-
  The plain laws of Close and Set over the list of cells; no program in sight.
-/
import Derived.Test.YtjlefkohokcohaaModel
namespace Go.Proofs.Ytjlefkohokcohaa

theorem vAt_set_ne {rs : List V} {a b : Nat} {v : V} (h : a ≠ b) : vAt (rs.set a v) b = vAt rs b := by
  unfold vAt; rw [List.getD_eq_getElem?_getD, List.getD_eq_getElem?_getD, List.getElem?_set_ne h]
theorem vAt_set_eq {rs : List V} {a : Nat} {v : V} (h : a < rs.length) : vAt (rs.set a v) a = v := by
  unfold vAt; rw [List.getD_eq_getElem?_getD, List.getElem?_set_self h]; rfl
theorem chk_setCl {L : List Cl} {i : Nat} {v : V} (hi : i < L.length) (n : Int) (m : Nat) : chk (setCl L i v) n m = chk L n m := by
  unfold chk
  rw [setCl_len, (at_setCl L i n.toNat v hi).1, (at_setCl L i n.toNat v hi).2]
theorem chk_cases (L : List Cl) (n : Int) (m : Nat) : chk L n m = 6 ∧ (n < 0 ∨ (L.length : Int) ≤ n) ∨ chk L n m = 19 ∧ 0 ≤ n ∧ n < L.length ∨ chk L n m = 0 ∧ 0 ≤ n ∧ n < L.length := by
  unfold chk
  split
  · exact .inl ⟨rfl, ‹_›⟩
  · split
    · exact .inr (.inl ⟨rfl, by omega, by omega⟩)
    · exact .inr (.inr ⟨rfl, by omega, by omega⟩)
theorem chk_at {L : List Cl} {i m : Nat} (hi : i < L.length) : chk L i m = if (at_ L i).o = true ∧ (m : Int) ≤ (at_ L i).reg then 19 else 0 := by
  unfold chk
  rw [if_neg (by omega), Int.toNat_natCast]
theorem getV_setCl_eq {L : List Cl} (I : Inv L) {i : Nat} {rs : List V} {v : V} (hi : i < L.length) (h0 : chk L i rs.length = 0) : getV (setCl L i v) i (setRs L i v rs) = v := by
  unfold getV
  rw [setRs_len, chk_setCl hi, if_pos h0, Int.toNat_natCast]
  rw [chk_at hi] at h0
  cases ho : (at_ L i).o
  · rw [(at_setCl L i i v hi).1, ho, if_neg (by simp)]
    unfold setCl
    rw [if_neg (by simp [ho]), at_set_eq hi]
  · rw [(at_setCl L i i v hi).1, (at_setCl L i i v hi).2, ho, if_pos rfl]
    unfold setRs
    rw [if_pos ho]
    have hr := I.lo i hi ho
    rw [ho] at h0
    refine vAt_set_eq ?_
    split at h0
    · cases h0
    · rename_i hn
      simp at hn
      omega
theorem getV_setCl_ne {L : List Cl} (I : Inv L) {i j : Nat} {rs : List V} {v : V} (hi : i < L.length) (hj : j < L.length) (hne : j ≠ i) : getV (setCl L i v) j (setRs L i v rs) = getV L j rs := by
  unfold getV
  rw [setRs_len, chk_setCl hi]
  by_cases h : chk L j rs.length = 0
  · rw [if_pos h, if_pos h, Int.toNat_natCast, (at_setCl L i j v hi).1, (at_setCl L i j v hi).2]
    cases ho : (at_ L j).o
    · rw [if_neg (by simp), if_neg (by simp)]
      unfold setCl
      split
      · rfl
      · rw [at_set_ne (Ne.symm hne)]
    · rw [if_pos rfl, if_pos rfl]
      unfold setRs
      split
      · rename_i hoi
        have h1 := I.lo i hi hoi
        have h2 := I.lo j hj ho
        refine vAt_set_ne fun e => hne (I.one j i hj hi ho hoi (by omega))
      · rfl
  · rw [if_neg h, if_neg h]

/-! ### Close -/
theorem isOpen_clo {L : List Cl} {i : Nat} (hi : i < L.length) (fr : Int) (rs : List V) : isOpen (clo L fr rs) i = (isOpen L i && decide (regOf L i < fr)) := by
  have h1 := regOf_in hi
  have h2 := regOf_in (L := clo L fr rs) (i := i) (by rw [clo_len]; exact hi)
  rw [h2.2, h1.2, h1.1, at_clo L fr rs i hi]
  unfold cloF
  cases ho : (at_ L i).o
  · simp [ho]
  · by_cases hr : fr ≤ (at_ L i).reg
    · have : ¬ (at_ L i).reg < fr := by omega
      simp [hr, cl, this]
    · have : (at_ L i).reg < fr := by omega
      simp [ho, hr, this]
theorem chk_zero {L : List Cl} {i m : Nat} (hi : i < L.length) (h : chk L i m = 0) (ho : (at_ L i).o = true) : (at_ L i).reg < m := by
  rw [chk_at hi, ho] at h
  split at h
  · cases h
  · rename_i hn
    simp at hn
    exact hn
theorem getV_clo {L : List Cl} (I : Inv L) {i : Nat} (hi : i < L.length) (fr : Int) {rs : List V} (h0 : chk L i rs.length = 0) : getV (clo L fr rs) i rs = getV L i rs ∧ chk (clo L fr rs) i rs.length = 0 := by
  have hi' : i < (clo L fr rs).length := by rw [clo_len]; exact hi
  have hc : chk (clo L fr rs) i rs.length = 0 := by
    rw [chk_at hi', at_clo L fr rs i hi]
    refine if_neg fun ⟨h1, h2⟩ => ?_
    obtain ⟨e, ho, hr⟩ := cloF_o h1
    rw [e] at h2
    have := chk_zero hi h0 ho
    omega
  refine ⟨?_, hc⟩
  unfold getV
  rw [if_pos hc, if_pos h0, Int.toNat_natCast, at_clo L fr rs i hi]
  unfold cloF
  split
  · rename_i h
    have hlt := chk_zero hi h0 h.1
    have hlo := I.lo i hi h.1
    rw [if_pos h.1]
    unfold cl
    simp [hlt]
  · rfl
theorem getV_shut {L : List Cl} {i : Nat} (hi : i < L.length) (ho : isOpen L i = false) (rs : List V) : getV L i [] = getV L i rs ∧ chk L i 0 = 0 := by
  rw [(regOf_in hi).2] at ho
  have hc : ∀ m, chk L i m = 0 := fun m => by rw [chk_at hi, ho]; rfl
  refine ⟨?_, hc 0⟩
  unfold getV
  rw [if_pos (hc _), if_pos (hc _), Int.toNat_natCast, ho]
  rfl
theorem cnt_clo (L : List Cl) (fr : Int) (rs : List V) : cnt (clo L fr rs) fr = 0 := by
  unfold cnt clo
  rw [List.length_eq_zero_iff, List.filter_eq_nil_iff]
  intro c hc
  obtain ⟨d, _, rfl⟩ := List.mem_map.1 hc
  unfold cloF
  split
  · simp [cl]
  · rename_i hn
    simpa using hn
/-- The loop's count of the cells from a register on. -/
theorem cntT_step {L : List Cl} {fr : Int} {k : Nat} (h : k < L.length) : cntT L fr (k + 1) = cntT L fr k + (if isOpen L k = true ∧ fr ≤ regOf L k then 1 else 0) := by
  rw [cntT_succ h, (regOf_in h).2, (regOf_in h).1]
  cases ho : (at_ L k).o <;> simp
end Go.Proofs.Ytjlefkohokcohaa
