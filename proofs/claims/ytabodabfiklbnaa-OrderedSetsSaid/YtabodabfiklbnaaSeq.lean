/-
  Going through a map: the plain laws of Next, also when slots are removed on the way.
-/
import Derived.Test.YtabodabfiklbnaaMade
namespace Go.Proofs.Ytabodabfiklbnaa
open Go.RowKit Go.Maps

/-- The key before the j-th one that is left. -/
def prevK (L : List Sl) (j : Nat) : V := if j = 0 then V.zero else (slAt (liveL L) (j - 1)).k
/-- The j-th live slot. -/
def nthLive (L : List Sl) (j i : Nat) : Prop := i < L.length ∧ (slAt L i).g = false ∧ nOf (L.take i) = j
theorem nth_ex {L : List Sl} {j : Nat} (h : j < nOf L) : ∃ i, nthLive L j i ∧ slAt (liveL L) j = slAt L i := by
  obtain ⟨a, h1, h2, h3, h4⟩ := liveL_all (L := L) (i := j) h
  exact ⟨a, ⟨h1, h2, h3⟩, h4⟩
theorem nth_lt {L : List Sl} {j i : Nat} (h : nthLive L j i) : j < nOf L := by
  obtain ⟨h1, h2, h3⟩ := h
  have := (liveL_at h1 h2).1
  omega
theorem nth_first {L : List Sl} {i : Nat} (h : nthLive L 0 i) : ∀ m, m < i → (slAt L m).g = true := by
  obtain ⟨h1, h2, h3⟩ := h
  intro m hm
  cases hg : (slAt L m).g with
  | true => rfl
  | false =>
    have e := nOf_take_succ (L := L) (j := m) (by omega)
    rw [hg] at e
    have := nOf_take_mono (L := L) (i := m + 1) (j := i) (by omega)
    simp at e
    omega
theorem nth_between {L : List Sl} {j i i' : Nat} (h : nthLive L j i) (h' : nthLive L (j + 1) i') : i < i' ∧ ∀ m, i + 1 ≤ m → m < i' → (slAt L m).g = true := by
  obtain ⟨h1, h2, h3⟩ := h
  obtain ⟨h4, h5, h6⟩ := h'
  have hlt : i < i' := nOf_lt_of (L := L) (by omega)
  refine ⟨hlt, fun m hm1 hm2 => ?_⟩
  cases hg : (slAt L m).g with
  | true => rfl
  | false =>
    have e := nOf_take_succ (L := L) (j := m) (by omega)
    have e2 := nOf_take_succ (L := L) (j := i) h1
    rw [hg] at e
    rw [h2] at e2
    have m1 := nOf_take_mono (L := L) (i := i + 1) (j := m) hm1
    have m2 := nOf_take_mono (L := L) (i := m + 1) (j := i') (by omega)
    simp at e e2
    omega
theorem nth_last {L : List Sl} {j i : Nat} (h : nthLive L j i) (hj : j + 1 = nOf L) : ∀ m, i + 1 ≤ m → m < L.length → (slAt L m).g = true := by
  obtain ⟨h1, h2, h3⟩ := h
  intro m hm1 hm2
  cases hg : (slAt L m).g with
  | true => rfl
  | false =>
    have e := nOf_take_succ (L := L) (j := m) hm2
    have e2 := nOf_take_succ (L := L) (j := i) h1
    rw [hg] at e
    rw [h2] at e2
    have m1 := nOf_take_mono (L := L) (i := i + 1) (j := m) hm1
    have m2 := nOf_take_mono (L := L) (i := m + 1) (j := L.length) (by omega)
    rw [List.take_length] at m2
    simp at e e2
    omega
/-- Slots that are as those of L, but some are removed. -/
structure Less (L L' : List Sl) : Prop where
  len : L'.length = L.length
  key : ∀ i, (slAt L' i).k = (slAt L i).k
  gone : ∀ i, (slAt L i).g = true → (slAt L' i).g = true
theorem Less.refl (L : List Sl) : Less L L := ⟨rfl, fun _ => rfl, fun _ h => h⟩
theorem Less.last {L L' : List Sl} (h : Less L L') (k : V) : lastIx L' k = lastIx L k := by
  cases e : lastIx L k with
  | none => exact lastIx_no fun j hj => by rw [h.key]; exact lastIx_none e j (by rw [← h.len]; exact hj)
  | some m =>
    obtain ⟨a, b, c⟩ := lastIx_some e
    exact lastIx_of (by rw [h.len]; exact a) (by rw [h.key]; exact b) fun j hj hl => by rw [h.key]; exact c j hj (by rw [← h.len]; exact hl)
theorem Less.set {L L' : List Sl} (h : Less L L') {i : Nat} {k : V} (hi : i < L'.length) (hk : (slAt L' i).k = k) : Less L (L'.set i ⟨k, V.zero, true⟩) := by
  refine ⟨by rw [List.length_set]; exact h.len, fun j => ?_, fun j hg => ?_⟩
  · by_cases e : i = j
    · subst e
      rw [slAt_set_eq hi, ← h.key, hk]
    · rw [slAt_set_ne e]; exact h.key j
  · by_cases e : i = j
    · subst e
      rw [slAt_set_eq hi]
    · rw [slAt_set_ne e]; exact h.gone j hg
theorem ne_zero_of_kind {k : V} (h : k.k ≠ 0) : k ≠ V.zero := fun e => h (by rw [e]; rfl)
/-- Next of the key before the j-th is the j-th, if the slots from the j-th on are not removed. -/
theorem next_at {L L' : List Sl} (I : Inv L) (h : Less L L') {j i : Nat} (hj : nthLive L j i) (hs : ∀ m, i ≤ m → slAt L' m = slAt L m) :
    nextM L' (prevK L j) = ((slAt L i).k, (slAt L i).v, true, 0) := by
  have hi : i < L'.length := by rw [h.len]; exact hj.1
  have hg : (slAt L' i).g = false := by rw [hs i (Nat.le_refl _)]; exact hj.2.1
  have ent : ∀ f, f ≤ i → (∀ m, f ≤ m → m < i → (slAt L m).g = true) → entM L' f = ((slAt L i).k, (slAt L i).v, true, 0) := fun f hf hm => by
    unfold entM
    rw [firstLive_of hf hi hg fun m h1 h2 => h.gone m (hm m h1 h2)]
    simp only [hs i (Nat.le_refl _)]
  unfold nextM prevK
  by_cases h0 : j = 0
  · subst h0
    rw [if_pos rfl, if_pos rfl]
    exact ent 0 (Nat.zero_le _) fun m _ hm => nth_first hj m hm
  · obtain ⟨j', rfl⟩ : ∃ j', j = j' + 1 := ⟨j - 1, by omega⟩
    obtain ⟨i', hi', e⟩ := nth_ex (L := L) (j := j') (by have := nth_lt hj; omega)
    rw [if_neg h0, Nat.add_sub_cancel, e, if_neg (ne_zero_of_kind (I.key i' hi'.1).2), h.last, (there_of I hi'.1 hi'.2.1).1]
    obtain ⟨hb1, hb2⟩ := nth_between hi' hj
    exact ent (i' + 1) (by omega) hb2
/-- Behind the last one there is none. -/
theorem next_end {L L' : List Sl} (I : Inv L) (h : Less L L') : nextM L' (prevK L (nOf L)) = (V.zero, V.zero, false, 0) := by
  have ent : ∀ f, (∀ m, f ≤ m → m < L.length → (slAt L m).g = true) → entM L' f = (V.zero, V.zero, false, 0) := fun f hm => by
    unfold entM
    rw [firstLive_no fun m h1 h2 => h.gone m (hm m h1 (by rw [← h.len]; exact h2))]
  unfold nextM prevK
  by_cases h0 : nOf L = 0
  · rw [if_pos h0, if_pos rfl]
    refine ent 0 fun m _ hm => ?_
    cases hg : (slAt L m).g with
    | true => rfl
    | false => have := (liveL_at hm hg).1; omega
  · obtain ⟨j', hj'⟩ : ∃ j', nOf L = j' + 1 := ⟨nOf L - 1, by omega⟩
    obtain ⟨i', hi', e⟩ := nth_ex (L := L) (j := j') (by omega)
    rw [if_neg h0, hj', Nat.add_sub_cancel, e, if_neg (ne_zero_of_kind (I.key i' hi'.1).2), h.last, (there_of I hi'.1 hi'.2.1).1]
    exact ent (i' + 1) (nth_last hi' hj'.symm)
theorem keysM_at {L : List Sl} {j i : Nat} (h : nthLive L j i) (e : slAt (liveL L) j = slAt L i) : vAt (keysM L) j = (slAt L i).k := by
  have hl : j < (liveL L).length := nth_lt h
  unfold vAt keysM
  rw [List.getD_eq_getElem?_getD, List.getElem?_map, slAt_get _ _ hl, e]
  rfl
theorem prevK_succ {L : List Sl} {j i : Nat} (e : slAt (liveL L) j = slAt L i) : prevK L (j + 1) = (slAt L i).k := by
  unfold prevK
  rw [if_neg (by omega), Nat.add_sub_cancel, e]
section
variable {w w' : World} {S : Nat → Prop} {N o r M : Nat} {L : List Sl}
theorem One.wf (h : One w S N o M L) : ∀ i, i < L.length → (slAt L i).k.wf := by
  obtain ⟨vs, bm, n, D, h1, _⟩ := h
  exact h1.wf
theorem prevK_wf (h : ∀ i, i < L.length → (slAt L i).k.wf) {j : Nat} (hj : j ≤ nOf L) : (prevK L j).wf := by
  unfold prevK
  by_cases h0 : j = 0
  · rw [if_pos h0]; exact zero_wf
  · rw [if_neg h0]
    obtain ⟨i, hi, e⟩ := nth_ex (L := L) (j := j - 1) (by omega)
    rw [e]
    exact h i hi.1
end
end Go.Proofs.Ytabodabfiklbnaa
