/-
  The plain laws of a map that keeps the order of insertion: what a call leaves.
-/
import Derived.Test.YtoelgnjnbelokaaModel
namespace Go.Proofs.Ytoelgnjnbelokaa

theorem liveL_all {L : List Sl} {i : Nat} (h : i < (liveL L).length) : ∃ a, a < L.length ∧ (slAt L a).g = false ∧ nOf (L.take a) = i ∧ slAt (liveL L) i = slAt L a := by
  obtain ⟨a, h1, h2, h3⟩ := liveL_of (L := L) (m := i) h
  exact ⟨a, h1, h2, h3, by rw [← h3]; exact (liveL_at h1 h2).2⟩
theorem nOf_lt_of {L : List Sl} {a b : Nat} (h : nOf (L.take a) < nOf (L.take b)) : a < b := by
  rcases Nat.lt_or_ge a b with h' | h'
  · exact h'
  · have := nOf_take_mono (L := L) h'
    omega
theorem Inv.liveL {L : List Sl} (I : Inv L) : Inv (liveL L) := by
  constructor
  · intro i j hij hj hk
    obtain ⟨a, a1, a2, a3, a4⟩ := liveL_all (L := L) (i := i) (by omega)
    obtain ⟨b, b1, b2, b3, b4⟩ := liveL_all (L := L) hj
    rw [a4, b4] at hk
    have := I.last a b (nOf_lt_of (L := L) (by omega)) b1 hk
    rw [a2] at this
    cases this
  · intro i hi
    obtain ⟨a, a1, a2, a3, a4⟩ := liveL_all hi
    rw [a4]
    exact I.key a a1
  · intro i hi _
    obtain ⟨a, a1, a2, a3, a4⟩ := liveL_all hi
    rw [a4]
    exact I.val a a1 a2
  · intro i hi hg
    obtain ⟨a, a1, a2, a3, a4⟩ := liveL_all hi
    rw [a4, a2] at hg
    cases hg
theorem Inv.app {L : List Sl} (I : Inv L) {k v : V} (hk : vok k = true ∧ k.k ≠ 0) (hv : vok v = true ∧ v.k ≠ 0) (hn : ∀ i, i < L.length → (slAt L i).k = k → (slAt L i).g = true) : Inv (L ++ [⟨k, v, false⟩]) := by
  have cases_ : ∀ i, i < (L ++ [(⟨k, v, false⟩ : Sl)]).length → i < L.length ∨ i = L.length := fun i hi => by
    rw [List.length_append, List.length_singleton] at hi
    omega
  constructor
  · intro i j hij hj he
    rcases cases_ j hj with h | rfl
    · rw [slAt_app_lt h, slAt_app_lt (by omega)] at he
      rw [slAt_app_lt (by omega)]
      exact I.last i j hij h he
    · rw [slAt_app_lt hij, slAt_app_eq] at he
      rw [slAt_app_lt hij]
      exact hn i hij he
  · intro i hi
    rcases cases_ i hi with h | rfl
    · rw [slAt_app_lt h]; exact I.key i h
    · rw [slAt_app_eq]; exact hk
  · intro i hi hg
    rcases cases_ i hi with h | rfl
    · rw [slAt_app_lt h] at hg ⊢; exact I.val i h hg
    · rw [slAt_app_eq]; exact hv
  · intro i hi hg
    rcases cases_ i hi with h | rfl
    · rw [slAt_app_lt h] at hg ⊢; exact I.gone i h hg
    · rw [slAt_app_eq] at hg; cases hg
theorem Inv.set {L : List Sl} (I : Inv L) {i : Nat} (hi : i < L.length) (hg : (slAt L i).g = false) {x : Sl} (hk : x.k = (slAt L i).k) (hv : x.g = false → vok x.v = true ∧ x.v.k ≠ 0) (hz : x.g = true → x.v = V.zero) : Inv (L.set i x) := by
  have kk : ∀ j, (slAt (L.set i x) j).k = (slAt L j).k := fun j => by
    by_cases h : i = j
    · subst h; rw [slAt_set_eq hi, hk]
    · rw [slAt_set_ne h]
  constructor
  · intro a b hab hb he
    rw [List.length_set] at hb
    rw [kk, kk] at he
    have := I.last a b hab hb he
    by_cases h : i = a
    · subst h; rw [hg] at this; cases this
    · rw [slAt_set_ne h]; exact this
  · intro j hj
    rw [List.length_set] at hj
    rw [kk]
    exact I.key j hj
  · intro j hj h
    rw [List.length_set] at hj
    by_cases e : i = j
    · subst e; rw [slAt_set_eq hi] at h ⊢; exact hv h
    · rw [slAt_set_ne e] at h ⊢; exact I.val j hj h
  · intro j hj h
    rw [List.length_set] at hj
    by_cases e : i = j
    · subst e; rw [slAt_set_eq hi] at h ⊢; exact hz h
    · rw [slAt_set_ne e] at h ⊢; exact I.gone j hj h
theorem there_some {L : List Sl} {k : V} {i : Nat} (h : thereM L k = some i) : lastIx L k = some i ∧ i < L.length ∧ (slAt L i).k = k ∧ (slAt L i).g = false := by
  unfold thereM at h
  cases hl : lastIx L k with
  | none => rw [hl] at h; cases h
  | some m =>
    rw [hl] at h
    simp only at h
    cases hg : (slAt L m).g with
    | true => rw [hg] at h; cases h
    | false =>
      rw [hg] at h
      obtain rfl : m = i := by simpa using h
      obtain ⟨a, b, _⟩ := lastIx_some hl
      exact ⟨rfl, a, b, hg⟩
theorem there_none {L : List Sl} (I : Inv L) {k : V} (h : thereM L k = none) : ∀ i, i < L.length → (slAt L i).k = k → (slAt L i).g = true := by
  intro i hi hk
  unfold thereM at h
  cases hl : lastIx L k with
  | none => exact absurd hk (lastIx_none hl i hi)
  | some m =>
    rw [hl] at h
    simp only at h
    obtain ⟨a, b, c⟩ := lastIx_some hl
    have hg : (slAt L m).g = true := by
      cases hg : (slAt L m).g with
      | true => rfl
      | false => rw [hg] at h; cases h
    rcases Nat.lt_trichotomy i m with hlt | rfl | hlt
    · exact I.last i m hlt a (by rw [hk, b])
    · exact hg
    · exact absurd hk (c i hlt hi)
theorem there_of {L : List Sl} (I : Inv L) {i : Nat} (hi : i < L.length) (hg : (slAt L i).g = false) : lastIx L (slAt L i).k = some i ∧ thereM L (slAt L i).k = some i := by
  have h : lastIx L (slAt L i).k = some i := lastIx_of hi rfl fun j hj hl e => by
    have := I.last i j hj hl e.symm
    rw [hg] at this
    cases this
  refine ⟨h, ?_⟩
  unfold thereM
  rw [h]
  simp [hg]
theorem ins_live {L : List Sl} (I : Inv L) {k : V} (h : thereM L k = none) : ∀ i, i < (liveL L).length → (slAt (liveL L) i).k ≠ k := by
  intro i hi e
  obtain ⟨a, a1, a2, a3, a4⟩ := liveL_all hi
  rw [a4] at e
  have := there_none I h a a1 e
  rw [a2] at this
  cases this
theorem Inv.ins {L : List Sl} (I : Inv L) {k v : V} (hk : vok k = true ∧ k.k ≠ 0) (hv : vok v = true ∧ v.k ≠ 0) (h : thereM L k = none) : Inv (insM L k v) := by
  unfold insM
  split
  · exact I.liveL.app hk hv fun i hi e => absurd e (ins_live I h i hi)
  · exact I.app hk hv (there_none I h)
theorem Inv.setM {L : List Sl} (I : Inv L) (k v : V) : Inv (setM L k v).2 := by
  unfold Ytoelgnjnbelokaa.setM
  split
  · exact I
  · rename_i h1
    have hk : vok k = true ∧ k.k ≠ 0 := by
      refine ⟨?_, fun e => h1 (.inl e)⟩
      cases h : vok k with
      | true => rfl
      | false => exact absurd (.inr h) h1
    split
    · exact I
    · rename_i h2
      have hv : vok v = true := by simpa using h2
      split
      · rename_i i h3
        obtain ⟨a, b, c, d⟩ := there_some h3
        by_cases h0 : v.k = 0
        · simp only [if_pos h0]
          exact I.set b d c.symm (fun h => by cases h) fun _ => rfl
        · simp only [if_neg h0]
          exact I.set b d c.symm (fun _ => ⟨hv, h0⟩) fun h => by cases h
      · rename_i h3
        by_cases h0 : v.k = 0
        · simp only [if_pos h0]; exact I
        · simp only [if_neg h0]; exact I.ins hk ⟨hv, h0⟩ h3
theorem insM_len (L : List Sl) (k v : V) : (insM L k v).length ≤ L.length + 1 := by
  unfold insM
  split
  · have := nOf_le L; simp [nOf] at this ⊢; omega
  · simp
theorem setM_len (L : List Sl) (k v : V) : (setM L k v).2.length ≤ L.length + 1 := by
  unfold setM
  split
  · simp
  · split
    · simp
    · split
      · simp
      · by_cases h0 : v.k = 0
        · simp [h0]
        · simp only [if_neg h0]; exact insM_len L k v
/-! ### What is found behind a call -/
theorem lastIx_app_eq {L : List Sl} {k v : V} : lastIx (L ++ [⟨k, v, false⟩]) k = some L.length :=
  lastIx_of (by simp) (by rw [slAt_app_eq]) fun j hj hl => by rw [List.length_append, List.length_singleton] at hl; omega
theorem lastIx_app_ne {L : List Sl} {x : Sl} {k : V} (h : x.k ≠ k) : lastIx (L ++ [x]) k = lastIx L k := by
  cases e : lastIx L k with
  | none =>
    refine lastIx_no fun j hj => ?_
    rw [List.length_append, List.length_singleton] at hj
    by_cases hj' : j < L.length
    · rw [slAt_app_lt hj']; exact lastIx_none e j hj'
    · obtain rfl : j = L.length := by omega
      rw [slAt_app_eq]; exact h
  | some i =>
    obtain ⟨a, b, c⟩ := lastIx_some e
    refine lastIx_of (by rw [List.length_append]; omega) (by rw [slAt_app_lt a]; exact b) fun j hj hl => ?_
    rw [List.length_append, List.length_singleton] at hl
    by_cases hj' : j < L.length
    · rw [slAt_app_lt hj']; exact c j hj hj'
    · obtain rfl : j = L.length := by omega
      rw [slAt_app_eq]; exact h
theorem lastIx_set {L : List Sl} {i : Nat} {x : Sl} (hi : i < L.length) (hx : x.k = (slAt L i).k) (k : V) : lastIx (L.set i x) k = lastIx L k := by
  have kk : ∀ j, (slAt (L.set i x) j).k = (slAt L j).k := fun j => by
    by_cases h : i = j
    · subst h; rw [slAt_set_eq hi, hx]
    · rw [slAt_set_ne h]
  cases e : lastIx L k with
  | none => exact lastIx_no fun j hj => by rw [kk]; exact lastIx_none e j (by simpa using hj)
  | some m =>
    obtain ⟨a, b, c⟩ := lastIx_some e
    exact lastIx_of (by simpa using a) (by rw [kk]; exact b) fun j hj hl => by rw [kk]; exact c j hj (by simpa using hl)
/-- Where a key lies when the removed slots are dropped. -/
theorem lastIx_live {L : List Sl} (I : Inv L) (k : V) : lastIx (liveL L) k = (thereM L k).map fun i => nOf (L.take i) := by
  cases e : thereM L k with
  | none => exact lastIx_no (ins_live I e)
  | some i =>
    obtain ⟨_, a, b, c⟩ := there_some e
    obtain ⟨h1, h2⟩ := liveL_at a c
    refine lastIx_of h1 (by rw [h2, b]) fun j hj hl ek => ?_
    obtain ⟨m, m1, m2, m3, m4⟩ := liveL_all hl
    rw [m4] at ek
    have hj' : nOf (L.take i) < j := hj
    have := I.last i m (nOf_lt_of (L := L) (by omega)) m1 (by rw [b, ek])
    rw [c] at this
    cases this
theorem liveL_liveL (L : List Sl) : liveL (liveL L) = liveL L := by simp [liveL, List.filter_filter]
theorem getM_live {L : List Sl} (I : Inv L) (k : V) : getM (liveL L) k = getM L k := by
  unfold getM
  rw [lastIx_live I]
  cases e : thereM L k with
  | some i =>
    obtain ⟨a, b, c, d⟩ := there_some e
    rw [a]
    simp only [Option.map_some]
    rw [(liveL_at b d).2]
  | none =>
    cases e2 : lastIx L k with
    | none => rfl
    | some m =>
      obtain ⟨a, b, _⟩ := lastIx_some e2
      simp only [Option.map_none]
      exact (I.gone m a (there_none I e m a b)).symm
/-- Get behind Set. -/
theorem getM_ins_eq {L : List Sl} {k v : V} : getM (insM L k v) k = v := by
  unfold getM insM
  rw [lastIx_app_eq]
  simp only [slAt_app_eq]
theorem getM_app_ne {L : List Sl} {x : Sl} {k : V} (h : x.k ≠ k) : getM (L ++ [x]) k = getM L k := by
  unfold getM
  rw [lastIx_app_ne h]
  cases e : lastIx L k with
  | none => rfl
  | some i => simp only [slAt_app_lt (lastIx_some e).1]
theorem getM_ins_ne {L : List Sl} (I : Inv L) {k v k' : V} (h : k ≠ k') : getM (insM L k v) k' = getM L k' := by
  unfold insM
  rw [getM_app_ne h]
  split
  · exact getM_live I k'
  · rfl
theorem getM_set_ne {L : List Sl} {i : Nat} {x : Sl} (hi : i < L.length) (hx : x.k = (slAt L i).k) {k' : V} (h : (slAt L i).k ≠ k') : getM (L.set i x) k' = getM L k' := by
  unfold getM
  rw [lastIx_set hi hx]
  cases e : lastIx L k' with
  | none => rfl
  | some m =>
    have : i ≠ m := fun e2 => by subst e2; exact h (lastIx_some e).2.1
    simp only [slAt_set_ne this]
theorem getM_set_eq {L : List Sl} {i : Nat} {x : Sl} (hl : lastIx L (slAt L i).k = some i) (hi : i < L.length) (hx : x.k = (slAt L i).k) : getM (L.set i x) (slAt L i).k = x.v := by
  unfold getM
  rw [lastIx_set hi hx, hl]
  simp only [slAt_set_eq hi]
/-- A Set that is taken. -/
theorem setM_ok {L : List Sl} {k v : V} (hk : vok k = true ∧ k.k ≠ 0) (hv : vok v = true) : (setM L k v).1 = 0 := by
  unfold setM
  rw [if_neg (by rw [hk.1]; simp [hk.2]), if_neg (by rw [hv]; simp)]
  split <;> rfl
theorem setM_err {L : List Sl} {k v : V} (h : (setM L k v).1 ≠ 0) : (setM L k v).2 = L := by
  unfold setM at h ⊢
  split
  · rfl
  · split
    · rfl
    · rename_i h1 h2
      rw [if_neg h1, if_neg h2] at h
      split at h <;> exact absurd rfl h
theorem bytes_nil {s : ByteArray} (h : s.toList = []) : s = ⟨#[]⟩ := by
  rw [ByteArray.toList_eq] at h
  obtain ⟨⟨x⟩⟩ := s
  simpa using h
theorem zero_of_kind {v : V} (hv : vok v = true) (h : v.k = 0) : v = V.zero := by
  unfold vok at hv
  obtain ⟨k, p, q, s, r⟩ := v
  simp at h
  subst h
  simp at hv
  unfold V.zero
  obtain ⟨⟨⟨rfl, rfl⟩, hs⟩, rfl⟩ := hv
  rw [bytes_nil hs]
theorem getM_setM_eq {L : List Sl} (I : Inv L) {k v : V} (hk : vok k = true ∧ k.k ≠ 0) (hv : vok v = true) : getM (setM L k v).2 k = v := by
  unfold setM
  rw [if_neg (by rw [hk.1]; simp [hk.2]), if_neg (by rw [hv]; simp)]
  cases e : thereM L k with
  | some i =>
    obtain ⟨a, b, c, d⟩ := there_some e
    subst c
    simp only
    rw [getM_set_eq a b (by split <;> rfl)]
    split
    · rename_i h0
      exact (zero_of_kind hv h0).symm
    · rfl
  | none =>
    simp only
    split
    · rename_i h0
      rw [zero_of_kind hv h0]
      unfold getM
      cases e2 : lastIx L k with
      | none => rfl
      | some m =>
        obtain ⟨a, b, _⟩ := lastIx_some e2
        exact I.gone m a (there_none I e m a b)
    · exact getM_ins_eq
theorem getM_setM_ne {L : List Sl} (I : Inv L) {k v k' : V} (h : k ≠ k') : getM (setM L k v).2 k' = getM L k' := by
  unfold setM
  split
  · rfl
  · split
    · rfl
    · cases e : thereM L k with
      | some i =>
        obtain ⟨a, b, c, d⟩ := there_some e
        subst c
        exact getM_set_ne b (by split <;> rfl) h
      | none =>
        simp only
        split
        · rfl
        · exact getM_ins_ne I h
end Go.Proofs.Ytoelgnjnbelokaa
