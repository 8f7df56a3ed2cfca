/-
  Every entry of a table once: what Next returns from entry to entry, with and without removing.
-/
import Derived.Test.YtoelgnjnbelokaaTGets
namespace Go.Proofs.Ytoelgnjnbelokaa

def prevK (d : Nat) : V := if d = 0 then V.zero else kI (d : Int)
section
variable {a a0 a' : List V} {m m0 m' : List Sl}
theorem firstV_some {n i : Nat} (h : firstV a n = some i) : n ≤ i ∧ i < a.length ∧ (vAt a i).k ≠ 0 ∧ ∀ j, n ≤ j → j < i → (vAt a j).k = 0 := by
  unfold firstV at h
  rw [List.find?_range_eq_some] at h
  obtain ⟨h1, h2, h3⟩ := h
  simp only [Bool.and_eq_true, decide_eq_true_eq] at h1
  refine ⟨h1.1, by simpa using h2, h1.2, fun j hj hji => ?_⟩
  have h4 := h3 j hji
  simpa [hj] using h4
theorem firstV_none {n : Nat} (h : firstV a n = none) : ∀ j, n ≤ j → j < a.length → (vAt a j).k = 0 := by
  intro j hj hl
  unfold firstV at h
  have h1 := List.find?_eq_none.1 h j (List.mem_range.2 hl)
  simpa [hj] using h1
theorem firstV_congr {n : Nat} (hl : a.length = a0.length) (h : ∀ j, n ≤ j → j < a0.length → vAt a j = vAt a0 j) : firstV a n = firstV a0 n := by
  cases e : firstV a0 n with
  | none => exact firstV_no fun j h1 h2 => by rw [h j h1 (by omega)]; exact firstV_none e j h1 (by omega)
  | some i =>
    obtain ⟨h1, h2, h3, h4⟩ := firstV_some e
    exact firstV_of h1 (by omega) (by rw [h i h1 h2]; exact h3) fun j g1 g2 => by rw [h j g1 (by omega)]; exact h4 j g1 g2
theorem cntV_same {p j : Nat} (hpj : p ≤ j) (hj : j ≤ a.length) (h : ∀ i, p ≤ i → i < j → (vAt a i).k = 0) : cntV (a.take j) = cntV (a.take p) := by
  induction j with
  | zero => obtain rfl : p = 0 := by omega
            rfl
  | succ j ih =>
    by_cases e : p = j + 1
    · rw [e]
    · rw [cntV_succ (by omega), if_pos (h j (by omega) (by omega))]
      exact ih (by omega) (by omega) fun i h1 h2 => h i h1 (by omega)
theorem cntV_take_le (a : List V) (j : Nat) : cntV (a.take j) ≤ cntV a := by
  unfold cntV
  exact ((List.take_sublist j a).filter _).length_le
theorem nOf_same {p j : Nat} (hpj : p ≤ j) (hj : j ≤ m.length) (h : ∀ i, p ≤ i → i < j → (slAt m i).g = true) : nOf (m.take j) = nOf (m.take p) := by
  induction j with
  | zero => obtain rfl : p = 0 := by omega
            rfl
  | succ j ih =>
    by_cases e : p = j + 1
    · rw [e]
    · rw [nOf_take_succ (by omega), if_pos (h j (by omega) (by omega))]
      exact ih (by omega) (by omega) fun i h1 h2 => h i h1 (by omega)
theorem nOf_take_le' (m : List Sl) (j : Nat) : nOf (m.take j) ≤ nOf m := by
  unfold nOf liveL
  exact ((List.take_sublist j m).filter _).length_le
theorem nOf_zero (h : ∀ i, i < m.length → (slAt m i).g = true) : nOf m = 0 := by
  have h1 := nOf_same (m := m) (p := 0) (Nat.zero_le _) (Nat.le_refl _) fun i _ hi => h i hi
  rw [List.take_length] at h1
  rw [h1]
  rfl
theorem lastIx_congr (hl : m.length = m0.length) (h : ∀ j, j < m0.length → (slAt m j).k = (slAt m0 j).k) (k : V) : lastIx m k = lastIx m0 k := by
  cases e : lastIx m0 k with
  | none => exact lastIx_no fun j hj => by rw [h j (by omega)]; exact lastIx_none e j (by omega)
  | some i =>
    obtain ⟨h1, h2, h3⟩ := lastIx_some e
    exact lastIx_of (by omega) (by rw [h i h1]; exact h2) fun j g1 g2 => by rw [h j (by omega)]; exact h3 j g1 (by omega)
/-- The array part as it stands when the entries ahead of pos were visited. -/
def CurA (b : Bool) (a0 : List V) (pos : Nat) (a : List V) : Prop :=
  (b = false ∧ a = a0) ∨ (b = true ∧ pos < a0.length ∧ a.length = a0.length ∧ ∀ j, j < a0.length → vAt a j = if j < pos then V.zero else vAt a0 j) ∨ (b = true ∧ pos = a0.length ∧ a = [])
/-- The map part as it stands when the slots ahead of p were visited. -/
def CurM (b : Bool) (m0 : List Sl) (p : Nat) (m : List Sl) : Prop :=
  (b = false ∧ m = m0) ∨ (b = true ∧ m.length = m0.length ∧ ∀ j, j < m0.length → (slAt m j).k = (slAt m0 j).k ∧ (j < p → (slAt m j).g = true) ∧ (p ≤ j → slAt m j = slAt m0 j))
theorem CurM.len {b : Bool} {p : Nat} (h : CurM b m0 p m) : m.length = m0.length := by
  rcases h with ⟨-, rfl⟩ | ⟨-, h, -⟩
  · rfl
  · exact h
theorem CurM.key {b : Bool} {p : Nat} (h : CurM b m0 p m) {j : Nat} (hj : j < m0.length) : (slAt m j).k = (slAt m0 j).k := by
  rcases h with ⟨-, rfl⟩ | ⟨-, -, h⟩
  · rfl
  · exact (h j hj).1
theorem CurM.at_ {b : Bool} {p : Nat} (h : CurM b m0 p m) {j : Nat} (hj : j < m0.length) (hp : p ≤ j) : slAt m j = slAt m0 j := by
  rcases h with ⟨-, rfl⟩ | ⟨-, -, h⟩
  · rfl
  · exact (h j hj).2.2 hp
theorem CurM.last {b : Bool} {p : Nat} (h : CurM b m0 p m) (k : V) : lastIx m k = lastIx m0 k := lastIx_congr h.len (fun _ hj => h.key hj) k
theorem CurM.ent {b : Bool} {p : Nat} (h : CurM b m0 p m) : entM m p = entM m0 p := by
  unfold entM
  cases e : firstLive m0 p with
  | none =>
    rw [firstLive_no fun j h1 h2 => by rw [h.at_ (by rw [← h.len]; exact h2) h1]; exact firstLive_none e j h1 (by rw [← h.len]; exact h2)]
  | some i =>
    obtain ⟨h1, h2, h3, h4⟩ := firstLive_some e
    rw [firstLive_of h1 (by rw [h.len]; exact h2) (by rw [h.at_ h2 h1]; exact h3) fun j g1 g2 => by rw [h.at_ (by omega) g1]; exact h4 j g1 g2]
    simp only
    rw [h.at_ h2 h1]
theorem CurM.start (b : Bool) (m0 : List Sl) : CurM b m0 0 m0 := by
  cases b with
  | false => exact .inl ⟨rfl, rfl⟩
  | true => exact .inr ⟨rfl, rfl, fun j _ => ⟨rfl, fun h => absurd h (by omega), fun _ => rfl⟩⟩
theorem CurA.start (b : Bool) (a0 : List V) : CurA b a0 0 a0 := by
  cases b with
  | false => exact .inl ⟨rfl, rfl⟩
  | true =>
    by_cases h : 0 < a0.length
    · exact .inr (.inl ⟨rfl, h, rfl, fun j _ => by rw [if_neg (by omega)]⟩)
    · exact .inr (.inr ⟨rfl, by omega, List.eq_nil_of_length_eq_zero (by omega)⟩)
theorem CurA.len {b : Bool} {pos : Nat} (h : CurA b a0 pos a) : a.length ≤ a0.length := by
  rcases h with ⟨-, rfl⟩ | ⟨-, -, h, -⟩ | ⟨-, -, rfl⟩
  · exact Nat.le_refl _
  · omega
  · simp
theorem nextM_zero (m : List Sl) : nextM m V.zero = entM m 0 := by unfold nextM; rw [if_pos rfl]
/-- What Next returns from the array part. -/
theorem next_arr (I : TInv a0 m0) (hN : a0.length ≤ 1000000) {b : Bool} {pos : Nat} (hp : pos ≤ a0.length) (h : CurA b a0 pos a) :
    nextT a m0 (prevK pos) = match firstV a0 pos with
      | some j => (kI ((j : Int) + 1), vAt a0 j, true, 0)
      | none => entM m0 0 := by
  have after : ∀ (c : List V), c.length = a0.length → (∀ j, pos ≤ j → j < a0.length → vAt c j = vAt a0 j) → afterT c m0 pos = match firstV a0 pos with
      | some j => (kI ((j : Int) + 1), vAt a0 j, true, 0)
      | none => entM m0 0 := fun c h1 h2 => by
    unfold afterT
    rw [firstV_congr h1 h2]
    cases e : firstV a0 pos with
    | none => simp only; exact nextM_zero m0
    | some j =>
      obtain ⟨g1, g2, -, -⟩ := firstV_some e
      simp only
      rw [h2 j g1 g2]
  by_cases h0 : pos = 0
  · subst h0
    have hk : prevK 0 = V.zero := rfl
    rw [hk]
    unfold nextT
    rw [if_pos rfl]
    rcases h with ⟨-, rfl⟩ | ⟨-, g1, g2, g3⟩ | ⟨-, g1, rfl⟩
    · exact after _ rfl fun j _ _ => rfl
    · exact after a g2 fun j g4 g5 => by rw [g3 j g5, if_neg (by omega)]
    · exact after [] (by rw [← g1]; rfl) fun j g4 g5 => by omega
  · have hk : prevK pos = kI (pos : Int) := by unfold prevK; rw [if_neg h0]
    rw [hk]
    unfold nextT
    rw [if_neg (kI_ne_zero _)]
    have hin : ∀ (c : List V), c.length = a0.length → inN c.length (kI (pos : Int)) = true := fun c hc => by rw [hc]; exact inN_kI (by omega) hp (by omega)
    have hpp : (kI (pos : Int)).p.toNat = pos := by unfold kI; simp
    rcases h with ⟨-, rfl⟩ | ⟨-, g1, g2, g3⟩ | ⟨-, g1, rfl⟩
    · rw [if_pos (hin _ rfl), hpp]; exact after _ rfl fun j _ _ => rfl
    · rw [if_pos (hin a g2), hpp]; exact after a g2 fun j g4 g5 => by rw [g3 j g5, if_neg (by omega)]
    · have hi0 : inN ([] : List V).length (kI (pos : Int)) = false := by
        cases e : inN ([] : List V).length (kI (pos : Int)) with
        | false => rfl
        | true =>
          obtain ⟨-, h2, h3⟩ := inN_iff.1 e
          simp at h3
          omega
      have hno := I.free pos (by omega) hp
      have hnx : nextM m0 (kI (pos : Int)) = (V.zero, V.zero, false, 13) := by unfold nextM; rw [if_neg (kI_ne_zero _), hno]
      rw [if_neg (by rw [hi0]; simp), if_neg (by rw [hnx]; decide), if_pos ⟨(isI_kI (by omega) (by omega)).1, by unfold kI; simp only; omega⟩, nextM_zero, firstV_no fun j j1 j2 => by omega]
/-- What Next returns from the map part. -/
theorem next_map (I : TInv a0 m0) {b : Bool} {p : Nat} (hp : 1 ≤ p) (hl : p ≤ m0.length) (hg : (slAt m0 (p - 1)).g = false) (ha : a = if b then [] else a0) (h : CurM b m0 p m) :
    nextT a m (slAt m0 (p - 1)).k = entM m0 p := by
  have hk := I.inv.key (p - 1) (by omega)
  have hla := (there_of I.inv (i := p - 1) (by omega) hg).1
  have hin : inN a.length (slAt m0 (p - 1)).k = false := by
    cases e : inN a.length (slAt m0 (p - 1)).k with
    | false => rfl
    | true =>
      obtain ⟨i, h1, h2, h3, -⟩ := inN_get e
      cases b with
      | true => rw [if_pos rfl] at ha; rw [ha] at h2; simp at h2; omega
      | false =>
        rw [if_neg (by simp)] at ha
        rw [ha] at h2
        rw [h3, I.free i h1 h2] at hla
        cases hla
  have hnz : (slAt m0 (p - 1)).k ≠ V.zero := fun e => hk.2 (by rw [e]; rfl)
  have hnx : nextM m (slAt m0 (p - 1)).k = entM m0 p := by
    unfold nextM
    rw [if_neg hnz, h.last, hla]
    simp only
    rw [show p - 1 + 1 = p by omega]
    exact h.ent
  unfold nextT
  rw [if_neg hnz, if_neg (by rw [hin]; simp), hnx, if_pos (entM_err m0 p)]
theorem shrinkN_all {c : List V} {n : Nat} (h : ∀ j, j < n → (vAt c j).k = 0) : shrinkN c n = 0 := by
  induction n with
  | zero => rfl
  | succ n ih =>
    unfold shrinkN
    rw [if_pos (h n (by omega))]
    exact ih fun j hj => h j (by omega)
/-- The array part when one more entry is removed. -/
theorem set_arr (I : TInv a0 m0) (hN : a0.length ≤ 1000000) {pos j : Nat} (h : CurA true a0 pos a) (hf : firstV a0 pos = some j) {e : Int} (hs : SetR a m0 (kI ((j : Int) + 1)) V.zero e a' m') : e = 0 ∧ m' = m0 ∧ CurA true a0 (j + 1) a' := by
  obtain ⟨f1, f2, f3, f4⟩ := firstV_some hf
  obtain ⟨g1, g2, g3⟩ : pos < a0.length ∧ a.length = a0.length ∧ ∀ j, j < a0.length → vAt a j = if j < pos then V.zero else vAt a0 j := by
    rcases h with ⟨h, -⟩ | ⟨-, g1, g2, g3⟩ | ⟨-, g1, -⟩
    · cases h
    · exact ⟨g1, g2, g3⟩
    · omega
  have hset : ∀ i, i < a0.length → vAt (a.set j V.zero) i = if i < j + 1 then V.zero else vAt a0 i := fun i hi => by
    by_cases e1 : j = i
    · subst e1
      rw [vAt_set_eq (by omega), if_pos (by omega)]
    · rw [vAt_set_ne e1, g3 i hi]
      by_cases e2 : i < pos
      · rw [if_pos e2, if_pos (by omega)]
      · rw [if_neg e2]
        by_cases e3 : i < j + 1
        · rw [if_pos e3]
          exact zero_of_kind (I.val i hi) (f4 i (by omega) (by omega))
        · rw [if_neg e3]
  cases hs with
  | badKey h =>
    rw [(isI_kI (n := (j : Int) + 1) (by omega) (by omega)).2] at h
    simp [kI] at h
  | badVal h hv => rw [zero_valid] at hv; cases hv
  | here i hi hk hv =>
    have := kI_inj hk
    obtain rfl : i = j := by omega
    refine ⟨rfl, rfl, ?_⟩
    by_cases hl : i + 1 = a.length
    · rw [if_pos hl]
      refine .inr (.inr ⟨rfl, by omega, ?_⟩)
      unfold shrinkA
      rw [List.length_set, shrinkN_all fun q hq => by rw [hset q (by omega), if_pos (by omega)]; rfl]
      rfl
    · rw [if_neg hl]
      exact .inr (.inl ⟨rfl, by omega, by rw [List.length_set]; exact g2, hset⟩)
  | add hk hv hv0 h => exact absurd rfl hv0
  | map h1 h2 hin hnx hp =>
    rw [show ((j : Int) + 1) = ((j + 1 : Nat) : Int) by simp, inN_kI (by omega) (by omega) (by omega)] at hin
    cases hin
/-- The map part when one more entry is removed. -/
theorem set_map (I : TInv a0 m0) {p j : Nat} (h : CurM true m0 p m) (hf : firstLive m0 p = some j) {e : Int} (hs : SetR [] m (slAt m0 j).k V.zero e a' m') : e = 0 ∧ a' = [] ∧ CurM true m0 (j + 1) m' := by
  obtain ⟨f1, f2, f3, f4⟩ := firstLive_some hf
  have hk := I.inv.key j f2
  have hla := (there_of I.inv f2 f3).1
  obtain ⟨g1, g2⟩ : m.length = m0.length ∧ ∀ j, j < m0.length → (slAt m j).k = (slAt m0 j).k ∧ (j < p → (slAt m j).g = true) ∧ (p ≤ j → slAt m j = slAt m0 j) := by
    rcases h with ⟨h, -⟩ | ⟨-, g1, g2⟩
    · cases h
    · exact ⟨g1, g2⟩
  have hth : thereM m (slAt m0 j).k = some j := by
    unfold thereM
    rw [h.last, hla]
    simp only
    rw [h.at_ f2 f1, f3]
    simp
  cases hs with
  | badKey h =>
    rcases h with h | h
    · exact absurd h hk.2
    · rw [hk.1] at h; cases h
  | badVal h hv => rw [zero_valid] at hv; cases hv
  | here i hi hk hv => simp at hi
  | add hk hv hv0 h => exact absurd rfl hv0
  | map h1 h2 hin hnx hp =>
    unfold setM at hp
    rw [if_neg h1, if_neg (by rw [zero_valid]; simp), hth] at hp
    simp only at hp
    rw [if_pos (show V.zero.k = 0 from rfl)] at hp
    injection hp with hp1 hp2
    subst hp1 hp2
    refine ⟨rfl, rfl, .inr ⟨rfl, by rw [List.length_set]; exact g1, fun i hi => ?_⟩⟩
    by_cases e1 : j = i
    · subst e1
      rw [slAt_set_eq (by omega)]
      exact ⟨rfl, fun _ => rfl, fun h => absurd h (by omega)⟩
    · rw [slAt_set_ne e1]
      refine ⟨(g2 i hi).1, fun h => ?_, fun h => (g2 i hi).2.2 (by omega)⟩
      by_cases e2 : i < p
      · exact (g2 i hi).2.1 e2
      · rw [(g2 i hi).2.2 (by omega)]
        exact f4 i (by omega) (by omega)
/-- What holds when i entries were visited, the last of them at the key k. -/
def VSt (b : Bool) (a0 : List V) (m0 : List Sl) (i : Nat) (k : V) (a : List V) (m : List Sl) (last : Int) (S : List V) : Prop :=
  (∃ pos, pos ≤ a0.length ∧ i = cntV (a0.take pos) ∧ k = prevK pos ∧ CurA b a0 pos a ∧ m = m0 ∧ last = (pos : Int) ∧ ∀ x ∈ S, ∃ j : Nat, j < pos ∧ x = kI ((j : Int) + 1))
  ∨ (∃ p, 1 ≤ p ∧ p ≤ m0.length ∧ (slAt m0 (p - 1)).g = false ∧ i = cntV a0 + nOf (m0.take p) ∧ k = (slAt m0 (p - 1)).k ∧ (a = if b then [] else a0) ∧ CurM b m0 p m ∧ last = (a0.length : Int) + 1 ∧ ∀ x ∈ S, (∃ j : Nat, j < a0.length ∧ x = kI ((j : Int) + 1)) ∨ ∃ j, j < p ∧ (slAt m0 j).g = false ∧ x = (slAt m0 j).k)
theorem VSt.start (b : Bool) (a0 : List V) (m0 : List Sl) : VSt b a0 m0 0 V.zero a0 m0 0 [] :=
  .inl ⟨0, Nat.zero_le _, rfl, rfl, CurA.start b a0, rfl, rfl, fun x hx => by cases hx⟩
/-- The next entry, and what holds behind it. -/
structure VNext (b : Bool) (a0 : List V) (m0 : List Sl) (i : Nat) (a : List V) (m : List Sl) (last : Int) (S : List V) (k2 v : V) (arr : Bool) : Prop where
  lt : i < nOf m0 + cntV a0
  vk : v.k ≠ 0
  get : getT a m k2 = v
  new : k2 ∉ S
  key : vok k2 = true ∧ k2.k ≠ 0
  ar : arr = (decide (k2.k = 2) && decide (k2.q = 1) && decide (1 ≤ k2.p) && decide (k2.p ≤ (a0.length : Int)))
  la : arr = true → last < k2.p
  wf : (∀ j, j < m0.length → (slAt m0 j).k.wf) → k2.wf
  set : b = true → ∀ e a' m', SetR a m k2 V.zero e a' m' → e = 0 ∧ VSt b a0 m0 (i + 1) k2 a' m' (if arr then k2.p else (a0.length : Int) + 1) (S ++ [k2])
  same : b = false → VSt b a0 m0 (i + 1) k2 a m (if arr then k2.p else (a0.length : Int) + 1) (S ++ [k2])
/-- From the end of the array part on. -/
theorem map_step (I : TInv a0 m0) {b : Bool} {i p : Nat} {k : V} {last : Int} {S : List V} (hi : i = cntV a0 + nOf (m0.take p)) (hpl : p ≤ m0.length) (ha : a = if b then [] else a0) (hm : CurM b m0 p m) (hx : nextT a m k = entM m0 p)
    (hS : ∀ x ∈ S, (∃ j : Nat, j < a0.length ∧ x = kI ((j : Int) + 1)) ∨ ∃ j, j < p ∧ (slAt m0 j).g = false ∧ x = (slAt m0 j).k) :
    (i = nOf m0 + cntV a0 ∧ nextT a m k = (V.zero, V.zero, false, 0) ∧ (b = true → nOf m + cntV a = 0)) ∨ ∃ k2 v arr, nextT a m k = (k2, v, true, 0) ∧ VNext b a0 m0 i a m last S k2 v arr := by
  cases e : firstLive m0 p with
  | none =>
    have hno := firstLive_none e
    left
    refine ⟨?_, by rw [hx]; unfold entM; rw [e], fun hb => ?_⟩
    · have h1 := nOf_same (m := m0) hpl (Nat.le_refl _) fun j h1 h2 => hno j h1 h2
      rw [List.take_length] at h1
      omega
    · subst hb
      rw [if_pos rfl] at ha
      subst ha
      have h2 : nOf m = 0 := nOf_zero fun j hj => by
        rw [hm.len] at hj
        rcases hm with ⟨h, -⟩ | ⟨-, -, h⟩
        · cases h
        · by_cases h1 : j < p
          · exact (h j hj).2.1 h1
          · rw [(h j hj).2.2 (by omega)]
            exact hno j (by omega) hj
      rw [h2]
      rfl
  | some j =>
    obtain ⟨f1, f2, f3, f4⟩ := firstLive_some e
    have hk := I.inv.key j f2
    have hv := I.inv.val j f2 f3
    have hla := (there_of I.inv f2 f3).1
    have hnoI : ∀ q : Nat, 1 ≤ q → q ≤ a0.length → (slAt m0 j).k ≠ kI (q : Int) := fun q q1 q2 e => by
      rw [e, I.free q q1 q2] at hla
      cases hla
    have hinN : inN a0.length (slAt m0 j).k = false := by
      cases e : inN a0.length (slAt m0 j).k with
      | false => rfl
      | true =>
        obtain ⟨q, h1, h2, h3, -⟩ := inN_get e
        exact absurd h3 (hnoI q h1 h2)
    have hin : inN a.length (slAt m0 j).k = false := by
      cases b with
      | false => rw [if_neg (by simp)] at ha; rw [ha]; exact hinN
      | true =>
        rw [if_pos rfl] at ha
        rw [ha]
        cases e : inN ([] : List V).length (slAt m0 j).k with
        | false => rfl
        | true =>
          obtain ⟨-, h2, h3⟩ := inN_iff.1 e
          simp at h3
          omega
    have hcount : cntV a0 + nOf (m0.take (j + 1)) = i + 1 := by
      rw [nOf_take_succ f2, if_neg (by rw [f3]; simp), nOf_same f1 (by omega) f4]
      omega
    have hnew : ∀ x ∈ S ++ [(slAt m0 j).k], (∃ j : Nat, j < a0.length ∧ x = kI ((j : Int) + 1)) ∨ ∃ q, q < j + 1 ∧ (slAt m0 q).g = false ∧ x = (slAt m0 q).k := fun x hx => by
      rcases List.mem_append.1 hx with hx | hx
      · exact (hS x hx).imp id fun ⟨q, h1, h2, h3⟩ => ⟨q, by omega, h2, h3⟩
      · rw [List.mem_singleton] at hx
        exact .inr ⟨j, by omega, f3, hx⟩
    right
    refine ⟨(slAt m0 j).k, (slAt m0 j).v, false, by rw [hx]; unfold entM; rw [e], ?_⟩
    exact {
      lt := by
        have h1 := nOf_take_le' m0 (j + 1)
        omega
      vk := hv.2
      get := by
        rw [getT_no hk.1 hin]
        unfold getM
        rw [hm.last, hla]
        simp only
        rw [hm.at_ f2 f1]
      new := fun hx => by
        rcases hS _ hx with ⟨q, h1, h2⟩ | ⟨q, h1, h2, h3⟩
        · exact hnoI (q + 1) (by omega) (by omega) (by rw [h2]; simp)
        · rw [I.inv.last q j (by omega) f2 h3.symm] at h2
          cases h2
      key := hk
      ar := by
        cases hd : (decide ((slAt m0 j).k.k = 2) && decide ((slAt m0 j).k.q = 1) && decide (1 ≤ (slAt m0 j).k.p) && decide ((slAt m0 j).k.p ≤ (a0.length : Int))) with
        | false => rfl
        | true =>
          exfalso
          simp only [Bool.and_eq_true, decide_eq_true_eq] at hd
          have h1 : inN a0.length (slAt m0 j).k = true := inN_iff.2 ⟨by unfold isI; rw [hk.1]; simp [hd.1.1.1, hd.1.1.2], hd.1.2, hd.2⟩
          rw [hinN] at h1
          cases h1
      la := fun h => by cases h
      wf := fun h => h j f2
      set := fun hb e a' m' hs => by
        subst hb
        rw [if_pos rfl] at ha
        subst ha
        obtain ⟨g1, rfl, g3⟩ := set_map I hm (by assumption) hs
        exact ⟨g1, .inr ⟨j + 1, by omega, by omega, by simpa using f3, hcount.symm, by simp, by simp, g3, by simp, hnew⟩⟩
      same := fun hb => by
        subst hb
        refine .inr ⟨j + 1, by omega, by omega, by simpa using f3, hcount.symm, by simp, ha, ?_, by simp, hnew⟩
        rcases hm with ⟨-, rfl⟩ | ⟨h, -⟩
        · exact .inl ⟨rfl, rfl⟩
        · cases h }
theorem VSt.step (I : TInv a0 m0) (hN : a0.length ≤ 1000000) {b : Bool} {i : Nat} {k : V} {last : Int} {S : List V} (h : VSt b a0 m0 i k a m last S) :
    (i = nOf m0 + cntV a0 ∧ nextT a m k = (V.zero, V.zero, false, 0) ∧ (b = true → nOf m + cntV a = 0)) ∨ ∃ k2 v arr, nextT a m k = (k2, v, true, 0) ∧ VNext b a0 m0 i a m last S k2 v arr := by
  rcases h with ⟨pos, hp, hi, hk, hA, rfl, hlast, hS⟩ | ⟨p, hp1, hpl, hg, hi, hk, ha, hM, hlast, hS⟩
  · have hx := next_arr I hN hp hA
    rw [← hk] at hx
    cases e : firstV a0 pos with
    | none =>
      have hno := firstV_none e
      rw [e] at hx
      simp only at hx
      have hpN : pos = a0.length := by
        rcases I.last with h0 | h0
        · omega
        · by_cases h1 : pos = a0.length
          · exact h1
          · exact absurd (hno (a0.length - 1) (by omega) (by omega)) h0
      have ha : a = if b then [] else a0 := by
        rcases hA with ⟨rfl, rfl⟩ | ⟨rfl, g1, -⟩ | ⟨rfl, -, rfl⟩
        · simp
        · omega
        · simp
      have hc : cntV a0 = cntV (a0.take pos) := by rw [hpN, List.take_length]
      refine map_step I (p := 0) (by rw [hi, hc]; rfl) (Nat.zero_le _) ha (CurM.start b m) hx fun x hx' => ?_
      obtain ⟨j, h1, h2⟩ := hS x hx'
      exact .inl ⟨j, by omega, h2⟩
    | some j =>
      obtain ⟨f1, f2, f3, f4⟩ := firstV_some e
      rw [e] at hx
      simp only at hx
      have hvk := (isI_kI (n := (j : Int) + 1) (by omega) (by omega))
      have hcount : i + 1 = cntV (a0.take (j + 1)) := by
        rw [cntV_succ f2, if_neg f3, cntV_same f1 (by omega) f4, hi]
      have hnew : ∀ x ∈ S ++ [kI ((j : Int) + 1)], ∃ q : Nat, q < j + 1 ∧ x = kI ((q : Int) + 1) := fun x hx => by
        rcases List.mem_append.1 hx with hx | hx
        · obtain ⟨q, h1, h2⟩ := hS x hx
          exact ⟨q, by omega, h2⟩
        · rw [List.mem_singleton] at hx
          exact ⟨j, by omega, hx⟩
      have hpk : prevK (j + 1) = kI ((j : Int) + 1) := by unfold prevK; rw [if_neg (by omega)]; simp
      have haj : j < a.length ∧ vAt a j = vAt a0 j := by
        rcases hA with ⟨-, rfl⟩ | ⟨-, g1, g2, g3⟩ | ⟨-, g1, -⟩
        · exact ⟨f2, rfl⟩
        · exact ⟨by omega, by rw [g3 j f2, if_neg (by omega)]⟩
        · omega
      have hlen := hA.len
      right
      refine ⟨_, _, true, hx, ?_⟩
      exact {
        lt := by
          have h1 := cntV_take_le a0 (j + 1)
          omega
        vk := f3
        get := by
          rw [show (kI ((j : Int) + 1) : V) = ⟨2, (j : Int) + 1, 1, ⟨#[]⟩, 0⟩ from rfl, getT_in haj.1 (by omega)]
          exact haj.2
        new := fun hx => by
          obtain ⟨q, h1, h2⟩ := hS _ hx
          have := kI_inj h2
          omega
        key := ⟨hvk.2, by simp [kI]⟩
        ar := by
          have h1 : (kI ((j : Int) + 1)).p = (j : Int) + 1 := rfl
          rw [h1, decide_eq_true (show (1 : Int) ≤ (j : Int) + 1 by omega), decide_eq_true (show (j : Int) + 1 ≤ (a0.length : Int) by omega)]
          rfl
        la := fun _ => by
          have h1 : (kI ((j : Int) + 1)).p = (j : Int) + 1 := rfl
          rw [h1]
          omega
        wf := fun _ => kI_wf (by omega) (by omega)
        set := fun hb e' a' m' hs => by
          subst hb
          obtain ⟨g1, rfl, g3⟩ := set_arr I hN hA e hs
          exact ⟨g1, .inl ⟨j + 1, by omega, hcount, hpk.symm, g3, rfl, by simp [kI], hnew⟩⟩
        same := fun hb => by
          subst hb
          refine .inl ⟨j + 1, by omega, hcount, hpk.symm, ?_, rfl, by simp [kI], hnew⟩
          rcases hA with ⟨-, rfl⟩ | ⟨h, -⟩ | ⟨h, -⟩
          · exact .inl ⟨rfl, rfl⟩
          · cases h
          · cases h }
  · have hx := next_map I hp1 hpl hg ha hM
    rw [← hk] at hx
    exact map_step I hi hpl ha hM hx hS
theorem VSt.len {b : Bool} {i : Nat} {k : V} {last : Int} {S : List V} (h : VSt b a0 m0 i k a m last S) : a.length ≤ a0.length ∧ m.length = m0.length ∧ i ≤ nOf m0 + cntV a0 := by
  rcases h with ⟨pos, hp, hi, hk, hA, rfl, hlast, hS⟩ | ⟨p, hp1, hpl, hg, hi, hk, ha, hM, hlast, hS⟩
  · have := cntV_take_le a0 pos
    exact ⟨hA.len, rfl, by omega⟩
  · have := nOf_take_le' m0 p
    refine ⟨?_, hM.len, by omega⟩
    cases b <;> simp at ha <;> rw [ha] <;> simp
theorem VSt.wf {b : Bool} {i : Nat} {k : V} {last : Int} {S : List V} (h : VSt b a0 m0 i k a m last S) (hN : a0.length ≤ 1000000) (hw : ∀ j, j < m0.length → (slAt m0 j).k.wf) : k.wf := by
  rcases h with ⟨pos, hp, hi, hk, hA, rfl, hlast, hS⟩ | ⟨p, hp1, hpl, hg, hi, hk, ha, hM, hlast, hS⟩
  · rw [hk]
    unfold prevK
    split
    · exact zero_wf
    · exact kI_wf (by omega) (by omega)
  · rw [hk]
    exact hw _ (by omega)
end
end Go.Proofs.Ytoelgnjnbelokaa
