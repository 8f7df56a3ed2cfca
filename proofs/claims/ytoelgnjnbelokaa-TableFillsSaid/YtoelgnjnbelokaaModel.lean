/-
  The plain model of a map that keeps the order of insertion: its slots; no program in sight.
-/
import Derived.Test.YtoelgnjnbelokaaVld
namespace Go.Proofs.Ytoelgnjnbelokaa

structure Sl where
  k : V
  v : V
  g : Bool
deriving DecidableEq
def Sl.cs (x : Sl) : List Value := [.int .i64 x.k.k, .int .i64 x.k.p, .int .i64 x.k.q, .string x.k.s, .int .i64 x.k.r, .int .i64 x.v.k, .int .i64 x.v.p, .int .i64 x.v.q, .string x.v.s, .int .i64 x.v.r, .bool x.g]
theorem Sl.cs_len (x : Sl) : x.cs.length = 11 := rfl
def Sl.zero : Sl := ⟨V.zero, V.zero, false⟩
instance : Inhabited Sl := ⟨Sl.zero⟩
def slAt (L : List Sl) (i : Nat) : Sl := L.getD i Sl.zero
theorem slAt_get (L : List Sl) (i : Nat) (h : i < L.length) : L[i]? = some (slAt L i) := by
  unfold slAt; rw [List.getD_eq_getElem?_getD, List.getElem?_eq_getElem h]; rfl
theorem slAt_app_lt {L M : List Sl} {i : Nat} (h : i < L.length) : slAt (L ++ M) i = slAt L i := by
  unfold slAt; rw [List.getD_eq_getElem?_getD, List.getD_eq_getElem?_getD, List.getElem?_append_left h]
theorem slAt_app_eq {L : List Sl} {x : Sl} : slAt (L ++ [x]) L.length = x := by unfold slAt; simp
theorem slAt_set_eq {L : List Sl} {i : Nat} {x : Sl} (h : i < L.length) : slAt (L.set i x) i = x := by
  unfold slAt; rw [List.getD_eq_getElem?_getD, List.getElem?_set_self h]; rfl
theorem slAt_set_ne {L : List Sl} {i j : Nat} {x : Sl} (h : i ≠ j) : slAt (L.set i x) j = slAt L j := by
  unfold slAt; rw [List.getD_eq_getElem?_getD, List.getD_eq_getElem?_getD, List.getElem?_set_ne h]
theorem slAt_mid {X Y : List Sl} {x : Sl} : slAt (X ++ [x] ++ Y) X.length = x := by unfold slAt; simp
theorem sl_ext {L M : List Sl} (hl : L.length = M.length) (h : ∀ i, i < L.length → slAt L i = slAt M i) : L = M := by
  apply List.ext_getElem?
  intro i
  by_cases hi : i < L.length
  · rw [slAt_get L i hi, slAt_get M i (by omega), h i hi]
  · rw [List.getElem?_eq_none (by omega), List.getElem?_eq_none (by omega)]

/-- The last slot of a key. -/
def lastIx : List Sl → V → Option Nat
  | [], _ => none
  | s :: l, k => match lastIx l k with
    | some i => some (i + 1)
    | none => if s.k = k then some 0 else none
theorem lastIx_some {L : List Sl} {k : V} {i : Nat} (h : lastIx L k = some i) : i < L.length ∧ (slAt L i).k = k ∧ ∀ j, i < j → j < L.length → (slAt L j).k ≠ k := by
  induction L generalizing i with
  | nil => cases h
  | cons s l ih =>
    have cons_at : ∀ j, slAt (s :: l) (j + 1) = slAt l j := fun j => by unfold slAt; simp
    unfold lastIx at h
    cases hl : lastIx l k with
    | some m =>
      rw [hl] at h
      obtain rfl : m + 1 = i := by simpa using h
      obtain ⟨h1, h2, h3⟩ := ih hl
      refine ⟨by simpa using h1, by rw [cons_at]; exact h2, fun j hj hjl => ?_⟩
      obtain ⟨j', rfl⟩ : ∃ j', j = j' + 1 := ⟨j - 1, by omega⟩
      rw [cons_at]
      exact h3 j' (by omega) (by simpa using hjl)
    | none =>
      rw [hl] at h
      by_cases hs : s.k = k
      · rw [if_pos hs] at h
        obtain rfl : 0 = i := by simpa using h
        refine ⟨by simp, hs, fun j hj hjl => ?_⟩
        obtain ⟨j', rfl⟩ : ∃ j', j = j' + 1 := ⟨j - 1, by omega⟩
        rw [cons_at]
        intro e
        have : ∀ (l : List Sl) (j : Nat), j < l.length → (slAt l j).k = k → lastIx l k ≠ none := by
          intro l
          induction l with
          | nil => intro j hj; simp at hj
          | cons a l ih2 =>
            intro j hj e
            unfold lastIx
            cases hl2 : lastIx l k with
            | some m => simp
            | none =>
              cases j with
              | zero =>
                have : a.k = k := by simpa [slAt] using e
                simp [this]
              | succ j =>
                exact absurd hl2 (ih2 j (by simpa using hj) (by unfold slAt at e ⊢; simpa using e))
        exact this l j' (by simpa using hjl) e hl
      · rw [if_neg hs] at h
        cases h
theorem lastIx_none {L : List Sl} {k : V} (h : lastIx L k = none) : ∀ j, j < L.length → (slAt L j).k ≠ k := by
  induction L with
  | nil => intro j hj; simp at hj
  | cons s l ih =>
    unfold lastIx at h
    cases hl : lastIx l k with
    | some m => rw [hl] at h; cases h
    | none =>
      rw [hl] at h
      intro j hj e
      cases j with
      | zero =>
        have : s.k = k := by simpa [slAt] using e
        simp [this] at h
      | succ j => exact ih hl j (by simpa using hj) (by unfold slAt at e ⊢; simpa using e)
theorem lastIx_of {L : List Sl} {k : V} {i : Nat} (h1 : i < L.length) (h2 : (slAt L i).k = k) (h3 : ∀ j, i < j → j < L.length → (slAt L j).k ≠ k) : lastIx L k = some i := by
  cases h : lastIx L k with
  | none => exact absurd h2 (lastIx_none h i h1)
  | some m =>
    obtain ⟨a, b, c⟩ := lastIx_some h
    rcases Nat.lt_trichotomy m i with hlt | rfl | hlt
    · exact absurd h2 (c i hlt h1)
    · rfl
    · exact absurd b (h3 m hlt a)
theorem lastIx_no {L : List Sl} {k : V} (h : ∀ j, j < L.length → (slAt L j).k ≠ k) : lastIx L k = none := by
  cases e : lastIx L k with
  | none => rfl
  | some m =>
    obtain ⟨a, b, _⟩ := lastIx_some e
    exact absurd b (h m a)

/-- The slots that are not removed. -/
def liveL (L : List Sl) : List Sl := L.filter fun x => !x.g
def nOf (L : List Sl) : Nat := (liveL L).length
theorem nOf_le (L : List Sl) : nOf L ≤ L.length := List.length_filter_le _ _
theorem liveL_app (L M : List Sl) : liveL (L ++ M) = liveL L ++ liveL M := List.filter_append ..
theorem take_succ_sl (L : List Sl) (j : Nat) (h : j < L.length) : L.take (j + 1) = L.take j ++ [slAt L j] := by
  rw [List.take_add_one, slAt_get L j h]; rfl
theorem liveL_take_succ {L : List Sl} {j : Nat} (h : j < L.length) : liveL (L.take (j + 1)) = if (slAt L j).g then liveL (L.take j) else liveL (L.take j) ++ [slAt L j] := by
  rw [take_succ_sl L j h, liveL_app]
  cases hg : (slAt L j).g <;> simp [liveL, hg]
theorem nOf_take_succ {L : List Sl} {j : Nat} (h : j < L.length) : nOf (L.take (j + 1)) = if (slAt L j).g then nOf (L.take j) else nOf (L.take j) + 1 := by
  unfold nOf
  rw [liveL_take_succ h]
  split <;> simp
theorem nOf_take_le (L : List Sl) (j : Nat) : nOf (L.take j) ≤ j := Nat.le_trans (nOf_le _) (by rw [List.length_take]; omega)
theorem nOf_take_mono {L : List Sl} {i j : Nat} (h : i ≤ j) : nOf (L.take i) ≤ nOf (L.take j) := by
  have e : L.take i = (L.take j).take i := by rw [List.take_take, Nat.min_eq_left h]
  have : L.take j = L.take i ++ (L.take j).drop i := by rw [e]; simp
  rw [this]
  unfold nOf
  rw [liveL_app, List.length_append]
  omega
/-- Where a slot that is not removed comes to lie when the removed ones are dropped. -/
theorem liveL_at {L : List Sl} {i : Nat} (h : i < L.length) (hg : (slAt L i).g = false) : nOf (L.take i) < nOf L ∧ slAt (liveL L) (nOf (L.take i)) = slAt L i := by
  have hs : L = L.take i ++ [slAt L i] ++ L.drop (i + 1) := by
    rw [← take_succ_sl L i h, List.take_append_drop]
  have hl : liveL L = liveL (L.take i) ++ [slAt L i] ++ liveL (L.drop (i + 1)) := by
    conv => lhs; rw [hs]
    rw [liveL_app, liveL_app]
    congr 2
    simp [liveL, hg]
  constructor
  · unfold nOf
    rw [hl]
    simp
  · unfold nOf
    rw [hl]
    exact slAt_mid
theorem liveL_of {L : List Sl} {m : Nat} (h : m < nOf L) : ∃ i, i < L.length ∧ (slAt L i).g = false ∧ nOf (L.take i) = m := by
  have key : ∀ j, j ≤ L.length → m < nOf (L.take j) → ∃ i, i < j ∧ (slAt L i).g = false ∧ nOf (L.take i) = m := by
    intro j
    induction j with
    | zero => intro _ h0; simp [nOf, liveL] at h0
    | succ j ih =>
      intro hj h0
      rw [nOf_take_succ (by omega)] at h0
      by_cases hlt : m < nOf (L.take j)
      · obtain ⟨i, a, b, c⟩ := ih (by omega) hlt
        exact ⟨i, by omega, b, c⟩
      · cases hg : (slAt L j).g with
        | true => rw [hg] at h0; exact absurd h0 hlt
        | false =>
          rw [hg] at h0
          simp at h0
          exact ⟨j, by omega, hg, by omega⟩
  obtain ⟨i, a, b, c⟩ := key L.length (Nat.le_refl _) (by rw [List.take_length]; exact h)
  exact ⟨i, a, b, c⟩

/-- A slot that is not removed is the last one of its key; removed ones have no value. -/
structure Inv (L : List Sl) : Prop where
  last : ∀ i j, i < j → j < L.length → (slAt L i).k = (slAt L j).k → (slAt L i).g = true
  key : ∀ i, i < L.length → vok (slAt L i).k = true ∧ (slAt L i).k.k ≠ 0
  val : ∀ i, i < L.length → (slAt L i).g = false → vok (slAt L i).v = true ∧ (slAt L i).v.k ≠ 0
  gone : ∀ i, i < L.length → (slAt L i).g = true → (slAt L i).v = V.zero
theorem Inv.nil : Inv [] := ⟨fun i j _ h => absurd h (by simp), fun i h => absurd h (by simp), fun i h => absurd h (by simp), fun i h => absurd h (by simp)⟩
/-- The value of a key. -/
def getM (L : List Sl) (k : V) : V := match lastIx L k with
  | some i => (slAt L i).v
  | none => V.zero
/-- A slot more, the removed ones dropped where they are many. -/
def insM (L : List Sl) (k v : V) : List Sl := (if nOf L + 8 < L.length - nOf L then liveL L else L) ++ [⟨k, v, false⟩]
def thereM (L : List Sl) (k : V) : Option Nat := match lastIx L k with
  | some i => if (slAt L i).g then none else some i
  | none => none
def setM (L : List Sl) (k v : V) : Int × List Sl :=
  if k.k = 0 ∨ vok k = false then (13, L) else
  if vok v = false then (2, L) else
  match thereM L k with
  | some i => (0, L.set i (if v.k = 0 then ⟨k, V.zero, true⟩ else ⟨k, v, false⟩))
  | none => (0, if v.k = 0 then L else insM L k v)
/-- The first slot from j on that is not removed. -/
def firstLive (L : List Sl) (j : Nat) : Option Nat := (List.range L.length).find? fun i => decide (j ≤ i) && !(slAt L i).g
theorem firstLive_some {L : List Sl} {j i : Nat} (h : firstLive L j = some i) : j ≤ i ∧ i < L.length ∧ (slAt L i).g = false ∧ ∀ m, j ≤ m → m < i → (slAt L m).g = true := by
  unfold firstLive at h
  have h1 := List.find?_some h
  have h2 := List.mem_of_find?_eq_some h
  simp at h1 h2
  refine ⟨h1.1, h2, h1.2, fun m hm hmi => ?_⟩
  obtain ⟨_, la, bs, e, hb⟩ := List.find?_eq_some_iff_append.1 h
  have hm2 : m ∈ la := by
    have hlen : la.length = i := by
      have h3 : (List.range L.length)[la.length]? = some i := by rw [e]; simp
      rw [List.getElem?_eq_some_iff] at h3
      obtain ⟨h4, h5⟩ := h3
      simpa using h5
    have h6 : (List.range L.length)[m]? = some m := List.getElem?_range (by omega)
    rw [e, List.getElem?_append_left (by omega)] at h6
    exact List.mem_of_getElem? h6
  have := hb m hm2
  simpa [hm] using this
theorem firstLive_none {L : List Sl} {j : Nat} (h : firstLive L j = none) : ∀ m, j ≤ m → m < L.length → (slAt L m).g = true := by
  intro m hm hl
  unfold firstLive at h
  have := List.find?_eq_none.1 h m (List.mem_range.2 hl)
  simpa [hm] using this
theorem firstLive_of {L : List Sl} {j i : Nat} (h1 : j ≤ i) (h2 : i < L.length) (h3 : (slAt L i).g = false) (h4 : ∀ m, j ≤ m → m < i → (slAt L m).g = true) : firstLive L j = some i := by
  cases e : firstLive L j with
  | none => rw [firstLive_none e i h1 h2] at h3; cases h3
  | some m =>
    obtain ⟨a, b, c, d⟩ := firstLive_some e
    rcases Nat.lt_trichotomy m i with hlt | rfl | hlt
    · rw [h4 m a hlt] at c; cases c
    · rfl
    · rw [d i h1 hlt] at h3; cases h3
theorem firstLive_no {L : List Sl} {j : Nat} (h : ∀ m, j ≤ m → m < L.length → (slAt L m).g = true) : firstLive L j = none := by
  cases e : firstLive L j with
  | none => rfl
  | some m =>
    obtain ⟨a, b, c, _⟩ := firstLive_some e
    rw [h m a b] at c; cases c
/-- What Next returns: key, value, whether there is one, the error. -/
def entM (L : List Sl) (j : Nat) : V × V × Bool × Int := match firstLive L j with
  | some i => ((slAt L i).k, (slAt L i).v, true, 0)
  | none => (V.zero, V.zero, false, 0)
def nextM (L : List Sl) (k : V) : V × V × Bool × Int :=
  if k = V.zero then entM L 0 else match lastIx L k with
  | some i => entM L (i + 1)
  | none => (V.zero, V.zero, false, 13)
def keysM (L : List Sl) : List V := (liveL L).map (·.k)
theorem keysM_len (L : List Sl) : (keysM L).length = nOf L := by simp [keysM, nOf]
end Go.Proofs.Ytoelgnjnbelokaa
