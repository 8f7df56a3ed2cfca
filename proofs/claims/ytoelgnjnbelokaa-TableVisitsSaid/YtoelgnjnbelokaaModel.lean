/-
  The plain model of a map that keeps the order of insertion: its slots; no program in sight.
  The plain laws of a map that keeps the order of insertion: what a call leaves.
-/
import Derived.Test.YtoelgnjnbelokaaVld
namespace Go.Proofs.Ytoelgnjnbelokaa

structure Sl where
  k : V
  v : V
  g : Bool
deriving DecidableEq
def Sl.cs (x : Sl) : List Value := [.int .i64 x.k.k, .int .i64 x.k.p, .int .i64 x.k.q, .string x.k.s, .int .i64 x.k.r, .int .i64 x.v.k, .int .i64 x.v.p, .int .i64 x.v.q, .string x.v.s, .int .i64 x.v.r, .bool x.g]
theorem Sl.cs_len (x : Sl) : x.cs.length = 11 := rfl
def Sl.zero : Sl := ⟨V.zero, V.zero, false⟩
instance : Inhabited Sl := ⟨Sl.zero⟩
def slAt (L : List Sl) (i : Nat) : Sl := L.getD i Sl.zero
theorem slAt_get (L : List Sl) (i : Nat) (h : i < L.length) : L[i]? = some (slAt L i) := by
  unfold slAt; rw [List.getD_eq_getElem?_getD, List.getElem?_eq_getElem h]; rfl
theorem slAt_app_lt {L M : List Sl} {i : Nat} (h : i < L.length) : slAt (L ++ M) i = slAt L i := by
  unfold slAt; rw [List.getD_eq_getElem?_getD, List.getD_eq_getElem?_getD, List.getElem?_append_left h]
theorem slAt_app_eq {L : List Sl} {x : Sl} : slAt (L ++ [x]) L.length = x := by unfold slAt; simp
theorem slAt_set_eq {L : List Sl} {i : Nat} {x : Sl} (h : i < L.length) : slAt (L.set i x) i = x := by
  unfold slAt; rw [List.getD_eq_getElem?_getD, List.getElem?_set_self h]; rfl
theorem slAt_set_ne {L : List Sl} {i j : Nat} {x : Sl} (h : i ≠ j) : slAt (L.set i x) j = slAt L j := by
  unfold slAt; rw [List.getD_eq_getElem?_getD, List.getD_eq_getElem?_getD, List.getElem?_set_ne h]
theorem slAt_mid {X Y : List Sl} {x : Sl} : slAt (X ++ [x] ++ Y) X.length = x := by unfold slAt; simp
theorem sl_ext {L M : List Sl} (hl : L.length = M.length) (h : ∀ i, i < L.length → slAt L i = slAt M i) : L = M := by
  apply List.ext_getElem?
  intro i
  by_cases hi : i < L.length
  · rw [slAt_get L i hi, slAt_get M i (by omega), h i hi]
  · rw [List.getElem?_eq_none (by omega), List.getElem?_eq_none (by omega)]

/-- The last slot of a key. -/
def lastIx : List Sl → V → Option Nat
  | [], _ => none
  | s :: l, k => match lastIx l k with
    | some i => some (i + 1)
    | none => if s.k = k then some 0 else none
theorem lastIx_some {L : List Sl} {k : V} {i : Nat} (h : lastIx L k = some i) : i < L.length ∧ (slAt L i).k = k ∧ ∀ j, i < j → j < L.length → (slAt L j).k ≠ k := by
  induction L generalizing i with
  | nil => cases h
  | cons s l ih =>
    have cons_at : ∀ j, slAt (s :: l) (j + 1) = slAt l j := fun j => by unfold slAt; simp
    unfold lastIx at h
    cases hl : lastIx l k with
    | some m =>
      rw [hl] at h
      obtain rfl : m + 1 = i := by simpa using h
      obtain ⟨h1, h2, h3⟩ := ih hl
      refine ⟨by simpa using h1, by rw [cons_at]; exact h2, fun j hj hjl => ?_⟩
      obtain ⟨j', rfl⟩ : ∃ j', j = j' + 1 := ⟨j - 1, by omega⟩
      rw [cons_at]
      exact h3 j' (by omega) (by simpa using hjl)
    | none =>
      rw [hl] at h
      by_cases hs : s.k = k
      · rw [if_pos hs] at h
        obtain rfl : 0 = i := by simpa using h
        refine ⟨by simp, hs, fun j hj hjl => ?_⟩
        obtain ⟨j', rfl⟩ : ∃ j', j = j' + 1 := ⟨j - 1, by omega⟩
        rw [cons_at]
        intro e
        have : ∀ (l : List Sl) (j : Nat), j < l.length → (slAt l j).k = k → lastIx l k ≠ none := by
          intro l
          induction l with
          | nil => intro j hj; simp at hj
          | cons a l ih2 =>
            intro j hj e
            unfold lastIx
            cases hl2 : lastIx l k with
            | some m => simp
            | none =>
              cases j with
              | zero =>
                have : a.k = k := by simpa [slAt] using e
                simp [this]
              | succ j =>
                exact absurd hl2 (ih2 j (by simpa using hj) (by unfold slAt at e ⊢; simpa using e))
        exact this l j' (by simpa using hjl) e hl
      · rw [if_neg hs] at h
        cases h
theorem lastIx_none {L : List Sl} {k : V} (h : lastIx L k = none) : ∀ j, j < L.length → (slAt L j).k ≠ k := by
  induction L with
  | nil => intro j hj; simp at hj
  | cons s l ih =>
    unfold lastIx at h
    cases hl : lastIx l k with
    | some m => rw [hl] at h; cases h
    | none =>
      rw [hl] at h
      intro j hj e
      cases j with
      | zero =>
        have : s.k = k := by simpa [slAt] using e
        simp [this] at h
      | succ j => exact ih hl j (by simpa using hj) (by unfold slAt at e ⊢; simpa using e)
theorem lastIx_of {L : List Sl} {k : V} {i : Nat} (h1 : i < L.length) (h2 : (slAt L i).k = k) (h3 : ∀ j, i < j → j < L.length → (slAt L j).k ≠ k) : lastIx L k = some i := by
  cases h : lastIx L k with
  | none => exact absurd h2 (lastIx_none h i h1)
  | some m =>
    obtain ⟨a, b, c⟩ := lastIx_some h
    rcases Nat.lt_trichotomy m i with hlt | rfl | hlt
    · exact absurd h2 (c i hlt h1)
    · rfl
    · exact absurd b (h3 m hlt a)
theorem lastIx_no {L : List Sl} {k : V} (h : ∀ j, j < L.length → (slAt L j).k ≠ k) : lastIx L k = none := by
  cases e : lastIx L k with
  | none => rfl
  | some m =>
    obtain ⟨a, b, _⟩ := lastIx_some e
    exact absurd b (h m a)

/-- The slots that are not removed. -/
def liveL (L : List Sl) : List Sl := L.filter fun x => !x.g
def nOf (L : List Sl) : Nat := (liveL L).length
theorem nOf_le (L : List Sl) : nOf L ≤ L.length := List.length_filter_le _ _
theorem liveL_app (L M : List Sl) : liveL (L ++ M) = liveL L ++ liveL M := List.filter_append ..
theorem take_succ_sl (L : List Sl) (j : Nat) (h : j < L.length) : L.take (j + 1) = L.take j ++ [slAt L j] := by
  rw [List.take_add_one, slAt_get L j h]; rfl
theorem liveL_take_succ {L : List Sl} {j : Nat} (h : j < L.length) : liveL (L.take (j + 1)) = if (slAt L j).g then liveL (L.take j) else liveL (L.take j) ++ [slAt L j] := by
  rw [take_succ_sl L j h, liveL_app]
  cases hg : (slAt L j).g <;> simp [liveL, hg]
theorem nOf_take_succ {L : List Sl} {j : Nat} (h : j < L.length) : nOf (L.take (j + 1)) = if (slAt L j).g then nOf (L.take j) else nOf (L.take j) + 1 := by
  unfold nOf
  rw [liveL_take_succ h]
  split <;> simp
theorem nOf_take_le (L : List Sl) (j : Nat) : nOf (L.take j) ≤ j := Nat.le_trans (nOf_le _) (by rw [List.length_take]; omega)
theorem nOf_take_mono {L : List Sl} {i j : Nat} (h : i ≤ j) : nOf (L.take i) ≤ nOf (L.take j) := by
  have e : L.take i = (L.take j).take i := by rw [List.take_take, Nat.min_eq_left h]
  have : L.take j = L.take i ++ (L.take j).drop i := by rw [e]; simp
  rw [this]
  unfold nOf
  rw [liveL_app, List.length_append]
  omega
/-- Where a slot that is not removed comes to lie when the removed ones are dropped. -/
theorem liveL_at {L : List Sl} {i : Nat} (h : i < L.length) (hg : (slAt L i).g = false) : nOf (L.take i) < nOf L ∧ slAt (liveL L) (nOf (L.take i)) = slAt L i := by
  have hs : L = L.take i ++ [slAt L i] ++ L.drop (i + 1) := by
    rw [← take_succ_sl L i h, List.take_append_drop]
  have hl : liveL L = liveL (L.take i) ++ [slAt L i] ++ liveL (L.drop (i + 1)) := by
    conv => lhs; rw [hs]
    rw [liveL_app, liveL_app]
    congr 2
    simp [liveL, hg]
  constructor
  · unfold nOf
    rw [hl]
    simp
  · unfold nOf
    rw [hl]
    exact slAt_mid
theorem liveL_of {L : List Sl} {m : Nat} (h : m < nOf L) : ∃ i, i < L.length ∧ (slAt L i).g = false ∧ nOf (L.take i) = m := by
  have key : ∀ j, j ≤ L.length → m < nOf (L.take j) → ∃ i, i < j ∧ (slAt L i).g = false ∧ nOf (L.take i) = m := by
    intro j
    induction j with
    | zero => intro _ h0; simp [nOf, liveL] at h0
    | succ j ih =>
      intro hj h0
      rw [nOf_take_succ (by omega)] at h0
      by_cases hlt : m < nOf (L.take j)
      · obtain ⟨i, a, b, c⟩ := ih (by omega) hlt
        exact ⟨i, by omega, b, c⟩
      · cases hg : (slAt L j).g with
        | true => rw [hg] at h0; exact absurd h0 hlt
        | false =>
          rw [hg] at h0
          simp at h0
          exact ⟨j, by omega, hg, by omega⟩
  obtain ⟨i, a, b, c⟩ := key L.length (Nat.le_refl _) (by rw [List.take_length]; exact h)
  exact ⟨i, a, b, c⟩

/-- A slot that is not removed is the last one of its key; removed ones have no value. -/
structure Inv (L : List Sl) : Prop where
  last : ∀ i j, i < j → j < L.length → (slAt L i).k = (slAt L j).k → (slAt L i).g = true
  key : ∀ i, i < L.length → vok (slAt L i).k = true ∧ (slAt L i).k.k ≠ 0
  val : ∀ i, i < L.length → (slAt L i).g = false → vok (slAt L i).v = true ∧ (slAt L i).v.k ≠ 0
  gone : ∀ i, i < L.length → (slAt L i).g = true → (slAt L i).v = V.zero
theorem Inv.nil : Inv [] := ⟨fun i j _ h => absurd h (by simp), fun i h => absurd h (by simp), fun i h => absurd h (by simp), fun i h => absurd h (by simp)⟩
/-- The value of a key. -/
def getM (L : List Sl) (k : V) : V := match lastIx L k with
  | some i => (slAt L i).v
  | none => V.zero
/-- A slot more, the removed ones dropped where they are many. -/
def insM (L : List Sl) (k v : V) : List Sl := (if nOf L + 8 < L.length - nOf L then liveL L else L) ++ [⟨k, v, false⟩]
def thereM (L : List Sl) (k : V) : Option Nat := match lastIx L k with
  | some i => if (slAt L i).g then none else some i
  | none => none
def setM (L : List Sl) (k v : V) : Int × List Sl :=
  if k.k = 0 ∨ vok k = false then (13, L) else
  if vok v = false then (2, L) else
  match thereM L k with
  | some i => (0, L.set i (if v.k = 0 then ⟨k, V.zero, true⟩ else ⟨k, v, false⟩))
  | none => (0, if v.k = 0 then L else insM L k v)
/-- The first slot from j on that is not removed. -/
def firstLive (L : List Sl) (j : Nat) : Option Nat := (List.range L.length).find? fun i => decide (j ≤ i) && !(slAt L i).g
theorem firstLive_some {L : List Sl} {j i : Nat} (h : firstLive L j = some i) : j ≤ i ∧ i < L.length ∧ (slAt L i).g = false ∧ ∀ m, j ≤ m → m < i → (slAt L m).g = true := by
  unfold firstLive at h
  have h1 := List.find?_some h
  have h2 := List.mem_of_find?_eq_some h
  simp at h1 h2
  refine ⟨h1.1, h2, h1.2, fun m hm hmi => ?_⟩
  obtain ⟨_, la, bs, e, hb⟩ := List.find?_eq_some_iff_append.1 h
  have hm2 : m ∈ la := by
    have hlen : la.length = i := by
      have h3 : (List.range L.length)[la.length]? = some i := by rw [e]; simp
      rw [List.getElem?_eq_some_iff] at h3
      obtain ⟨h4, h5⟩ := h3
      simpa using h5
    have h6 : (List.range L.length)[m]? = some m := List.getElem?_range (by omega)
    rw [e, List.getElem?_append_left (by omega)] at h6
    exact List.mem_of_getElem? h6
  have := hb m hm2
  simpa [hm] using this
theorem firstLive_none {L : List Sl} {j : Nat} (h : firstLive L j = none) : ∀ m, j ≤ m → m < L.length → (slAt L m).g = true := by
  intro m hm hl
  unfold firstLive at h
  have := List.find?_eq_none.1 h m (List.mem_range.2 hl)
  simpa [hm] using this
theorem firstLive_of {L : List Sl} {j i : Nat} (h1 : j ≤ i) (h2 : i < L.length) (h3 : (slAt L i).g = false) (h4 : ∀ m, j ≤ m → m < i → (slAt L m).g = true) : firstLive L j = some i := by
  cases e : firstLive L j with
  | none => rw [firstLive_none e i h1 h2] at h3; cases h3
  | some m =>
    obtain ⟨a, b, c, d⟩ := firstLive_some e
    rcases Nat.lt_trichotomy m i with hlt | rfl | hlt
    · rw [h4 m a hlt] at c; cases c
    · rfl
    · rw [d i h1 hlt] at h3; cases h3
theorem firstLive_no {L : List Sl} {j : Nat} (h : ∀ m, j ≤ m → m < L.length → (slAt L m).g = true) : firstLive L j = none := by
  cases e : firstLive L j with
  | none => rfl
  | some m =>
    obtain ⟨a, b, c, _⟩ := firstLive_some e
    rw [h m a b] at c; cases c
/-- What Next returns: key, value, whether there is one, the error. -/
def entM (L : List Sl) (j : Nat) : V × V × Bool × Int := match firstLive L j with
  | some i => ((slAt L i).k, (slAt L i).v, true, 0)
  | none => (V.zero, V.zero, false, 0)
def nextM (L : List Sl) (k : V) : V × V × Bool × Int :=
  if k = V.zero then entM L 0 else match lastIx L k with
  | some i => entM L (i + 1)
  | none => (V.zero, V.zero, false, 13)
def keysM (L : List Sl) : List V := (liveL L).map (·.k)
theorem keysM_len (L : List Sl) : (keysM L).length = nOf L := by simp [keysM, nOf]
end Go.Proofs.Ytoelgnjnbelokaa

namespace Go.Proofs.Ytoelgnjnbelokaa

theorem liveL_all {L : List Sl} {i : Nat} (h : i < (liveL L).length) : ∃ a, a < L.length ∧ (slAt L a).g = false ∧ nOf (L.take a) = i ∧ slAt (liveL L) i = slAt L a := by
  obtain ⟨a, h1, h2, h3⟩ := liveL_of (L := L) (m := i) h
  exact ⟨a, h1, h2, h3, by rw [← h3]; exact (liveL_at h1 h2).2⟩
theorem nOf_lt_of {L : List Sl} {a b : Nat} (h : nOf (L.take a) < nOf (L.take b)) : a < b := by
  rcases Nat.lt_or_ge a b with h' | h'
  · exact h'
  · have := nOf_take_mono (L := L) h'
    omega
theorem Inv.liveL {L : List Sl} (I : Inv L) : Inv (liveL L) := by
  constructor
  · intro i j hij hj hk
    obtain ⟨a, a1, a2, a3, a4⟩ := liveL_all (L := L) (i := i) (by omega)
    obtain ⟨b, b1, b2, b3, b4⟩ := liveL_all (L := L) hj
    rw [a4, b4] at hk
    have := I.last a b (nOf_lt_of (L := L) (by omega)) b1 hk
    rw [a2] at this
    cases this
  · intro i hi
    obtain ⟨a, a1, a2, a3, a4⟩ := liveL_all hi
    rw [a4]
    exact I.key a a1
  · intro i hi _
    obtain ⟨a, a1, a2, a3, a4⟩ := liveL_all hi
    rw [a4]
    exact I.val a a1 a2
  · intro i hi hg
    obtain ⟨a, a1, a2, a3, a4⟩ := liveL_all hi
    rw [a4, a2] at hg
    cases hg
theorem Inv.app {L : List Sl} (I : Inv L) {k v : V} (hk : vok k = true ∧ k.k ≠ 0) (hv : vok v = true ∧ v.k ≠ 0) (hn : ∀ i, i < L.length → (slAt L i).k = k → (slAt L i).g = true) : Inv (L ++ [⟨k, v, false⟩]) := by
  have cases_ : ∀ i, i < (L ++ [(⟨k, v, false⟩ : Sl)]).length → i < L.length ∨ i = L.length := fun i hi => by
    rw [List.length_append, List.length_singleton] at hi
    omega
  constructor
  · intro i j hij hj he
    rcases cases_ j hj with h | rfl
    · rw [slAt_app_lt h, slAt_app_lt (by omega)] at he
      rw [slAt_app_lt (by omega)]
      exact I.last i j hij h he
    · rw [slAt_app_lt hij, slAt_app_eq] at he
      rw [slAt_app_lt hij]
      exact hn i hij he
  · intro i hi
    rcases cases_ i hi with h | rfl
    · rw [slAt_app_lt h]; exact I.key i h
    · rw [slAt_app_eq]; exact hk
  · intro i hi hg
    rcases cases_ i hi with h | rfl
    · rw [slAt_app_lt h] at hg ⊢; exact I.val i h hg
    · rw [slAt_app_eq]; exact hv
  · intro i hi hg
    rcases cases_ i hi with h | rfl
    · rw [slAt_app_lt h] at hg ⊢; exact I.gone i h hg
    · rw [slAt_app_eq] at hg; cases hg
theorem Inv.set {L : List Sl} (I : Inv L) {i : Nat} (hi : i < L.length) (hg : (slAt L i).g = false) {x : Sl} (hk : x.k = (slAt L i).k) (hv : x.g = false → vok x.v = true ∧ x.v.k ≠ 0) (hz : x.g = true → x.v = V.zero) : Inv (L.set i x) := by
  have kk : ∀ j, (slAt (L.set i x) j).k = (slAt L j).k := fun j => by
    by_cases h : i = j
    · subst h; rw [slAt_set_eq hi, hk]
    · rw [slAt_set_ne h]
  constructor
  · intro a b hab hb he
    rw [List.length_set] at hb
    rw [kk, kk] at he
    have := I.last a b hab hb he
    by_cases h : i = a
    · subst h; rw [hg] at this; cases this
    · rw [slAt_set_ne h]; exact this
  · intro j hj
    rw [List.length_set] at hj
    rw [kk]
    exact I.key j hj
  · intro j hj h
    rw [List.length_set] at hj
    by_cases e : i = j
    · subst e; rw [slAt_set_eq hi] at h ⊢; exact hv h
    · rw [slAt_set_ne e] at h ⊢; exact I.val j hj h
  · intro j hj h
    rw [List.length_set] at hj
    by_cases e : i = j
    · subst e; rw [slAt_set_eq hi] at h ⊢; exact hz h
    · rw [slAt_set_ne e] at h ⊢; exact I.gone j hj h
theorem there_some {L : List Sl} {k : V} {i : Nat} (h : thereM L k = some i) : lastIx L k = some i ∧ i < L.length ∧ (slAt L i).k = k ∧ (slAt L i).g = false := by
  unfold thereM at h
  cases hl : lastIx L k with
  | none => rw [hl] at h; cases h
  | some m =>
    rw [hl] at h
    simp only at h
    cases hg : (slAt L m).g with
    | true => rw [hg] at h; cases h
    | false =>
      rw [hg] at h
      obtain rfl : m = i := by simpa using h
      obtain ⟨a, b, _⟩ := lastIx_some hl
      exact ⟨rfl, a, b, hg⟩
theorem there_none {L : List Sl} (I : Inv L) {k : V} (h : thereM L k = none) : ∀ i, i < L.length → (slAt L i).k = k → (slAt L i).g = true := by
  intro i hi hk
  unfold thereM at h
  cases hl : lastIx L k with
  | none => exact absurd hk (lastIx_none hl i hi)
  | some m =>
    rw [hl] at h
    simp only at h
    obtain ⟨a, b, c⟩ := lastIx_some hl
    have hg : (slAt L m).g = true := by
      cases hg : (slAt L m).g with
      | true => rfl
      | false => rw [hg] at h; cases h
    rcases Nat.lt_trichotomy i m with hlt | rfl | hlt
    · exact I.last i m hlt a (by rw [hk, b])
    · exact hg
    · exact absurd hk (c i hlt hi)
theorem there_of {L : List Sl} (I : Inv L) {i : Nat} (hi : i < L.length) (hg : (slAt L i).g = false) : lastIx L (slAt L i).k = some i ∧ thereM L (slAt L i).k = some i := by
  have h : lastIx L (slAt L i).k = some i := lastIx_of hi rfl fun j hj hl e => by
    have := I.last i j hj hl e.symm
    rw [hg] at this
    cases this
  refine ⟨h, ?_⟩
  unfold thereM
  rw [h]
  simp [hg]
theorem ins_live {L : List Sl} (I : Inv L) {k : V} (h : thereM L k = none) : ∀ i, i < (liveL L).length → (slAt (liveL L) i).k ≠ k := by
  intro i hi e
  obtain ⟨a, a1, a2, a3, a4⟩ := liveL_all hi
  rw [a4] at e
  have := there_none I h a a1 e
  rw [a2] at this
  cases this
theorem Inv.ins {L : List Sl} (I : Inv L) {k v : V} (hk : vok k = true ∧ k.k ≠ 0) (hv : vok v = true ∧ v.k ≠ 0) (h : thereM L k = none) : Inv (insM L k v) := by
  unfold insM
  split
  · exact I.liveL.app hk hv fun i hi e => absurd e (ins_live I h i hi)
  · exact I.app hk hv (there_none I h)
theorem Inv.setM {L : List Sl} (I : Inv L) (k v : V) : Inv (setM L k v).2 := by
  unfold Ytoelgnjnbelokaa.setM
  split
  · exact I
  · rename_i h1
    have hk : vok k = true ∧ k.k ≠ 0 := by
      refine ⟨?_, fun e => h1 (.inl e)⟩
      cases h : vok k with
      | true => rfl
      | false => exact absurd (.inr h) h1
    split
    · exact I
    · rename_i h2
      have hv : vok v = true := by simpa using h2
      split
      · rename_i i h3
        obtain ⟨a, b, c, d⟩ := there_some h3
        by_cases h0 : v.k = 0
        · simp only [if_pos h0]
          exact I.set b d c.symm (fun h => by cases h) fun _ => rfl
        · simp only [if_neg h0]
          exact I.set b d c.symm (fun _ => ⟨hv, h0⟩) fun h => by cases h
      · rename_i h3
        by_cases h0 : v.k = 0
        · simp only [if_pos h0]; exact I
        · simp only [if_neg h0]; exact I.ins hk ⟨hv, h0⟩ h3
theorem insM_len (L : List Sl) (k v : V) : (insM L k v).length ≤ L.length + 1 := by
  unfold insM
  split
  · have := nOf_le L; simp [nOf] at this ⊢; omega
  · simp
theorem setM_len (L : List Sl) (k v : V) : (setM L k v).2.length ≤ L.length + 1 := by
  unfold setM
  split
  · simp
  · split
    · simp
    · split
      · simp
      · by_cases h0 : v.k = 0
        · simp [h0]
        · simp only [if_neg h0]; exact insM_len L k v
/-! ### What is found behind a call -/
theorem lastIx_app_eq {L : List Sl} {k v : V} : lastIx (L ++ [⟨k, v, false⟩]) k = some L.length :=
  lastIx_of (by simp) (by rw [slAt_app_eq]) fun j hj hl => by rw [List.length_append, List.length_singleton] at hl; omega
theorem lastIx_app_ne {L : List Sl} {x : Sl} {k : V} (h : x.k ≠ k) : lastIx (L ++ [x]) k = lastIx L k := by
  cases e : lastIx L k with
  | none =>
    refine lastIx_no fun j hj => ?_
    rw [List.length_append, List.length_singleton] at hj
    by_cases hj' : j < L.length
    · rw [slAt_app_lt hj']; exact lastIx_none e j hj'
    · obtain rfl : j = L.length := by omega
      rw [slAt_app_eq]; exact h
  | some i =>
    obtain ⟨a, b, c⟩ := lastIx_some e
    refine lastIx_of (by rw [List.length_append]; omega) (by rw [slAt_app_lt a]; exact b) fun j hj hl => ?_
    rw [List.length_append, List.length_singleton] at hl
    by_cases hj' : j < L.length
    · rw [slAt_app_lt hj']; exact c j hj hj'
    · obtain rfl : j = L.length := by omega
      rw [slAt_app_eq]; exact h
theorem lastIx_set {L : List Sl} {i : Nat} {x : Sl} (hi : i < L.length) (hx : x.k = (slAt L i).k) (k : V) : lastIx (L.set i x) k = lastIx L k := by
  have kk : ∀ j, (slAt (L.set i x) j).k = (slAt L j).k := fun j => by
    by_cases h : i = j
    · subst h; rw [slAt_set_eq hi, hx]
    · rw [slAt_set_ne h]
  cases e : lastIx L k with
  | none => exact lastIx_no fun j hj => by rw [kk]; exact lastIx_none e j (by simpa using hj)
  | some m =>
    obtain ⟨a, b, c⟩ := lastIx_some e
    exact lastIx_of (by simpa using a) (by rw [kk]; exact b) fun j hj hl => by rw [kk]; exact c j hj (by simpa using hl)
/-- Where a key lies when the removed slots are dropped. -/
theorem lastIx_live {L : List Sl} (I : Inv L) (k : V) : lastIx (liveL L) k = (thereM L k).map fun i => nOf (L.take i) := by
  cases e : thereM L k with
  | none => exact lastIx_no (ins_live I e)
  | some i =>
    obtain ⟨_, a, b, c⟩ := there_some e
    obtain ⟨h1, h2⟩ := liveL_at a c
    refine lastIx_of h1 (by rw [h2, b]) fun j hj hl ek => ?_
    obtain ⟨m, m1, m2, m3, m4⟩ := liveL_all hl
    rw [m4] at ek
    have hj' : nOf (L.take i) < j := hj
    have := I.last i m (nOf_lt_of (L := L) (by omega)) m1 (by rw [b, ek])
    rw [c] at this
    cases this
theorem liveL_liveL (L : List Sl) : liveL (liveL L) = liveL L := by simp [liveL, List.filter_filter]
theorem getM_live {L : List Sl} (I : Inv L) (k : V) : getM (liveL L) k = getM L k := by
  unfold getM
  rw [lastIx_live I]
  cases e : thereM L k with
  | some i =>
    obtain ⟨a, b, c, d⟩ := there_some e
    rw [a]
    simp only [Option.map_some]
    rw [(liveL_at b d).2]
  | none =>
    cases e2 : lastIx L k with
    | none => rfl
    | some m =>
      obtain ⟨a, b, _⟩ := lastIx_some e2
      simp only [Option.map_none]
      exact (I.gone m a (there_none I e m a b)).symm
/-- Get behind Set. -/
theorem getM_ins_eq {L : List Sl} {k v : V} : getM (insM L k v) k = v := by
  unfold getM insM
  rw [lastIx_app_eq]
  simp only [slAt_app_eq]
theorem getM_app_ne {L : List Sl} {x : Sl} {k : V} (h : x.k ≠ k) : getM (L ++ [x]) k = getM L k := by
  unfold getM
  rw [lastIx_app_ne h]
  cases e : lastIx L k with
  | none => rfl
  | some i => simp only [slAt_app_lt (lastIx_some e).1]
theorem getM_ins_ne {L : List Sl} (I : Inv L) {k v k' : V} (h : k ≠ k') : getM (insM L k v) k' = getM L k' := by
  unfold insM
  rw [getM_app_ne h]
  split
  · exact getM_live I k'
  · rfl
theorem getM_set_ne {L : List Sl} {i : Nat} {x : Sl} (hi : i < L.length) (hx : x.k = (slAt L i).k) {k' : V} (h : (slAt L i).k ≠ k') : getM (L.set i x) k' = getM L k' := by
  unfold getM
  rw [lastIx_set hi hx]
  cases e : lastIx L k' with
  | none => rfl
  | some m =>
    have : i ≠ m := fun e2 => by subst e2; exact h (lastIx_some e).2.1
    simp only [slAt_set_ne this]
theorem getM_set_eq {L : List Sl} {i : Nat} {x : Sl} (hl : lastIx L (slAt L i).k = some i) (hi : i < L.length) (hx : x.k = (slAt L i).k) : getM (L.set i x) (slAt L i).k = x.v := by
  unfold getM
  rw [lastIx_set hi hx, hl]
  simp only [slAt_set_eq hi]
/-- A Set that is taken. -/
theorem setM_ok {L : List Sl} {k v : V} (hk : vok k = true ∧ k.k ≠ 0) (hv : vok v = true) : (setM L k v).1 = 0 := by
  unfold setM
  rw [if_neg (by rw [hk.1]; simp [hk.2]), if_neg (by rw [hv]; simp)]
  split <;> rfl
theorem setM_err {L : List Sl} {k v : V} (h : (setM L k v).1 ≠ 0) : (setM L k v).2 = L := by
  unfold setM at h ⊢
  split
  · rfl
  · split
    · rfl
    · rename_i h1 h2
      rw [if_neg h1, if_neg h2] at h
      split at h <;> exact absurd rfl h
theorem bytes_nil {s : ByteArray} (h : s.toList = []) : s = ⟨#[]⟩ := by
  rw [ByteArray.toList_eq] at h
  obtain ⟨⟨x⟩⟩ := s
  simpa using h
theorem zero_of_kind {v : V} (hv : vok v = true) (h : v.k = 0) : v = V.zero := by
  unfold vok at hv
  obtain ⟨k, p, q, s, r⟩ := v
  simp at h
  subst h
  simp at hv
  unfold V.zero
  obtain ⟨⟨⟨rfl, rfl⟩, hs⟩, rfl⟩ := hv
  rw [bytes_nil hs]
theorem getM_setM_eq {L : List Sl} (I : Inv L) {k v : V} (hk : vok k = true ∧ k.k ≠ 0) (hv : vok v = true) : getM (setM L k v).2 k = v := by
  unfold setM
  rw [if_neg (by rw [hk.1]; simp [hk.2]), if_neg (by rw [hv]; simp)]
  cases e : thereM L k with
  | some i =>
    obtain ⟨a, b, c, d⟩ := there_some e
    subst c
    simp only
    rw [getM_set_eq a b (by split <;> rfl)]
    split
    · rename_i h0
      exact (zero_of_kind hv h0).symm
    · rfl
  | none =>
    simp only
    split
    · rename_i h0
      rw [zero_of_kind hv h0]
      unfold getM
      cases e2 : lastIx L k with
      | none => rfl
      | some m =>
        obtain ⟨a, b, _⟩ := lastIx_some e2
        exact I.gone m a (there_none I e m a b)
    · exact getM_ins_eq
theorem getM_setM_ne {L : List Sl} (I : Inv L) {k v k' : V} (h : k ≠ k') : getM (setM L k v).2 k' = getM L k' := by
  unfold setM
  split
  · rfl
  · split
    · rfl
    · cases e : thereM L k with
      | some i =>
        obtain ⟨a, b, c, d⟩ := there_some e
        subst c
        exact getM_set_ne b (by split <;> rfl) h
      | none =>
        simp only
        split
        · rfl
        · exact getM_ins_ne I h
end Go.Proofs.Ytoelgnjnbelokaa
