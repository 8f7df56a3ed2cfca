/-
  The plain model of the values that are to be closed: entries with rising registers, and the error in flight; no program in sight.
-/
import Derived.Test.YtpfopidmdnkkeaaVld
namespace Go.Proofs.Ytpfopidmdnkkeaa

structure En where
  r : Int
  v : V
deriving DecidableEq
def En.cs (e : En) : List Value := [.int .i64 e.r, .int .i64 e.v.k, .int .i64 e.v.p, .int .i64 e.v.q, .string e.v.s, .int .i64 e.v.r]
theorem En.cs_len (e : En) : e.cs.length = 6 := rfl
structure Pl where
  n : ByteArray
  l : Int
  t : Bool
deriving DecidableEq
def Pl.cs (p : Pl) : List Value := [.string p.n, .int .i64 p.l, .bool p.t]
theorem Pl.cs_len (p : Pl) : p.cs.length = 3 := rfl
structure Fl where
  v : V
  tr : List Pl
deriving DecidableEq
def Fl.zero : Fl := ⟨V.zero, []⟩
def En.zero : En := ⟨0, V.zero⟩
def enAt (es : List En) (i : Nat) : En := es.getD i En.zero
theorem enAt_get (es : List En) (i : Nat) (h : i < es.length) : es[i]? = some (enAt es i) := by
  unfold enAt; rw [List.getD_eq_getElem?_getD, List.getElem?_eq_getElem h]; rfl
def trueV (v : V) : Bool := decide (v.k ≠ 0) && !(decide (v.k = 1) && decide (v.r = 0))

/-- Registers rise and are in range. -/
structure Up (es : List En) : Prop where
  inc : ∀ i j, i < j → j < es.length → (enAt es i).r < (enAt es j).r
  lo : ∀ i, i < es.length → 0 ≤ (enAt es i).r ∧ (enAt es i).r ≤ 2147483647

def lastE (es : List En) : En := enAt es (es.length - 1)
/-- What Push returns: the error, the entries behind it. -/
def push (es : List En) (r : Int) (v : V) : Int × List En :=
  if r < 0 ∨ 2147483647 < r ∨ vok v = false then (2, es) else
  if trueV v = false then (0, es) else
  if 0 < es.length ∧ r ≤ (lastE es).r then (16, es) else (0, es ++ [⟨r, v⟩])
/-- What Pop returns: the value, whether there is one, the entries behind it. -/
def pop (es : List En) (r : Int) : V × Bool × List En :=
  if es.length = 0 ∨ (lastE es).r < r then (V.zero, false, es) else ((lastE es).v, true, es.take (es.length - 1))
def valsOf (es : List En) : List V := es.map (·.v)
def failV (f : Option Fl) : V := (f.getD Fl.zero).v

theorem enAt_app_lt {es fs : List En} {i : Nat} (h : i < es.length) : enAt (es ++ fs) i = enAt es i := by
  unfold enAt; rw [List.getD_eq_getElem?_getD, List.getD_eq_getElem?_getD, List.getElem?_append_left h]
theorem enAt_app_eq {es : List En} {e : En} : enAt (es ++ [e]) es.length = e := by unfold enAt; simp
theorem enAt_take {es : List En} {i n : Nat} (h : i < n) : enAt (es.take n) i = enAt es i := by
  unfold enAt; rw [List.getD_eq_getElem?_getD, List.getD_eq_getElem?_getD, List.getElem?_take_of_lt h]
theorem Up.nil : Up [] := ⟨fun i j _ h => absurd h (by simp), fun i h => absurd h (by simp)⟩
theorem Up.app {es : List En} (U : Up es) {r : Int} {v : V} (h0 : 0 ≤ r) (h1 : r ≤ 2147483647) (h : ¬ (0 < es.length ∧ r ≤ (lastE es).r)) : Up (es ++ [⟨r, v⟩]) := by
  have hl : ∀ i, i < es.length → (enAt es i).r < r := fun i hi => by
    have hlast : (lastE es).r < r := by
      rcases Int.lt_or_le (lastE es).r r with h' | h'
      · exact h'
      · exact absurd ⟨by omega, h'⟩ h
    by_cases e : i = es.length - 1
    · subst e; exact hlast
    · exact Int.lt_trans (U.inc i (es.length - 1) (by omega) (by omega)) hlast
  constructor
  · intro i j hij hj
    rw [List.length_append, List.length_singleton] at hj
    by_cases hj' : j < es.length
    · rw [enAt_app_lt hj', enAt_app_lt (by omega)]
      exact U.inc i j hij hj'
    · obtain rfl : j = es.length := by omega
      rw [enAt_app_eq, enAt_app_lt hij]
      exact hl i hij
  · intro i hi
    rw [List.length_append, List.length_singleton] at hi
    by_cases hi' : i < es.length
    · rw [enAt_app_lt hi']; exact U.lo i hi'
    · obtain rfl : i = es.length := by omega
      rw [enAt_app_eq]
      exact ⟨h0, h1⟩
theorem Up.take {es : List En} (U : Up es) (n : Nat) : Up (es.take n) := by
  constructor
  · intro i j hij hj
    rw [List.length_take] at hj
    rw [enAt_take (by omega), enAt_take (by omega)]
    exact U.inc i j hij (by omega)
  · intro i hi
    rw [List.length_take] at hi
    rw [enAt_take (by omega)]
    exact U.lo i (by omega)
theorem Up.push {es : List En} (U : Up es) (r : Int) (v : V) : Up (push es r v).2 := by
  unfold Ytpfopidmdnkkeaa.push
  split
  · exact U
  · split
    · exact U
    · split
      · exact U
      · exact U.app (by omega) (by omega) ‹_›
theorem Up.pop {es : List En} (U : Up es) (r : Int) : Up (pop es r).2.2 := by
  unfold Ytpfopidmdnkkeaa.pop
  split
  · exact U
  · exact U.take _
theorem push_len (es : List En) (r : Int) (v : V) : (push es r v).2.length ≤ es.length + 1 := by
  unfold push
  split
  · simp
  · split
    · simp
    · split <;> simp
theorem pop_len (es : List En) (r : Int) : (pop es r).2.2.length ≤ es.length := by
  unfold pop
  split
  · exact Nat.le_refl _
  · simp

/-! ### The plain laws -/
/-- While the last register is at least reg, popping returns the last value. -/
theorem pop_yes {es : List En} {r : Int} {n : Nat} (hn : es.length = n + 1) (h : r ≤ (enAt es n).r) : pop es r = ((enAt es n).v, true, es.take n) := by
  unfold pop lastE
  rw [hn, Nat.add_sub_cancel, if_neg (by omega)]
theorem pop_no {es : List En} {r : Int} (h : es.length = 0 ∨ (lastE es).r < r) : pop es r = (V.zero, false, es) := by
  unfold pop
  rw [if_pos h]
theorem vals_at {es : List En} {i : Nat} (h : i < es.length) : vAt (valsOf es) i = (enAt es i).v := by
  unfold vAt valsOf enAt
  rw [List.getD_eq_getElem?_getD, List.getD_eq_getElem?_getD, List.getElem?_map, List.getElem?_eq_getElem h]
  rfl
theorem vals_len (es : List En) : (valsOf es).length = es.length := by simp [valsOf]
theorem vals_take (es : List En) (n : Nat) : valsOf (es.take n) = (valsOf es).take n := by simp [valsOf, List.map_take]
/-- Pushed and popped again: nothing has changed. -/
theorem pop_push {es : List En} {r : Int} {v : V} : pop (es ++ [⟨r, v⟩]) r = (v, true, es) := by
  rw [pop_yes (n := es.length) (by simp) (by rw [enAt_app_eq]; exact Int.le_refl _), enAt_app_eq]
  simp
end Go.Proofs.Ytpfopidmdnkkeaa
