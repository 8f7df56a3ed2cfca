/-
  Set of a table as one relation, and the walk's answer.
-/
import Derived.Test.YtoelgnjnbelokaaWTSet2
namespace Go.Proofs.Ytoelgnjnbelokaa
open Go.RowKit Go.Maps

inductive SetR (a : List V) (m : List Sl) (k v : V) : Int → List V → List Sl → Prop
  | badKey (h : k.k = 0 ∨ vok k = false) : SetR a m k v 13 a m
  | badVal (h : ¬ (k.k = 0 ∨ vok k = false)) (hv : vok v = false) : SetR a m k v 2 a m
  | here (i : Nat) (hi : i < a.length) (hk : k = kI ((i : Int) + 1)) (hv : vok v = true) : SetR a m k v 0 (if i + 1 = a.length then shrinkA (a.set i v) else a.set i v) m
  | add (hk : k = kI ((a.length : Int) + 1)) (hv : vok v = true) (hv0 : v.k ≠ 0) {a' : List V} {m' : List Sl} (h : AddR m a v a' m') : SetR a m k v 0 a' m'
  | map (hk : ¬ (k.k = 0 ∨ vok k = false)) (hv : vok v = true) (hin : inN a.length k = false) (hnx : ¬ (k = kI ((a.length : Int) + 1) ∧ v.k ≠ 0)) {e : Int} {m' : List Sl} (h : setM m k v = (e, m')) : SetR a m k v e a m'
section
variable {w w' : World} {S : Nat → Prop} {N o M : Nat} {a : List V} {m : List Sl}
theorem t_set (h : Tab w S N o M a m) (hN : N ≤ w.heap.size) (hb : a.length + m.length ≤ 900) (hm3 : m.length ≤ 300) (hM : M ≤ 100000000) {k v : V} (hk : k.wf) :
    Calls Try.prog 14 #[.pointer (some ⟨o, 0, none⟩), (.agg #[.int .i64 k.k, .int .i64 k.p, .int .i64 k.q, .string k.s, .int .i64 k.r]), (.agg #[.int .i64 v.k, .int .i64 v.p, .int .i64 v.q, .string v.s, .int .i64 v.r])] w fun e w' => ∃ x a' m', e = .returned (.int .i64 x) ∧ SetR a m k v x a' m' ∧ Tab w' S N o (M + 400000) a' m' ∧ Chg (fun k => S k ∨ N ≤ k) w w' := by
  by_cases hk0 : k.k = 0 ∨ vok k = false
  · refine (t_set_bad w o k v (.inl ⟨hk0, rfl⟩)).mono ?_
    rintro e w1 ⟨rfl, hc⟩
    exact ⟨13, a, m, rfl, .badKey hk0, (h.none_ hc).mono (by omega), hc.mono fun _ _ e => e.elim⟩
  · by_cases hv : vok v = true
    · have hkv : vok k = true := by cases e : vok k with | true => rfl | false => exact absurd (.inr e) hk0
      cases hin : inN a.length k with
      | true =>
        obtain ⟨i', h1, h2, h3, -⟩ := inN_get hin
        obtain ⟨i, rfl⟩ : ∃ i, i' = i + 1 := ⟨i' - 1, by omega⟩
        refine (t_set_in h (by omega) (i := i) (by omega) (k := k) (v := v) (by rw [h3]; unfold kI; simp) hv).mono ?_
        rintro e w1 ⟨rfl, hT, hc⟩
        exact ⟨0, _, m, rfl, .here i (by omega) (by rw [h3]; simp) hv, hT.mono (by omega), hc⟩
      | false =>
        by_cases hnx : k = kI ((a.length : Int) + 1) ∧ v.k ≠ 0
        · refine (t_set_add h hN hb hm3 (k := k) (v := v) (by rw [hnx.1]; rfl) hv hnx.2).mono ?_
          rintro e w1 ⟨rfl, ⟨a', m', hA, hT⟩, hc⟩
          exact ⟨0, a', m', rfl, .add hnx.1 hv hnx.2 hA, hT, hc⟩
        · obtain ⟨e1, m1, hp⟩ : ∃ e1 m1, setM m k v = (e1, m1) := ⟨_, _, rfl⟩
          refine (t_set_map h hN (by omega) (by omega) hM hk hk0 hv hin (fun ⟨x1, x2, x3⟩ => hnx ⟨by have := (isI_eq x1).1; rw [x2] at this; exact this, x3⟩) hp).mono ?_
          rintro e w1 ⟨rfl, hT, hc⟩
          exact ⟨e1, a, m1, rfl, .map hk0 hv hin hnx hp, hT.mono (by omega), hc⟩
    · have hv' : vok v = false := by simpa using hv
      refine (t_set_bad w o k v (.inr ⟨hk0, hv', rfl⟩)).mono ?_
      rintro e w1 ⟨rfl, hc⟩
      exact ⟨2, a, m, rfl, .badVal hk0 hv', (h.none_ hc).mono (by omega), hc.mono fun _ _ e => e.elim⟩
end
end Go.Proofs.Ytoelgnjnbelokaa
