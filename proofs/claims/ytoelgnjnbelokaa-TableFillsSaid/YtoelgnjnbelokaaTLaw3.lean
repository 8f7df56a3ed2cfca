/-
  How a table grows: at most one value more a Set.
-/
import Derived.Test.YtoelgnjnbelokaaTLaw2
namespace Go.Proofs.Ytoelgnjnbelokaa

theorem nodup_len {α : Type} [DecidableEq α] : ∀ (l l' : List α), l.Nodup → (∀ x ∈ l, x ∈ l') → l.length ≤ l'.length
  | [], _, _, _ => Nat.zero_le _
  | x :: t, l', hn, hs => by
    have h1 := List.nodup_cons.1 hn
    have h2 := nodup_len t (l'.erase x) h1.2 (fun y hy => (List.mem_erase_of_ne (fun e => h1.1 (by rw [← e]; exact hy))).2 (hs y (List.mem_cons_of_mem _ hy)))
    have h3 := hs x (List.mem_cons_self ..)
    rw [List.length_erase_of_mem h3] at h2
    have := List.length_pos_of_mem h3
    rw [List.length_cons]
    omega
theorem filter_parts {α : Type} (p : α → Bool) (l : List α) : (l.filter p).length + (l.filter fun x => !p x).length = l.length := by
  induction l with
  | nil => rfl
  | cons x l ih =>
    rw [List.filter_cons, List.filter_cons]
    cases p x
    · simp only [Bool.not_false, if_true, Bool.false_eq_true, if_false, List.length_cons]
      omega
    · simp only [Bool.not_true, if_true, Bool.false_eq_true, if_false, List.length_cons]
      omega
section
variable {a : List V} {m : List Sl}
theorem getM_live_mem (I : Inv m) {k : V} (h : (getM m k).k ≠ 0) : ∃ s ∈ liveL m, s.k = k := by
  obtain ⟨i, h1, h2, h3⟩ := getM_nz h
  refine ⟨slAt m i, ?_, h3⟩
  have hg : (slAt m i).g = false := by
    cases e : (slAt m i).g with
    | false => rfl
    | true =>
      exfalso
      apply h
      unfold getM
      rw [h1]
      simp only
      rw [I.gone i h2 e]
      rfl
  unfold liveL
  exact List.mem_filter.2 ⟨List.mem_of_getElem? (slAt_get _ _ h2), by rw [hg]; rfl⟩
theorem add_bound (I : Inv m) {v : V} {a' : List V} {m' : List Sl} (h : AddR m a v a' m') (hb : a.length ≤ 1000000) : a'.length ≤ 2147483647 := by
  refine Classical.byContradiction fun h0 => ?_
  obtain ⟨h3, h4⟩ := h.add.mov 2147483647 (by omega) (by omega)
  rw [h3] at h4
  obtain ⟨i, -, h2, h5⟩ := getM_nz h4
  have h6 := (I.key i h2).1
  rw [h5] at h6
  have h7 : isI (kI (((2147483647 : Nat) : Int) + 1)) = true := by unfold isI; rw [h6]; simp [kI]
  have h8 := (isI_eq h7).2.2
  unfold kI at h8
  simp only at h8
  omega
theorem add_len (I : Inv m) {v : V} {a' : List V} {m' : List Sl} (h : AddR m a v a' m') (hb : a.length ≤ 1000000) : a'.length + nOf m' ≤ a.length + nOf m + 1 ∧ m'.length ≤ m.length := by
  have hb' := add_bound I h hb
  obtain ⟨hl, -, hmov, -⟩ := h.add
  rcases h.map with ⟨rfl, h2⟩ | rfl
  · refine ⟨?_, Nat.le_refl _⟩
    by_cases e : a'.length = a.length + 1
    · omega
    · exfalso
      obtain ⟨h3, h4⟩ := hmov (a.length + 1) (by omega) (by omega)
      rw [h3] at h4
      have h5 := h2 (a.length + 2) (by omega) (by omega)
      rw [show (((a.length + 2 : Nat)) : Int) = ((a.length + 1 : Nat) : Int) + 1 by omega] at h5
      rw [getM_none' h5] at h4
      exact h4 rfl
  · have hk : nOf (keepM a'.length m) = (keepM a'.length m).length := by
      rw [← keepJ_all]
      unfold nOf
      rw [keep_live]
    have hp := filter_parts (fun s : Sl => inN a'.length s.k) (liveL m)
    have hkl : (keepM a'.length m).length = ((liveL m).filter fun s => !inN a'.length s.k).length := rfl
    have hsub := nodup_len ((List.range (a'.length - (a.length + 1))).map fun t : Nat => kI ((a.length : Int) + 2 + (t : Int))) (((liveL m).filter fun s => inN a'.length s.k).map fun s => s.k) (by
      rw [List.nodup_iff_pairwise_ne, List.pairwise_map]
      refine List.Pairwise.imp ?_ (List.nodup_range (n := a'.length - (a.length + 1)))
      intro x y hxy e
      have := kI_inj e
      omega) (fun x hx => by
      obtain ⟨t, ht, rfl⟩ := List.mem_map.1 hx
      rw [List.mem_range] at ht
      obtain ⟨h3, h4⟩ := hmov (a.length + 1 + t) (by omega) (by omega)
      rw [h3, show (((a.length + 1 + t : Nat)) : Int) + 1 = (a.length : Int) + 2 + (t : Int) by omega] at h4
      obtain ⟨s, hs, hsk⟩ := getM_live_mem I h4
      refine List.mem_map.2 ⟨s, List.mem_filter.2 ⟨hs, ?_⟩, hsk⟩
      rw [hsk, show (a.length : Int) + 2 + (t : Int) = ((a.length + 2 + t : Nat) : Int) by omega]
      exact inN_kI (by omega) (by omega) (by omega))
    rw [List.length_map, List.length_range, List.length_map] at hsub
    have hle : nOf m ≤ m.length := List.length_filter_le _ _
    have hnm : nOf m = (liveL m).length := rfl
    refine ⟨?_, ?_⟩ <;> omega
end
end Go.Proofs.Ytoelgnjnbelokaa
