/-
  A table of integer keys that hold themselves: how many, which length, in which order.
-/
import Derived.Test.YtoelgnjnbelokaaTBord
namespace Go.Proofs.Ytoelgnjnbelokaa

section
variable {a : List V} {m : List Sl}
theorem liveL_self (h : ∀ x ∈ m, x.g = false) : liveL m = m := by
  unfold liveL
  rw [List.filter_eq_self]
  intro s hs
  rw [h s hs]
  rfl
theorem SetR.live {k v : V} {e : Int} {a' : List V} {m' : List Sl} (h : SetR a m k v e a' m') (hl : ∀ x ∈ m, x.g = false) (hv0 : v.k ≠ 0) : ∀ x ∈ m', x.g = false := by
  have hk : ∀ n : Nat, ∀ x ∈ keepM n m, x.g = false := fun n x hx => by
    unfold keepM at hx
    rw [liveL_self hl] at hx
    exact hl x (List.mem_filter.1 hx).1
  cases h with
  | badKey h => exact hl
  | badVal h hv => exact hl
  | here i hi hk hv => exact hl
  | add hk' hv hv0' h =>
    rcases h.map with ⟨rfl, -⟩ | rfl
    · exact hl
    · exact hk _
  | map hk' hv hin hnx h =>
    unfold setM at h
    rw [if_neg hk', if_neg (by rw [hv]; simp)] at h
    cases ht : thereM m k with
    | some i =>
      rw [ht] at h
      simp only at h
      rw [if_neg hv0] at h
      injection h with h1 h2
      subst h2
      intro x hx
      rcases List.mem_or_eq_of_mem_set hx with hx | hx
      · exact hl x hx
      · rw [hx]
    | none =>
      rw [ht] at h
      simp only at h
      rw [if_neg hv0] at h
      injection h with h1 h2
      subst h2
      intro x hx
      unfold insM at hx
      rcases List.mem_append.1 hx with hx | hx
      · split at hx
        · rw [liveL_self hl] at hx; exact hl x hx
        · exact hl x hx
      · rw [List.mem_singleton.1 hx]
/-- What holds between two Sets. -/
structure FillI (a : List V) (m : List Sl) (S : List Int) : Prop where
  inv : TInv a m
  full : ∀ i, i < a.length → (vAt a i).k ≠ 0
  live : ∀ x ∈ m, x.g = false
  get : ∀ k, vok k = true → getT a m k = if k ∈ S.map kI then k else V.zero
  nd : S.Nodup
  rng : ∀ s ∈ S, 1 ≤ s ∧ s ≤ 256
theorem FillI.start : FillI [] [] [] := ⟨TInv.nil, fun i hi => by simp at hi, fun x hx => by simp at hx, fun k hk => by
  unfold getT
  split
  · rfl
  · split
    · rename_i h
      obtain ⟨i, h1, h2, -, -⟩ := inN_get h
      simp at h2
      omega
    · rfl, List.nodup_nil, fun s hs => by simp at hs⟩
theorem memk {S : List Int} {s : Int} : kI s ∈ S.map kI ↔ s ∈ S := by
  constructor
  · intro h
    obtain ⟨t, h1, h2⟩ := List.mem_map.1 h
    rw [← kI_inj h2]
    exact h1
  · exact fun h => List.mem_map.2 ⟨s, h, rfl⟩
theorem FillI.in_of {S : List Int} (F : FillI a m S) {k : V} (hk : vok k = true) (h : (getT a m k).k ≠ 0) : k ∈ S.map kI := by
  rw [F.get k hk] at h
  split at h
  · assumption
  · exact absurd rfl h
theorem FillI.of_in {S : List Int} (F : FillI a m S) {s : Int} (hs : s ∈ S) : getT a m (kI s) = kI s := by
  have := F.rng s hs
  rw [F.get _ (isI_kI (by omega) (by omega)).2, if_pos (memk.2 hs)]
theorem FillI.count {S : List Int} (F : FillI a m S) (hb : a.length ≤ 1000000) : a.length + nOf m = S.length := by
  have I2 := F.inv.inv.liveL
  have hlm := liveL_self F.live
  rw [hlm] at I2
  have hn : nOf m = m.length := by unfold nOf; rw [hlm]
  have hnd1 : ((List.range a.length).map (fun t : Nat => kI ((t : Int) + 1)) ++ m.map fun s => s.k).Nodup := by
    rw [List.nodup_append]
    refine ⟨?_, ?_, ?_⟩
    · rw [List.nodup_iff_pairwise_ne, List.pairwise_map]
      refine List.Pairwise.imp ?_ (List.nodup_range (n := a.length))
      intro x y hxy e
      have := kI_inj e
      omega
    · rw [List.nodup_iff_pairwise_ne, List.pairwise_map, List.pairwise_iff_getElem]
      intro i j hi hj hij e
      have h1 : slAt m i = m[i] := by unfold slAt; rw [List.getD_eq_getElem?_getD, List.getElem?_eq_getElem hi]; rfl
      have h2 : slAt m j = m[j] := by unfold slAt; rw [List.getD_eq_getElem?_getD, List.getElem?_eq_getElem hj]; rfl
      have h3 := I2.last i j hij hj (by rw [h1, h2]; exact e)
      rw [h1, F.live _ (List.getElem_mem hi)] at h3
      cases h3
    · intro x hx y hy e
      subst e
      obtain ⟨t, ht, rfl⟩ := List.mem_map.1 hx
      obtain ⟨s, hs, hsk⟩ := List.mem_map.1 hy
      rw [List.mem_range] at ht
      have h1 := F.inv.free (t + 1) (by omega) (by omega)
      obtain ⟨i, hi, he⟩ := List.getElem_of_mem hs
      have h2 : slAt m i = s := by unfold slAt; rw [List.getD_eq_getElem?_getD, List.getElem?_eq_getElem hi, he]; rfl
      have h3 := (lastIx_none h1) i hi
      rw [h2] at h3
      exact h3 (by rw [hsk]; congr 1)
  have hnd2 : (S.map kI).Nodup := by
    rw [List.nodup_iff_pairwise_ne, List.pairwise_map]
    exact List.Pairwise.imp (fun h e => h (kI_inj e)) (List.nodup_iff_pairwise_ne.1 F.nd)
  have h12 := nodup_len _ (S.map kI) hnd1 (fun x hx => by
    rcases List.mem_append.1 hx with hx | hx
    · obtain ⟨t, ht, rfl⟩ := List.mem_map.1 hx
      rw [List.mem_range] at ht
      refine F.in_of (isI_kI (by omega) (by omega)).2 ?_
      have := getT_kI (a := a) (m := m) (i := t + 1) (by omega) (by omega) hb
      rw [show (((t + 1 : Nat)) : Int) = (t : Int) + 1 by omega] at this
      rw [this]
      exact F.full _ (by omega)
    · obtain ⟨s, hs, rfl⟩ := List.mem_map.1 hx
      obtain ⟨i, hi, he⟩ := List.getElem_of_mem hs
      have h2 : slAt m i = s := by unfold slAt; rw [List.getD_eq_getElem?_getD, List.getElem?_eq_getElem hi, he]; rfl
      have hk := I2.key i hi
      rw [h2] at hk
      refine F.in_of hk.1 ?_
      have hin : inN a.length s.k = false := by
        cases hx : inN a.length s.k with
        | false => rfl
        | true =>
          obtain ⟨t, h3, h4, h5, -⟩ := inN_get hx
          have h6 := (lastIx_none (F.inv.free t h3 h4)) i hi
          rw [h2] at h6
          exact absurd h5 h6
      rw [getT_no hk.1 hin]
      have hg := F.live s hs
      have hlv := live_get F.inv.inv (j := i) (by rw [hn]; exact hi)
      rw [hlm, h2] at hlv
      rw [hlv]
      have hv := I2.val i hi (by rw [h2]; exact hg)
      rw [h2] at hv
      exact hv.2)
  have h21 := nodup_len _ ((List.range a.length).map (fun t : Nat => kI ((t : Int) + 1)) ++ m.map fun s => s.k) hnd2 (fun x hx => by
    obtain ⟨s, hs, rfl⟩ := List.mem_map.1 hx
    have hr := F.rng s hs
    have hv := (isI_kI (n := s) (by omega) (by omega)).2
    have hg := F.of_in hs
    rw [List.mem_append]
    cases hin : inN a.length (kI s) with
    | true =>
      obtain ⟨t, h3, h4, h5, -⟩ := inN_get hin
      left
      refine List.mem_map.2 ⟨t - 1, List.mem_range.2 (by omega), ?_⟩
      rw [h5]
      congr 1
      omega
    | false =>
      right
      rw [getT_no hv hin] at hg
      obtain ⟨x, hx, hxk⟩ := getM_live_mem F.inv.inv (k := kI s) (by rw [hg]; unfold kI; simp)
      rw [hlm] at hx
      exact List.mem_map.2 ⟨x, hx, hxk⟩)
  simp only [List.length_append, List.length_map, List.length_range] at h12 h21
  omega
theorem FillI.step {S : List Int} (F : FillI a m S) (hb : S.length ≤ 300) {s : Int} (hs : 1 ≤ s ∧ s ≤ 256) {e : Int} {a' : List V} {m' : List Sl} (hal : a.length ≤ 1000000) (h : SetR a m (kI s) (kI s) e a' m') :
    e = 0 ∧ FillI a' m' (if s ∈ S then S else S ++ [s]) := by
  have hv := (isI_kI (n := s) (by omega) (by omega)).2
  have h0 : (kI s).k ≠ 0 := by unfold kI; simp
  have hbb : a.length + nOf m ≤ 1000 := by rw [F.count hal]; omega
  have he : e = 0 := by
    rcases h.err hal with ⟨h1, -⟩ | ⟨-, h1, -⟩ | ⟨-, -, h1⟩
    · rcases h1 with h1 | h1
      · exact absurd h1 h0
      · rw [hv] at h1; cases h1
    · rw [hv] at h1; cases h1
    · exact h1
  refine ⟨he, (h.law F.inv hal (h.bnd F.inv hbb)).1, h.full F.full h0, h.live F.live h0, fun k hk => ?_, ?_, fun t ht => ?_⟩
  · rw [h.get F.inv hbb, F.get k hk]
    by_cases hks : k = kI s
    · rw [if_pos ⟨he, hks⟩, if_pos, hks]
      rw [hks, memk]
      split
      · assumption
      · simp
    · rw [if_neg (fun x => hks x.2)]
      have : k ∈ (if s ∈ S then S else S ++ [s]).map kI ↔ k ∈ S.map kI := by
        split
        · exact Iff.rfl
        · rw [List.map_append, List.mem_append]
          simp [hks]
      by_cases hm : k ∈ S.map kI
      · rw [if_pos hm, if_pos (this.2 hm)]
      · rw [if_neg hm, if_neg (fun x => hm (this.1 x))]
  · split
    · exact F.nd
    · rename_i hn
      rw [List.nodup_append]
      refine ⟨F.nd, by simp, fun x hx y hy e => ?_⟩
      rw [List.mem_singleton] at hy
      exact hn (by rw [← hy, ← e]; exact hx)
  · split at ht
    · exact F.rng t ht
    · rcases List.mem_append.1 ht with ht | ht
      · exact F.rng t ht
      · rw [List.mem_singleton] at ht
        subst ht
        exact hs
/-- The keys 1, 2, .. that are there. -/
theorem FillI.low {S : List Int} (F : FillI a m S) (hb : a.length ≤ 1000000) {t : Nat} (ht : t < a.length) : ((t : Int) + 1) ∈ S := by
  refine memk.1 (F.in_of (isI_kI (by omega) (by omega)).2 ?_)
  have := getT_kI (a := a) (m := m) (i := t + 1) (by omega) (by omega) hb
  rw [show (((t + 1 : Nat)) : Int) = (t : Int) + 1 by omega] at this
  rw [this]
  exact F.full _ (by omega)
theorem FillI.stop {S : List Int} (F : FillI a m S) (hb : a.length ≤ 1000000) : ¬ ((a.length : Int) + 1) ∈ S := fun h => by
  have h1 := F.of_in h
  rw [border_next F.inv hb] at h1
  exact kI_ne_zero _ h1.symm
theorem FillI.cnt {S : List Int} (F : FillI a m S) (hb : a.length ≤ 1000000) : nOf m + cntV a = S.length := by
  have h1 : cntV a = a.length := by
    unfold cntV
    congr 1
    rw [List.filter_eq_self]
    intro x hx
    obtain ⟨i, hi, rfl⟩ := List.getElem_of_mem hx
    have h := F.full i hi
    unfold vAt at h
    rw [List.getD_eq_getElem?_getD, List.getElem?_eq_getElem hi] at h
    simpa using h
  have := F.count hb
  omega
theorem FillI.none {S : List Int} (F : FillI a m S) (hb : a.length ≤ 1000000) (h : a.length = S.length) : m.length = 0 := by
  have h1 := F.count hb
  have h2 : nOf m = m.length := by unfold nOf; rw [liveL_self F.live]
  omega
def prevT (j : Nat) : V := if j = 0 then V.zero else kI (j : Int)
theorem FillI.next {S : List Int} (F : FillI a m S) (hb : a.length ≤ 1000000) {j : Nat} (hj : j < a.length) : nextT a m (prevT j) = (kI ((j : Int) + 1), kI ((j : Int) + 1), true, 0) := by
  have hv : vAt a j = kI ((j : Int) + 1) := by
    have h1 := F.of_in (F.low hb hj)
    have := getT_kI (a := a) (m := m) (i := j + 1) (by omega) (by omega) hb
    rw [show (((j + 1 : Nat)) : Int) = (j : Int) + 1 by omega, h1] at this
    exact this.symm
  have hf : firstV a j = some j := firstV_of (Nat.le_refl _) hj (F.full j hj) fun i h1 h2 => by omega
  have ha : afterT a m j = (kI ((j : Int) + 1), kI ((j : Int) + 1), true, 0) := by
    unfold afterT
    rw [hf]
    simp only
    rw [hv]
  unfold nextT prevT
  by_cases h0 : j = 0
  · subst h0
    rw [if_pos rfl, if_pos rfl]
    exact ha
  · rw [if_neg h0, if_neg (kI_ne_zero _), if_pos (inN_kI (by omega) (by omega) (by omega))]
    have : (kI (j : Int)).p.toNat = j := by unfold kI; simp
    rw [this]
    exact ha
theorem prevT_wf (j : Nat) (h : j ≤ 1000) : (prevT j).wf := by
  unfold prevT
  split
  · exact zero_wf
  · exact kI_wf (by omega) (by omega)
end
end Go.Proofs.Ytoelgnjnbelokaa
