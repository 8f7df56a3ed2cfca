/-
  What comes in besides: a slice of truth values, values that can be keys.
-/
import Derived.Test.YtabodabfiklbnaaSeq
namespace Go.Proofs.Ytabodabfiklbnaa
open Go.RowKit Go.Maps Go.ChangeShapes Go.WideShapes Go.ChangeAt

/-- A slice of truth values that reads as l. -/
def BoolRd (w : World) (A : Option Addr) (l : List Bool) : Prop := Rd w 1 A l.length (l.flatMap fun b => [.bool b])
def maskF (l : List Bool) (a : Nat) : Bool := l.getD a false
theorem cells_bool : Try.prog.cellsOf 4 = 1 := by kernel_rfl
theorem open_bools {H : Type} {enc : TypeId × Value → H} {W : World} {base : Nat} {v : Value} {d : DataW H} {p : List MemPlace} (hval : Value.okWide Try.prog W .any base 37 v) (h : DataW.Trod enc Try.prog W 0 (fun _ => true) true 37 v d p) :
    ∃ (A : Option Addr) (l : List Bool) (k : Nat), v = .slice A l.length k ∧ BoolRd W A l ∧ l.length ≤ k ∧ k ≤ maxLen :=
  open_rows 1 (fun b : Bool => [.bool b]) (fun _ => rfl) (by omega) Try.underlying37 cells_bool (fun _ _ _ h => by
    obtain ⟨b, k0, _⟩ := DataW.trod_bool Try.underlying4 h
    exact ⟨b, k0⟩) hval h
theorem mask_at {w : World} {A : Option Addr} {l : List Bool} (h : BoolRd w A l) {j : Nat} (hj : j < l.length) : ∃ b o, A = some ⟨b, o, none⟩ ∧ b < w.heap.size ∧ w.cell? ⟨b, o + j, none⟩ = some (.bool (maskF l j)) := by
  obtain ⟨b, o, e, hb, hc⟩ := h.2 (by omega)
  refine ⟨b, o, e, hb, ?_⟩
  rw [hc j (by omega)]
  have := flat_at (fun b : Bool => [Value.bool b]) 1 (fun _ => rfl) l j 0 (by omega)
  rw [Nat.mul_one, Nat.add_zero] at this
  rw [this]
  unfold maskF
  rw [List.getD_eq_getElem?_getD, List.getElem?_eq_getElem hj]
  rfl
theorem mask_out {l : List Bool} {j : Nat} (hj : ¬ j < l.length) : maskF l j = false := by
  unfold maskF
  rw [List.getD_eq_getElem?_getD, List.getElem?_eq_none (by omega)]
  rfl
def WV : Type := { x : V // x.wf }
instance : Inhabited WV := ⟨⟨V.zero, zero_wf⟩⟩
/-- A slice of values that can be keys. -/
def ValsRd (w : World) (A : Option Addr) (l : List V) : Prop := Vs w A l ∧ ∀ x ∈ l, x.wf
theorem open_wvals {H : Type} {enc : TypeId × Value → H} {W : World} {base : Nat} {v : Value} {d : DataW H} {p : List MemPlace} (hval : Value.okWide Try.prog W .any base 41 v) (h : DataW.Trod enc Try.prog W 0 (fun _ => true) true 41 v d p) :
    ∃ (A : Option Addr) (l : List V) (k : Nat), v = .slice A l.length k ∧ ValsRd W A l ∧ l.length ≤ k ∧ k ≤ maxLen := by
  obtain ⟨A, l, k, e, h1, h2, h3⟩ := open_rows 5 (fun x : WV => x.1.cs) (fun _ => rfl) (by omega) Try.underlying41 cells_val (fun _ _ _ h => by
    obtain ⟨v, e, hw⟩ := trod_wf h
    exact ⟨⟨v, hw⟩, e⟩) hval h
  refine ⟨A, l.map (·.1), k, by rw [List.length_map]; exact e, ⟨?_, ?_⟩, by rw [List.length_map]; exact h2, h3⟩
  · unfold Vs
    rw [List.length_map, List.flatMap_map]
    exact h1
  · intro x hx
    obtain ⟨y, -, rfl⟩ := List.mem_map.1 hx
    exact y.2
theorem vAt_mem {l : List V} {j : Nat} (hj : j < l.length) : vAt l j ∈ l := by
  unfold vAt
  rw [List.getD_eq_getElem?_getD, List.getElem?_eq_getElem hj]
  exact List.getElem_mem hj
/-! ### Removing on the way -/
/-- The slots after the first j keys have been gone through, those that f names removed. -/
structure Rem (L L' : List Sl) (f : Nat → Bool) (j : Nat) : Prop where
  less : Less L L'
  same : ∀ i, (i < L.length → (slAt L i).g = false → ¬ (nOf (L.take i) < j ∧ f (nOf (L.take i)) = true)) → slAt L' i = slAt L i
  gone : ∀ i, i < L.length → (slAt L i).g = false → nOf (L.take i) < j → f (nOf (L.take i)) = true → (slAt L' i).g = true
theorem Rem.start (L : List Sl) (f : Nat → Bool) : Rem L L f 0 := ⟨Less.refl L, fun _ _ => rfl, fun _ _ _ h => absurd h (by omega)⟩
section
variable {L L' : List Sl} {f : Nat → Bool} {j i : Nat}
theorem Rem.ahead (h : Rem L L' f j) (hj : nthLive L j i) : ∀ m, i ≤ m → slAt L' m = slAt L m := fun m hm => h.same m fun _ _ e => by
  have := nOf_take_mono (L := L) hm
  have := hj.2.2
  omega
theorem Rem.skip (h : Rem L L' f j) (hf : f j = false) : Rem L L' f (j + 1) := by
  refine ⟨h.less, fun i hi => h.same i fun h1 h2 h3 => hi h1 h2 ⟨by omega, h3.2⟩, fun i h1 h2 h3 h4 => ?_⟩
  by_cases e : nOf (L.take i) = j
  · rw [e, hf] at h4; cases h4
  · exact h.gone i h1 h2 (by omega) h4
theorem nth_unique {i' : Nat} (h : nthLive L j i) (h' : nthLive L j i') : i = i' := by
  obtain ⟨h1, h2, h3⟩ := h
  obtain ⟨h4, h5, h6⟩ := h'
  have e1 := nOf_take_succ (L := L) h1
  have e2 := nOf_take_succ (L := L) h4
  rw [h2] at e1
  rw [h5] at e2
  simp at e1 e2
  rcases Nat.lt_trichotomy i i' with hlt | rfl | hlt
  · have := nOf_take_mono (L := L) (i := i + 1) (j := i') hlt
    omega
  · rfl
  · have := nOf_take_mono (L := L) (i := i' + 1) (j := i) hlt
    omega
theorem Rem.drop (I : Inv L) (h : Rem L L' f j) (hj : nthLive L j i) (hf : f j = true) : setM L' (slAt L i).k V.zero = (0, L'.set i ⟨(slAt L i).k, V.zero, true⟩) ∧ Rem L (L'.set i ⟨(slAt L i).k, V.zero, true⟩) f (j + 1) := by
  have hi : i < L'.length := by rw [h.less.len]; exact hj.1
  have he : slAt L' i = slAt L i := h.ahead hj i (Nat.le_refl _)
  have ht : thereM L' (slAt L i).k = some i := by
    unfold thereM
    rw [h.less.last, (there_of I hj.1 hj.2.1).1]
    simp only [he, hj.2.1]
    rfl
  refine ⟨?_, h.less.set hi (by rw [he]), fun m hm => ?_, fun m h1 h2 h3 h4 => ?_⟩
  · rw [setM_there (I.key i hj.1) (by decide +kernel) ht]
    rfl
  · by_cases e : i = m
    · subst e
      exact absurd ⟨by rw [hj.2.2]; omega, by rw [hj.2.2]; exact hf⟩ (hm hj.1 hj.2.1)
    · rw [slAt_set_ne e]
      exact h.same m fun h1 h2 h3 => hm h1 h2 ⟨by omega, h3.2⟩
  · by_cases e : i = m
    · subst e
      rw [slAt_set_eq hi]
    · rw [slAt_set_ne e]
      refine h.gone m h1 h2 ?_ h4
      by_cases e2 : nOf (L.take m) = j
      · exact absurd (nth_unique hj ⟨h1, h2, e2⟩) e
      · omega
/-- What is found in the end. -/
theorem Rem.get (I : Inv L) (I' : Inv L') (h : Rem L L' f (nOf L)) (hj : nthLive L j i) {y : V} (hy : getM L' (slAt L i).k = y) : (y.k == 0) = f j := by
  have hl : lastIx L' (slAt L i).k = some i := by rw [h.less.last, (there_of I hj.1 hj.2.1).1]
  have hi : i < L'.length := by rw [h.less.len]; exact hj.1
  rw [getM_some hl] at hy
  subst hy
  cases hf : f j with
  | true =>
    have hg := h.gone i hj.1 hj.2.1 (by rw [hj.2.2]; exact nth_lt hj) (by rw [hj.2.2]; exact hf)
    rw [I'.gone i hi hg]
    rfl
  | false =>
    rw [h.same i fun _ _ e => by rw [hj.2.2, hf] at e; cases e.2]
    simpa using (I.val i hj.1 hj.2.1).2
end
section
variable {w w' : World} {S : Nat → Prop} {N o r M : Nat} {L : List Sl}
theorem One.chg {T : Nat → Prop} (h : One w S N o M L) (hc : Chg T w w') (hT : ∀ k, S k ∨ N ≤ k → ¬ T k) : One w' S N o M L := by
  obtain ⟨vs, bm, n, D, h1, h2, h3⟩ := h
  exact ⟨vs, bm, n, D, h1.chg hc fun k hk => hT k (h2 k hk), h2, h3⟩
end
end Go.Proofs.Ytabodabfiklbnaa
