/-
  The calls on the program's map, as the laws use them; the chapter's small case.
-/
import Derived.Test.YtoelgnjnbelokaaWSet3
namespace Go.Proofs.Ytoelgnjnbelokaa
open Go.RowKit Go.Maps

/-- The program's map in blocks of S or from N on. -/
def One (w : World) (S : Nat → Prop) (N o M : Nat) (L : List Sl) : Prop := ∃ vs bm n D, OwnM w o vs bm n D L ∧ (∀ k, ownF o vs bm k → S k ∨ N ≤ k) ∧ n ≤ M
section
variable {w w' w1 : World} {S : Nat → Prop} {N o M : Nat} {L : List Sl}
theorem One.none_ (h : One w S N o M L) (hc : Chg (fun _ => False) w w') : One w' S N o M L := by
  obtain ⟨vs, bm, n, D, h1, h2, h3⟩ := h
  exact ⟨vs, bm, n, D, h1.none_ hc, h2, h3⟩
theorem One.mono {M' : Nat} (h : One w S N o M L) (hM : M ≤ M') : One w S N o M' L := by
  obtain ⟨vs, bm, n, D, h1, h2, h3⟩ := h
  exact ⟨vs, bm, n, D, h1, h2, Nat.le_trans h3 hM⟩
theorem One.inv (h : One w S N o M L) : Inv L := by
  obtain ⟨vs, bm, n, D, h1, h2, h3⟩ := h
  exact h1.inv
theorem One.weaken {S' : Nat → Prop} {N' : Nat} (h : One w S' N' o M L) (hS : ∀ k, S' k → S k ∨ N ≤ k) (hN : N ≤ N') : One w S N o M L := by
  obtain ⟨vs, bm, n, D, h1, h2, h3⟩ := h
  exact ⟨vs, bm, n, D, h1, fun k hk => (h2 k hk).elim (hS k) fun h => .inr (by omega), h3⟩
theorem One.fix (h : One w S N o M L) : ∃ S', (∀ k, S' k → k < w.heap.size ∧ (S k ∨ N ≤ k)) ∧ ∀ w2 N2, Chg (fun _ => False) w w2 → One w2 S' N2 o M L := by
  obtain ⟨vs, bm, n, D, h1, h2, h3⟩ := h
  exact ⟨ownF o vs bm, fun k hk => ⟨h1.lt hk, h2 k hk⟩, fun w2 N2 hc => ⟨vs, bm, n, D, h1.none_ hc, fun k hk => .inl hk, h3⟩⟩
theorem chg_new (h : Chg (fun _ => False) w w1) (hc : Chg (fun k => S k ∨ N ≤ k) w1 w') (hS : ∀ k, S k → w.heap.size ≤ k) (hN : w.heap.size ≤ N) : Chg (fun _ => False) w w' :=
  h.trans hc fun k hk e => by
    rcases e with e | e
    · have := hS k e; omega
    · omega
theorem Bk.oneChg {g : Nat} {t : TypeId} {cs : List Value} (h : Bk w g t cs) (hc : Chg (fun k => S k ∨ N ≤ k) w w') (hg : ¬ S g) (hN : g < N) : Bk w' g t cs := h.chg hc fun e => e.elim hg fun e => by omega
theorem none_below {w w' : World} (h : Chg (fun _ => False) w w') : Below w.heap.size w w' := h.below (Nat.le_refl _) fun _ _ h => h
theorem o_new (w : World) : Calls Try.prog 38 #[] w fun e w' => ∃ o, e = .returned (.pointer (some ⟨o, 0, none⟩)) ∧ One w' (fun _ => False) w.heap.size o 0 [] ∧ Chg (fun _ => False) w w' :=
  (own_new w).mono fun e w' ⟨o, h1, h2, h3, h4⟩ => ⟨o, h1, ⟨_, _, _, _, h2, fun k hk => .inr (by
    rcases hk with hk | hk | hk
    · omega
    · simp [Value.ownBlock] at hk
    · omega), Nat.le_refl _⟩, h4⟩
theorem o_get (h : One w S N o M L) {k : V} (hk : k.wf) {x : V} (hx : getM L k = x) : Calls Try.prog 30 #[.pointer (some ⟨o, 0, none⟩), (.agg #[.int .i64 k.k, .int .i64 k.p, .int .i64 k.q, .string k.s, .int .i64 k.r])] w fun e w' => e = .returned (.agg #[.int .i64 x.k, .int .i64 x.p, .int .i64 x.q, .string x.s, .int .i64 x.r]) ∧ Chg (fun _ => False) w w' := by
  obtain ⟨vs, bm, n, D, h1, h2, h3⟩ := h
  exact own_get h1 hk hx
theorem o_len (h : One w S N o M L) {m : Nat} (hm : nOf L = m) : Calls Try.prog 34 #[.pointer (some ⟨o, 0, none⟩)] w fun e w' => e = .returned (.int .i64 m) ∧ w = w' := by
  obtain ⟨vs, bm, n, D, h1, h2, h3⟩ := h
  exact own_len h1 hm
theorem o_slots (h : One w S N o M L) {m : Nat} (hm : L.length = m) : Calls Try.prog 35 #[.pointer (some ⟨o, 0, none⟩)] w fun e w' => e = .returned (.int .i64 m) ∧ w = w' := by
  obtain ⟨vs, bm, n, D, h1, h2, h3⟩ := h
  exact own_slots h1 hm
theorem o_keys (h : One w S N o M L) (hn : L.length ≤ 1000) {x : Nat} (hx : nOf L = x) :
    Calls Try.prog 41 #[.pointer (some ⟨o, 0, none⟩)] w fun e w' => ∃ A k, e = .returned (.slice A x k) ∧ OwnR w w' 26 5 (.slice A x k) x ((keysM L).flatMap V.cs) ∧ Chg (fun _ => False) w w' := by
  obtain ⟨vs, bm, n, D, h1, h2, h3⟩ := h
  exact own_keys h1 hn hx
theorem setM_there {L : List Sl} {k v : V} (hk : vok k = true ∧ k.k ≠ 0) (hv : vok v = true) {i : Nat} (ht : thereM L k = some i) : setM L k v = (0, L.set i (if v.k = 0 then ⟨k, V.zero, true⟩ else ⟨k, v, false⟩)) := by
  unfold setM
  rw [if_neg (by rw [hk.1]; simp [hk.2]), if_neg (by rw [hv]; simp), ht]
theorem setM_none {L : List Sl} {k v : V} (hk : vok k = true ∧ k.k ≠ 0) (hv : vok v = true) (ht : thereM L k = none) : setM L k v = (0, if v.k = 0 then L else insM L k v) := by
  unfold setM
  rw [if_neg (by rw [hk.1]; simp [hk.2]), if_neg (by rw [hv]; simp), ht]
theorem own_setM {c bm n : Nat} {vs : Value} {D : DataW Unit} (h : OwnM w c vs bm n D L) (hn : L.length ≤ 999) (hnn : n ≤ 100000000) {k v : V} (hk : k.wf) {e1 : Int} {L1 : List Sl} (hp : setM L k v = (e1, L1)) :
    Calls Try.prog 32 #[.pointer (some ⟨c, 0, none⟩), (.agg #[.int .i64 k.k, .int .i64 k.p, .int .i64 k.q, .string k.s, .int .i64 k.r]), (.agg #[.int .i64 v.k, .int .i64 v.p, .int .i64 v.q, .string v.s, .int .i64 v.r])] w fun e w' => e = .returned (.int .i64 e1) ∧ OwnPost w w' c vs bm (n + L.length + 1) L1 := by
  by_cases hbad : k.k = 0 ∨ vok k = false
  · have e : setM L k v = (13, L) := by unfold setM; rw [if_pos hbad]
    rw [e] at hp
    injection hp with h1 h2
    subst h1 h2
    exact (own_set_bad w c k v (.inl ⟨hbad, rfl⟩)).mono fun e w' ⟨h1, hc⟩ => ⟨h1, OwnPost.same h hc (by omega)⟩
  · have hkv : vok k = true ∧ k.k ≠ 0 := ⟨by cases e : vok k with | true => rfl | false => exact absurd (.inr e) hbad, fun e => hbad (.inl e)⟩
    cases hv : vok v with
    | false =>
      have e : setM L k v = (2, L) := by unfold setM; rw [if_neg hbad, if_pos hv]
      rw [e] at hp
      injection hp with h1 h2
      subst h1 h2
      exact (own_set_bad w c k v (.inr ⟨hbad, hv, rfl⟩)).mono fun e w' ⟨h1, hc⟩ => ⟨h1, OwnPost.same h hc (by omega)⟩
    | true =>
      cases ht : thereM L k with
      | some i =>
        rw [setM_there hkv hv ht] at hp
        injection hp with h1 h2
        subst h1 h2
        by_cases hz : v.k = 0
        · exact (own_set_gone h (by omega) hk hkv hv ht (by simpa using hz) rfl).mono fun e w' ⟨h1, hc⟩ => ⟨h1, hc.mono (by omega)⟩
        · exact (own_set_put h (by omega) hk hkv hv ht (by simpa using hz) rfl).mono fun e w' ⟨h1, hc⟩ => ⟨h1, hc.mono (by omega)⟩
      | none =>
        rw [setM_none hkv hv ht] at hp
        injection hp with h1 h2
        subst h1 h2
        rcases there_cases ht with hi | ⟨i, hi, hg⟩
        · exact own_set_none_a h hn hnn hk hkv hv ht hi
        · exact own_set_none_b h hn hnn hk hkv hv ht hi hg
theorem o_set (h : One w S N o M L) (hN : N ≤ w.heap.size) (hn : L.length ≤ 999) (hM : M ≤ 100000000) {k v : V} (hk : k.wf) {e1 : Int} {L1 : List Sl} (hp : setM L k v = (e1, L1)) :
    Calls Try.prog 32 #[.pointer (some ⟨o, 0, none⟩), (.agg #[.int .i64 k.k, .int .i64 k.p, .int .i64 k.q, .string k.s, .int .i64 k.r]), (.agg #[.int .i64 v.k, .int .i64 v.p, .int .i64 v.q, .string v.s, .int .i64 v.r])] w fun e w' => e = .returned (.int .i64 e1) ∧ One w' S N o (M + 1000) L1 ∧ Chg (fun k => S k ∨ N ≤ k) w w' := by
  obtain ⟨vs, bm, n, D, h1, h2, h3⟩ := h
  refine (own_setM h1 hn (Nat.le_trans h3 hM) hk hp).mono fun e w' ⟨he, vs', n', D', g1, g2, g3, g4⟩ => ⟨he, ⟨vs', bm, n', D', g1, fun k hk => ?_, by omega⟩, g3.mono fun k _ hk => h2 k hk⟩
  rcases g4 k hk with e | e
  · exact h2 k e
  · exact .inr (by omega)
end
theorem alloc_sz (w : World) (o : Obj) : (w.alloc o).heap.size = w.heap.size + 1 := by simp
theorem zero_wf : V.zero.wf := ⟨by decide, by decide, by decide, of_decide_eq_true (by kernel_rfl), by decide⟩
end Go.Proofs.Ytoelgnjnbelokaa
