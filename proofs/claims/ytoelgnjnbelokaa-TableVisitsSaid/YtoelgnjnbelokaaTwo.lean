/-
  The program's map and the document's side by side: what a call on one leaves of the other.
-/
import Derived.Test.YtoelgnjnbelokaaLift
namespace Go.Proofs.Ytoelgnjnbelokaa
open Go.RowKit Go.Maps

section
variable {w w' w1 : World} {S : Nat → Prop} {N o r M c bm n : Nat} {vs vr : Value} {D : DataW Unit} {L L' L1 : List Sl}
theorem DocM.lt (h : DocM w c vs L) {k : Nat} (hk : docF c vs k) : k < w.heap.size := by
  rcases hk with rfl | hk
  · exact h.blk.lt
  · exact own_lt h.row hk
/-- What a call on the document's map leaves. -/
def DocPost (w w' : World) (c : Nat) (vs : Value) (L' : List Sl) : Prop := ∃ vs', DocM w' c vs' L' ∧ Chg (docF c vs) w w' ∧ ∀ k, docF c vs' k → docF c vs k ∨ w.heap.size ≤ k
theorem DocPost.same (h : DocM w c vs L) (hc : Chg (fun _ => False) w w') : DocPost w w' c vs L := ⟨vs, h.none_ hc, hc.mono fun _ _ h => h.elim, fun _ h => .inl h⟩
theorem DocPost.after {w3 W : World} (hc : Chg (fun _ => False) w w3) (h : DocPost w3 W c vs L') : DocPost w W c vs L' := by
  obtain ⟨vs', h1, h3, h4⟩ := h
  exact ⟨vs', h1, (hc.mono fun _ _ h => h.elim).trans_same h3, fun k hk => (h4 k hk).imp id fun e => Nat.le_trans hc.size e⟩
/-- Both maps. -/
structure TwoAt (w : World) (S : Nat → Prop) (N o r M : Nat) (L L' : List Sl) (vs : Value) (bm n : Nat) (D : DataW Unit) (vr : Value) : Prop where
  ow : OwnM w o vs bm n D L
  dc : DocM w r vr L'
  dis : ∀ k, ownF o vs bm k → ¬ docF r vr k
  lo : ∀ k, ownF o vs bm k ∨ docF r vr k → S k ∨ N ≤ k
  nn : n ≤ M
def Two (w : World) (S : Nat → Prop) (N o r M : Nat) (L L' : List Sl) : Prop := ∃ vs bm n D vr, TwoAt w S N o r M L L' vs bm n D vr
theorem Two.none_ (h : Two w S N o r M L L') (hc : Chg (fun _ => False) w w') : Two w' S N o r M L L' := by
  obtain ⟨vs, bm, n, D, vr, h⟩ := h
  exact ⟨vs, bm, n, D, vr, h.ow.none_ hc, h.dc.none_ hc, h.dis, h.lo, h.nn⟩
theorem Two.chg {T : Nat → Prop} (h : Two w S N o r M L L') (hc : Chg T w w') (hT : ∀ k, S k ∨ N ≤ k → ¬ T k) : Two w' S N o r M L L' := by
  obtain ⟨vs, bm, n, D, vr, h⟩ := h
  exact ⟨vs, bm, n, D, vr, h.ow.chg hc fun k hk => hT k (h.lo k (.inl hk)), h.dc.chg hc fun k hk => hT k (h.lo k (.inr hk)), h.dis, h.lo, h.nn⟩
theorem Two.mono {M' : Nat} (h : Two w S N o r M L L') (hM : M ≤ M') : Two w S N o r M' L L' := by
  obtain ⟨vs, bm, n, D, vr, h⟩ := h
  exact ⟨vs, bm, n, D, vr, h.ow, h.dc, h.dis, h.lo, Nat.le_trans h.nn hM⟩
theorem Two.fix (h : Two w S N o r M L L') : ∃ S', (∀ k, S' k → k < w.heap.size ∧ (S k ∨ N ≤ k)) ∧ ∀ w2 N2, Chg (fun _ => False) w w2 → Two w2 S' N2 o r M L L' := by
  obtain ⟨vs, bm, n, D, vr, h⟩ := h
  refine ⟨fun k => ownF o vs bm k ∨ docF r vr k, fun k hk => ⟨?_, h.lo k hk⟩, fun w2 N2 hc => ⟨vs, bm, n, D, vr, h.ow.none_ hc, h.dc.none_ hc, h.dis, fun k hk => .inl hk, h.nn⟩⟩
  rcases hk with hk | hk
  · exact h.ow.lt hk
  · exact h.dc.lt hk
theorem Two.weaken {S' : Nat → Prop} {N' : Nat} (h : Two w S' N' o r M L L') (hS : ∀ k, S' k → S k ∨ N ≤ k) (hN : N ≤ N') : Two w S N o r M L L' := by
  obtain ⟨vs, bm, n, D, vr, h⟩ := h
  exact ⟨vs, bm, n, D, vr, h.ow, h.dc, h.dis, fun k hk => (h.lo k hk).elim (hS k) fun h' => .inr (by omega), h.nn⟩
theorem Two.one (h : Two w S N o r M L L') : One w S N o M L := by
  obtain ⟨vs, bm, n, D, vr, h⟩ := h
  exact ⟨vs, bm, n, D, h.ow, fun k hk => h.lo k (.inl hk), h.nn⟩
theorem Two.inv (h : Two w S N o r M L L') : Inv L := h.one.inv
theorem Two.dinv (h : Two w S N o r M L L') : Inv L' := by
  obtain ⟨vs, bm, n, D, vr, h⟩ := h
  exact h.dc.inv
theorem TwoAt.own_post {M' : Nat} (h : TwoAt w S N o r M L L' vs bm n D vr) (hN : N ≤ w.heap.size) (hp : OwnPost w w' o vs bm M' L1) (hM : M' ≤ M + 1000) :
    Two w' S N o r (M + 1000) L1 L' ∧ Chg (fun k => S k ∨ N ≤ k) w w' := by
  obtain ⟨vs1, n1, D1, hL, hn1, hc, hf⟩ := hp
  refine ⟨⟨vs1, bm, n1, D1, vr, hL, h.dc.chg hc (fun k hk hk' => h.dis k hk' hk), fun k hk hk' => ?_, fun k hk => ?_, by omega⟩, hc.mono fun k _ hk => h.lo k (.inl hk)⟩
  · rcases hf k hk with h1 | h1
    · exact h.dis k h1 hk'
    · have := h.dc.lt hk'
      omega
  · rcases hk with hk | hk
    · rcases hf k hk with h1 | h1
      · exact h.lo k (.inl h1)
      · exact .inr (by omega)
    · exact h.lo k (.inr hk)
theorem TwoAt.doc_post (h : TwoAt w S N o r M L L' vs bm n D vr) (hN : N ≤ w.heap.size) (hp : DocPost w w' r vr L1) :
    Two w' S N o r M L L1 ∧ Chg (fun k => S k ∨ N ≤ k) w w' := by
  obtain ⟨vr1, hL, hc, hf⟩ := hp
  refine ⟨⟨vs, bm, n, D, vr1, h.ow.chg hc (fun k hk hk' => h.dis k hk hk'), hL, fun k hk hk' => ?_, fun k hk => ?_, h.nn⟩, hc.mono fun k _ hk => h.lo k (.inr hk)⟩
  · rcases hf k hk' with h1 | h1
    · exact h.dis k hk h1
    · have := h.ow.lt hk
      omega
  · rcases hk with hk | hk
    · exact h.lo k (.inl hk)
    · rcases hf k hk with h1 | h1
      · exact h.lo k (.inr h1)
      · exact .inr (by omega)
theorem Two.start {w0 w1 w2 : World} (h : One w1 (fun _ => False) w0.heap.size o 0 []) (hs : w0.heap.size ≤ w1.heap.size) (hd : DocM w2 w1.heap.size (.slice none 0 0) []) (hc : Chg (fun _ => False) w1 w2) : Two w2 (fun _ => False) w0.heap.size o w1.heap.size 0 [] [] := by
  obtain ⟨vs, bm, n, D, h1, h2, h3⟩ := h
  refine ⟨vs, bm, n, D, _, h1.none_ hc, hd, fun k hk hk' => ?_, fun k hk => ?_, h3⟩
  · have := h1.lt hk
    rcases hk' with rfl | hk'
    · omega
    · simp [Value.ownBlock] at hk'
  · rcases hk with hk | hk
    · exact h2 k hk
    · rcases hk with rfl | hk
      · exact .inr hs
      · simp [Value.ownBlock] at hk
theorem p_set (h : Two w S N o r M L L') (hN : N ≤ w.heap.size) (hn : L.length ≤ 999) (hM : M ≤ 100000000) {k v : V} (hk : k.wf) {e1 : Int} (hp : setM L k v = (e1, L1)) :
    Calls Try.prog 32 #[.pointer (some ⟨o, 0, none⟩), (.agg #[.int .i64 k.k, .int .i64 k.p, .int .i64 k.q, .string k.s, .int .i64 k.r]), (.agg #[.int .i64 v.k, .int .i64 v.p, .int .i64 v.q, .string v.s, .int .i64 v.r])] w fun e w' => e = .returned (.int .i64 e1) ∧ Two w' S N o r (M + 1000) L1 L' ∧ Chg (fun k => S k ∨ N ≤ k) w w' := by
  obtain ⟨vs, bm, n, D, vr, h⟩ := h
  exact (own_setM h.ow hn (Nat.le_trans h.nn hM) hk hp).mono fun e w' ⟨h1, h2⟩ => ⟨h1, h.own_post hN h2 (by have := h.nn; omega)⟩
end
end Go.Proofs.Ytoelgnjnbelokaa
