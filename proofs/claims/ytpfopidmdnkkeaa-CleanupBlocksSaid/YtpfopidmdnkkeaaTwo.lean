/-
  The program's list and the document's side by side: what a call on one leaves of the other.
-/
import Derived.Test.YtpfopidmdnkkeaaWPop2
namespace Go.Proofs.Ytpfopidmdnkkeaa
open Go.RowKit Go.Maps

section
variable {w w' : World} {c bm n : Nat} {ve vf tv : Value} {D : DataW Unit} {es : List En} {fl : Option Fl}
theorem OwnL.lt (h : OwnL w c ve bm vf tv n D es fl) {k : Nat} (hk : ownF c ve bm vf tv k) : k < w.heap.size := by
  rcases hk with rfl | hk | rfl | hk | hk
  · exact h.blk.lt
  · exact own_lt h.ent hk
  · exact h.mp.lt
  · have hf := h.fa
    cases fl with
    | none => rw [hf.1] at hk; simp [Value.ownBlock] at hk
    | some f =>
      obtain ⟨bf, rfl, hb, _⟩ := hf
      obtain rfl : bf = k := by simpa [Value.ownBlock] using hk
      exact hb.lt
  · have hf := h.fa
    cases fl with
    | none => rw [hf.2] at hk; simp [Value.ownBlock] at hk
    | some f =>
      obtain ⟨bf, rfl, _, ho⟩ := hf
      exact own_lt ho hk
/-- What a call on the document's list r leaves. -/
def DocPost (w w' : World) (r : Nat) (vr vv tv : Value) (es' : List En) (fl' : Option Fl) : Prop :=
  ∃ vr' vv' tv', DocL w' r vr' vv' tv' es' fl' ∧ Chg (docF r vr vv tv) w w' ∧ ∀ k, docF r vr' vv' tv' k → docF r vr vv tv k ∨ w.heap.size ≤ k
theorem DocL.chg {S : Nat → Prop} {r : Nat} {vr vv tv : Value} (h : DocL w r vr vv tv es fl) (hc : Chg S w w') (hn : ∀ k, docF r vr vv tv k → ¬ S k) : DocL w' r vr vv tv es fl :=
  ⟨h.blk.chg hc (hn _ (.inl rfl)), own_chg h.reg hc fun k hk => hn k (.inr (.inl hk)), own_chg h.val hc fun k hk => hn k (.inr (.inr (.inl hk))), own_chg h.tra hc fun k hk => hn k (.inr (.inr (.inr hk)))⟩
theorem DocL.none_ {r : Nat} {vr vv tv : Value} (h : DocL w r vr vv tv es fl) (hc : Chg (fun _ => False) w w') : DocL w' r vr vv tv es fl := h.chg hc fun _ _ h => h
theorem DocL.lt {r : Nat} {vr vv tv : Value} (h : DocL w r vr vv tv es fl) {k : Nat} (hk : docF r vr vv tv k) : k < w.heap.size := by
  rcases hk with rfl | hk | hk | hk
  · exact h.blk.lt
  · exact own_lt h.reg hk
  · exact own_lt h.val hk
  · exact own_lt h.tra hk
theorem DocPost.same {r : Nat} {vr vv tv : Value} (h : DocL w r vr vv tv es fl) (hc : Chg (fun _ => False) w w') : DocPost w w' r vr vv tv es fl :=
  ⟨vr, vv, tv, h.none_ hc, hc.mono fun _ _ h => h.elim, fun _ h => .inl h⟩
/-- The program's list in blocks of S or from N on. -/
def One (w : World) (S : Nat → Prop) (N o M : Nat) (es : List En) (fl : Option Fl) : Prop :=
  ∃ ve bm vf tv n D, OwnL w o ve bm vf tv n D es fl ∧ (∀ k, ownF o ve bm vf tv k → S k ∨ N ≤ k) ∧ n ≤ M
theorem One.none_ {S : Nat → Prop} {N o M : Nat} (h : One w S N o M es fl) (hc : Chg (fun _ => False) w w') : One w' S N o M es fl := by
  obtain ⟨ve, bm, vf, tv, n, D, h1, h2, h3⟩ := h
  exact ⟨ve, bm, vf, tv, n, D, h1.none_ hc, h2, h3⟩
theorem OwnL.one {S : Nat → Prop} {N M : Nat} {es1 : List En} {fl1 : Option Fl} (hlo : ∀ k, ownF c ve bm vf tv k → S k ∨ N ≤ k) (hn : n ≤ M) (hN : N ≤ w.heap.size) (hp : OwnPost w w' c ve bm vf tv n es1 fl1) : One w' S N c (M + 1) es1 fl1 ∧ Chg (fun k => S k ∨ N ≤ k) w w' := by
  obtain ⟨ve1, vf1, tv1, n1, D1, hL, hn1, hc, hf⟩ := hp
  refine ⟨⟨ve1, bm, vf1, tv1, n1, D1, hL, fun k hk => ?_, by omega⟩, hc.mono fun k _ hk => hlo k hk⟩
  rcases hf k hk with h | h
  · exact hlo k h
  · exact .inr (by omega)
/-- The program's list and the document's. -/
structure TwoAt (w : World) (S : Nat → Prop) (N o r M : Nat) (es : List En) (fl : Option Fl) (es' : List En) (fl' : Option Fl) (ve : Value) (bm : Nat) (vf tv : Value) (n : Nat) (D : DataW Unit) (vr vv tv' : Value) : Prop where
  ow : OwnL w o ve bm vf tv n D es fl
  dc : DocL w r vr vv tv' es' fl'
  dis : ∀ k, ownF o ve bm vf tv k → ¬ docF r vr vv tv' k
  lo : ∀ k, ownF o ve bm vf tv k ∨ docF r vr vv tv' k → S k ∨ N ≤ k
  nn : n ≤ M
def Two (w : World) (S : Nat → Prop) (N o r M : Nat) (es : List En) (fl : Option Fl) (es' : List En) (fl' : Option Fl) : Prop :=
  ∃ ve bm vf tv n D vr vv tv', TwoAt w S N o r M es fl es' fl' ve bm vf tv n D vr vv tv'
section
variable {S : Nat → Prop} {N o r M : Nat} {es' : List En} {fl' : Option Fl} {vr vv tv' : Value}
theorem Two.none_ (h : Two w S N o r M es fl es' fl') (hc : Chg (fun _ => False) w w') : Two w' S N o r M es fl es' fl' := by
  obtain ⟨ve, bm, vf, tv, n, D, vr, vv, tv', h⟩ := h
  exact ⟨ve, bm, vf, tv, n, D, vr, vv, tv', h.ow.none_ hc, h.dc.none_ hc, h.dis, h.lo, h.nn⟩
theorem Two.chg {T : Nat → Prop} (h : Two w S N o r M es fl es' fl') (hc : Chg T w w') (hT : ∀ k, S k ∨ N ≤ k → ¬ T k) : Two w' S N o r M es fl es' fl' := by
  obtain ⟨ve, bm, vf, tv, n, D, vr, vv, tv', h⟩ := h
  exact ⟨ve, bm, vf, tv, n, D, vr, vv, tv', h.ow.chg hc fun k hk => hT k (h.lo k (.inl hk)), h.dc.chg hc fun k hk => hT k (h.lo k (.inr hk)), h.dis, h.lo, h.nn⟩
theorem Two.mono {M' : Nat} (h : Two w S N o r M es fl es' fl') (hM : M ≤ M') : Two w S N o r M' es fl es' fl' := by
  obtain ⟨ve, bm, vf, tv, n, D, vr, vv, tv', h⟩ := h
  exact ⟨ve, bm, vf, tv, n, D, vr, vv, tv', h.ow, h.dc, h.dis, h.lo, Nat.le_trans h.nn hM⟩
/-- From here on the two keep to the blocks that they have and to new ones. -/
theorem Two.fix (h : Two w S N o r M es fl es' fl') : ∃ S', (∀ k, S' k → k < w.heap.size ∧ (S k ∨ N ≤ k)) ∧ ∀ w2 N2, Chg (fun _ => False) w w2 → Two w2 S' N2 o r M es fl es' fl' := by
  obtain ⟨ve, bm, vf, tv, n, D, vr, vv, tv', h⟩ := h
  refine ⟨fun k => ownF o ve bm vf tv k ∨ docF r vr vv tv' k, fun k hk => ⟨?_, h.lo k hk⟩, fun w2 N2 hc => ⟨ve, bm, vf, tv, n, D, vr, vv, tv', h.ow.none_ hc, h.dc.none_ hc, h.dis, fun k hk => .inl hk, h.nn⟩⟩
  rcases hk with hk | hk
  · exact h.ow.lt hk
  · exact h.dc.lt hk
theorem TwoAt.own_post {es1 : List En} {fl1 : Option Fl} (h : TwoAt w S N o r M es fl es' fl' ve bm vf tv n D vr vv tv') (hN : N ≤ w.heap.size) (hp : OwnPost w w' o ve bm vf tv n es1 fl1) :
    Two w' S N o r (M + 1) es1 fl1 es' fl' ∧ Chg (fun k => S k ∨ N ≤ k) w w' := by
  obtain ⟨ve1, vf1, tv1, n1, D1, hL, hn1, hc, hf⟩ := hp
  refine ⟨⟨ve1, bm, vf1, tv1, n1, D1, vr, vv, tv', hL, h.dc.chg hc (fun k hk hk' => h.dis k hk' hk), fun k hk hk' => ?_, fun k hk => ?_, by have := h.nn; omega⟩, hc.mono fun k _ hk => h.lo k (.inl hk)⟩
  · rcases hf k hk with h1 | h1
    · exact h.dis k h1 hk'
    · have := h.dc.lt hk'
      omega
  · rcases hk with hk | hk
    · rcases hf k hk with h1 | h1
      · exact h.lo k (.inl h1)
      · exact .inr (by omega)
    · exact h.lo k (.inr hk)
theorem TwoAt.doc_post {es1 : List En} {fl1 : Option Fl} (h : TwoAt w S N o r M es fl es' fl' ve bm vf tv n D vr vv tv') (hN : N ≤ w.heap.size) (hp : DocPost w w' r vr vv tv' es1 fl1) :
    Two w' S N o r M es fl es1 fl1 ∧ Chg (fun k => S k ∨ N ≤ k) w w' := by
  obtain ⟨vr1, vv1, tv1, hL, hc, hf⟩ := hp
  refine ⟨⟨ve, bm, vf, tv, n, D, vr1, vv1, tv1, h.ow.chg hc (fun k hk hk' => h.dis k hk hk'), hL, fun k hk hk' => ?_, fun k hk => ?_, h.nn⟩, hc.mono fun k _ hk => h.lo k (.inr hk)⟩
  · rcases hf k hk' with h1 | h1
    · exact h.dis k hk h1
    · have := h.ow.lt hk
      omega
  · rcases hk with hk | hk
    · exact h.lo k (.inl hk)
    · rcases hf k hk with h1 | h1
      · exact h.lo k (.inr h1)
      · exact .inr (by omega)
end
end
end Go.Proofs.Ytpfopidmdnkkeaa
