/-
  The program's table and the reference's, side by side: what each call leaves.
-/
import Derived.Test.YtoelgnjnbelokaaRIns
import Derived.Test.YtoelgnjnbelokaaRNext
namespace Go.Proofs.Ytoelgnjnbelokaa
open Go.RowKit Go.Maps

section
variable {w w' : World} {S : Nat → Prop} {N o M : Nat} {a : List V} {m : List Sl}
/-- Insert, whatever its arguments. -/
theorem t_insert_any (h : Tab w S N o M a m) (hN : N ≤ w.heap.size) (I : TInv a m) (hb : a.length + nOf m ≤ 300) (hm : m.length ≤ 300) (hM : M ≤ 100000000) (at_ : Int) (v : V) :
    Calls Try.prog 15 #[.pointer (some ⟨o, 0, none⟩), .int .i64 at_, (.agg #[.int .i64 v.k, .int .i64 v.p, .int .i64 v.q, .string v.s, .int .i64 v.r])] w fun e w' => ∃ x, e = .returned (.int .i64 x) ∧ ∃ a' m', TInv a' m' ∧ (a'.length + nOf m' ≤ a.length + nOf m + 1 ∧ m'.length ≤ m.length + 1) ∧ Tab w' S N o (M + 400000) a' m' ∧ Chg (fun k => S k ∨ N ≤ k) w w' := by
  have hsame : ∀ w', Chg (fun _ => False) w w' → ∃ a' m', TInv a' m' ∧ (a'.length + nOf m' ≤ a.length + nOf m + 1 ∧ m'.length ≤ m.length + 1) ∧ Tab w' S N o (M + 400000) a' m' ∧ Chg (fun k => S k ∨ N ≤ k) w w' := fun w' hc => ⟨a, m, I, ⟨by omega, by omega⟩, (h.none_ hc).mono (by omega), hc.mono fun _ _ e => e.elim⟩
  by_cases hat : 1 ≤ at_ ∧ at_ ≤ (a.length : Int) + 1
  · by_cases hv : vok v = true
    · by_cases hend : at_ = (a.length : Int) + 1
      · refine t_insert_end h (by omega) hv hend (R := fun x w' => ∃ a' m', TInv a' m' ∧ (a'.length + nOf m' ≤ a.length + nOf m + 1 ∧ m'.length ≤ m.length + 1) ∧ Tab w' S N o (M + 400000) a' m' ∧ Chg (fun k => S k ∨ N ≤ k) w w') fun W hc => ?_
        refine (t_set (h.none_ hc) (Nat.le_trans hN hc.size) (by omega) hm hM (kI_wf (by omega) (by omega))).mono ?_
        rintro e w1 ⟨x, a', m', rfl, h1, h2, h3⟩
        exact ⟨x, rfl, a', m', (h1.law I (by omega) (h1.bnd I (by omega))).1, h1.len I.inv (by omega), h2, (hc.mono (T := fun k => S k ∨ N ≤ k) fun _ _ e => e.elim).trans_same h3⟩
      · obtain ⟨i, hi⟩ : ∃ i : Nat, at_ = (i : Int) + 1 := ⟨(at_ - 1).toNat, by omega⟩
        subst hi
        have hil : i < a.length := by omega
        refine (t_insert_mid h hN (by omega) hm (i := i) hil hv (I.last.resolve_left (by omega))).mono ?_
        rintro e w1 ⟨rfl, ⟨a', m', h1, h2⟩, h3⟩
        have hl := ins_len I.inv hil h1 (by omega)
        exact ⟨0, rfl, a', m', (ins_law I hil hv h1 (by omega) (by omega)).1, ⟨hl.1, by omega⟩, h2, h3⟩
    · refine (t_insert_bad2 h (by omega) hat (v := v) (by simpa using hv)).mono ?_
      rintro e w1 ⟨rfl, hc⟩
      exact ⟨2, rfl, hsame w1 hc⟩
  · refine (t_insert_bad h (by omega) hat v).mono ?_
    rintro e w1 ⟨rfl, hc⟩
    exact ⟨6, rfl, hsame w1 hc⟩
/-- Remove, whatever its argument. -/
theorem t_remove_any (h : Tab w S N o M a m) (hN : N ≤ w.heap.size) (I : TInv a m) (hb : a.length + nOf m ≤ 300) (at_ : Int) :
    Calls Try.prog 12 #[.pointer (some ⟨o, 0, none⟩), .int .i64 at_] w fun e w' => ∃ (x : V) (y : Int), e = .returned (.tuple #[(.agg #[.int .i64 x.k, .int .i64 x.p, .int .i64 x.q, .string x.s, .int .i64 x.r]), .int .i64 y]) ∧ ∃ a' m', TInv a' m' ∧ (a'.length + nOf m' ≤ a.length + nOf m + 1 ∧ m'.length ≤ m.length + 1) ∧ Tab w' S N o (M + 400000) a' m' ∧ Chg (fun k => S k ∨ N ≤ k) w w' := by
  by_cases hat : 1 ≤ at_ ∧ at_ ≤ (a.length : Int)
  · obtain ⟨i, hi⟩ : ∃ i : Nat, at_ = (i : Int) + 1 := ⟨(at_ - 1).toNat, by omega⟩
    subst hi
    have hil : i < a.length := by omega
    refine (t_remove h hN (by omega) (i := i) hil rfl).mono ?_
    rintro e w1 ⟨rfl, h1, h2⟩
    have hl := rem_len hil
    exact ⟨_, _, rfl, _, m, (rem_law I hil).1, ⟨by omega, by omega⟩, h1.mono (by omega), h2⟩
  · refine (t_remove_bad h hat).mono ?_
    rintro e w1 ⟨rfl, hc⟩
    exact ⟨_, _, rfl, a, m, I, ⟨by omega, by omega⟩, (h.none_ hc).mono (by omega), hc.mono fun _ _ e => e.elim⟩
end
/-- Both tables, in blocks of their own; the blocks of E are none of theirs. -/
structure DuoS (w0 w : World) (E : Nat → Prop) (o r M : Nat) (a : List V) (m : List Sl) (a2 : List V) (m2 : List Sl) (S1 S2 : Nat → Prop) : Prop where
  tab : Tab w S1 w.heap.size o M a m
  ref : RTab w S2 w.heap.size r a2 m2
  i1 : TInv a m
  i2 : TInv a2 m2
  lo1 : ∀ k, S1 k → w0.heap.size ≤ k ∧ k < w.heap.size
  lo2 : ∀ k, S2 k → w0.heap.size ≤ k ∧ k < w.heap.size
  dis : ∀ k, S1 k → ¬ S2 k
  ex : ∀ k, E k → k < w.heap.size ∧ ¬ S1 k ∧ ¬ S2 k
  chg : Chg (fun _ => False) w0 w
/-- After j calls on the one and i on the other. -/
def DuoJ (w0 w : World) (E : Nat → Prop) (o r j i : Nat) : Prop :=
  ∃ M a m a2 m2 S1 S2, DuoS w0 w E o r M a m a2 m2 S1 S2 ∧ M ≤ j * 400000 ∧ (a.length + nOf m ≤ j ∧ m.length ≤ j) ∧ (a2.length + nOf m2 ≤ i ∧ m2.length ≤ i)
section
variable {w0 w w' : World} {E : Nat → Prop} {o r M M' j i : Nat} {a a' a2 a2' : List V} {m m' m2 m2' : List Sl} {S1 S2 : Nat → Prop}
theorem DuoS.tabop (h : DuoS w0 w E o r M a m a2 m2 S1 S2) (hT : Tab w' S1 w.heap.size o M' a' m') (I : TInv a' m') (hc : Chg (fun k => S1 k ∨ w.heap.size ≤ k) w w') :
    (∃ S1' S2', DuoS w0 w' E o r M' a' m' a2 m2 S1' S2') ∧ Chg (fun k => ¬ E k) w w' := by
  obtain ⟨S1', g1, g2⟩ := hT.fix
  obtain ⟨S2', q1, q2⟩ := h.ref.fix
  have hz := hc.size
  have hz0 := h.chg.size
  have p2 : ∀ k, S2' k → S2 k := fun k e => (q1 k e).2.elim id fun e2 => by have := (q1 k e).1; omega
  refine ⟨⟨S1', S2', g2 w' _ (Chg.refl _ _), (q2 w w'.heap.size (Chg.refl _ _)).chg hc fun k hk e e2 => ?_, I, h.i2, fun k e => ⟨?_, (g1 k e).1⟩, fun k e => ⟨(h.lo2 k (p2 k e)).1, by have := (q1 k e).1; omega⟩, fun k e e2 => ?_, fun k e => ⟨by have := (h.ex k e).1; omega, fun e2 => ?_, fun e2 => (h.ex k e).2.2 (p2 k e2)⟩, h.chg.trans hc fun k hk e => ?_⟩, hc.mono fun k hk e e2 => ?_⟩
  · rcases e with e | e
    · rcases e2 with e2 | e2
      · exact h.dis k e2 (p2 k e)
      · omega
    · omega
  · exact (g1 k e).2.elim (fun e => (h.lo1 k e).1) fun e => by omega
  · rcases (g1 k e).2 with e3 | e3
    · exact h.dis k e3 (p2 k e2)
    · have := (q1 k e2).1; omega
  · rcases (g1 k e2).2 with e3 | e3
    · exact (h.ex k e).2.1 e3
    · have := (h.ex k e).1; omega
  · rcases e with e | e
    · have := (h.lo1 k e).1; omega
    · omega
  · rcases e with e | e
    · exact (h.ex k e2).2.1 e
    · omega
theorem DuoS.refop (h : DuoS w0 w E o r M a m a2 m2 S1 S2) (hT : RTab w' S2 w.heap.size r a2' m2') (I : TInv a2' m2') (hc : Chg (fun k => S2 k ∨ w.heap.size ≤ k) w w') :
    (∃ S1' S2', DuoS w0 w' E o r M a m a2' m2' S1' S2') ∧ Chg (fun k => ¬ E k) w w' := by
  obtain ⟨S2', g1, g2⟩ := hT.fix
  obtain ⟨S1', q1, q2⟩ := h.tab.fix
  have hz := hc.size
  have hz0 := h.chg.size
  have p2 : ∀ k, S1' k → S1 k := fun k e => (q1 k e).2.elim id fun e2 => by have := (q1 k e).1; omega
  refine ⟨⟨S1', S2', (q2 w w'.heap.size (Chg.refl _ _)).chg hc fun k hk e e2 => ?_, g2 w' _ (Chg.refl _ _), h.i1, I, fun k e => ⟨(h.lo1 k (p2 k e)).1, by have := (q1 k e).1; omega⟩, fun k e => ⟨?_, (g1 k e).1⟩, fun k e2 e => ?_, fun k e => ⟨by have := (h.ex k e).1; omega, fun e2 => (h.ex k e).2.1 (p2 k e2), fun e2 => ?_⟩, h.chg.trans hc fun k hk e => ?_⟩, hc.mono fun k hk e e2 => ?_⟩
  · rcases e with e | e
    · rcases e2 with e2 | e2
      · exact h.dis k (p2 k e) e2
      · omega
    · omega
  · exact (g1 k e).2.elim (fun e => (h.lo2 k e).1) fun e => by omega
  · rcases (g1 k e).2 with e3 | e3
    · exact h.dis k (p2 k e2) e3
    · have := (q1 k e2).1; omega
  · rcases (g1 k e2).2 with e3 | e3
    · exact (h.ex k e).2.2 e3
    · have := (h.ex k e).1; omega
  · rcases e with e | e
    · have := (h.lo2 k e).1; omega
    · omega
  · rcases e with e | e
    · exact (h.ex k e2).2.2 e
    · omega
theorem DuoJ.none_ (h : DuoJ w0 w E o r j i) (hc : Chg (fun _ => False) w w') : DuoJ w0 w' E o r j i := by
  obtain ⟨M, a, m, a2, m2, S1, S2, h, h1, h2, h3⟩ := h
  have hz := hc.size
  obtain ⟨⟨S1', S2', g⟩, -⟩ := h.tabop (h.tab.none_ hc) h.i1 (hc.mono fun _ _ e => e.elim)
  exact ⟨M, a, m, a2, m2, S1', S2', g, h1, h2, h3⟩
theorem DuoJ.alloc (h : DuoJ w0 w E o r j i) (x : Obj) : DuoJ w0 (w.alloc x) (fun k => E k ∨ k = w.heap.size) o r j i := by
  obtain ⟨M, a, m, a2, m2, S1, S2, h, h1, h2, h3⟩ := h
  have hc : Chg (fun _ => False) w (w.alloc x) := (Chg.refl _ w).alloc x
  obtain ⟨S1', g1, g2⟩ := h.tab.fix
  obtain ⟨S2', q1, q2⟩ := h.ref.fix
  have p1 : ∀ k, S1' k → S1 k := fun k e => (g1 k e).2.elim id fun e2 => by have := (g1 k e).1; omega
  have p2 : ∀ k, S2' k → S2 k := fun k e => (q1 k e).2.elim id fun e2 => by have := (q1 k e).1; omega
  refine ⟨M, a, m, a2, m2, S1', S2', ⟨g2 _ _ hc, q2 _ _ hc, h.i1, h.i2, fun k e => ⟨(h.lo1 k (p1 k e)).1, ?_⟩, fun k e => ⟨(h.lo2 k (p2 k e)).1, ?_⟩, fun k e e2 => h.dis k (p1 k e) (p2 k e2), fun k e => ?_, h.chg.alloc x⟩, h1, h2, h3⟩
  · have := (g1 k e).1; simp; omega
  · have := (q1 k e).1; simp; omega
  · rcases e with e | rfl
    · exact ⟨by have := (h.ex k e).1; simp; omega, fun e2 => (h.ex k e).2.1 (p1 k e2), fun e2 => (h.ex k e).2.2 (p2 k e2)⟩
    · exact ⟨by simp, fun e2 => by have := (g1 _ e2).1; omega, fun e2 => by have := (q1 _ e2).1; omega⟩
theorem DuoJ.forget {E' : Nat → Prop} (h : DuoJ w0 w E o r j i) (hE : ∀ k, E' k → E k) : DuoJ w0 w E' o r j i := by
  obtain ⟨M, a, m, a2, m2, S1, S2, h, h1, h2, h3⟩ := h
  exact ⟨M, a, m, a2, m2, S1, S2, ⟨h.tab, h.ref, h.i1, h.i2, h.lo1, h.lo2, h.dis, fun k e => h.ex k (hE k e), h.chg⟩, h1, h2, h3⟩
theorem DuoJ.mono {j' i' : Nat} (h : DuoJ w0 w E o r j i) (hj : j ≤ j') (hi : i ≤ i') : DuoJ w0 w E o r j' i' := by
  obtain ⟨M, a, m, a2, m2, S1, S2, h, h1, h2, h3⟩ := h
  exact ⟨M, a, m, a2, m2, S1, S2, h, Nat.le_trans h1 (Nat.mul_le_mul_right _ hj), ⟨by omega, by omega⟩, ⟨by omega, by omega⟩⟩
theorem DuoJ.chg (h : DuoJ w0 w E o r j i) : Chg (fun _ => False) w0 w := by
  obtain ⟨M, a, m, a2, m2, S1, S2, h, h1, h2, h3⟩ := h
  exact h.chg
theorem DuoJ.set (h : DuoJ w0 w E o r j i) (hj : j ≤ 200) {k v : V} (hk : k.wf) :
    Calls Try.prog 14 #[.pointer (some ⟨o, 0, none⟩), (.agg #[.int .i64 k.k, .int .i64 k.p, .int .i64 k.q, .string k.s, .int .i64 k.r]), (.agg #[.int .i64 v.k, .int .i64 v.p, .int .i64 v.q, .string v.s, .int .i64 v.r])] w fun e w' => ∃ x : Int, e = .returned (.int .i64 x) ∧ DuoJ w0 w' E o r (j + 1) i ∧ Chg (fun k => ¬ E k) w w' := by
  obtain ⟨M, a, m, a2, m2, S1, S2, h, h1, h2, h3⟩ := h
  refine (t_set h.tab (Nat.le_refl _) (by omega) (by omega) (by omega) hk).mono ?_
  rintro e w1 ⟨x, a', m', rfl, g1, g2, g3⟩
  have hl := g1.len h.i1.inv (by omega)
  obtain ⟨⟨S1', S2', p⟩, q⟩ := h.tabop g2 (g1.law h.i1 (by omega) (g1.bnd h.i1 (by omega))).1 g3
  exact ⟨x, rfl, ⟨_, a', m', a2, m2, S1', S2', p, by omega, ⟨by omega, by omega⟩, h3⟩, q⟩
theorem DuoJ.insert (h : DuoJ w0 w E o r j i) (hj : j ≤ 200) (at_ : Int) (v : V) :
    Calls Try.prog 15 #[.pointer (some ⟨o, 0, none⟩), .int .i64 at_, (.agg #[.int .i64 v.k, .int .i64 v.p, .int .i64 v.q, .string v.s, .int .i64 v.r])] w fun e w' => ∃ x : Int, e = .returned (.int .i64 x) ∧ DuoJ w0 w' E o r (j + 1) i ∧ Chg (fun k => ¬ E k) w w' := by
  obtain ⟨M, a, m, a2, m2, S1, S2, h, h1, h2, h3⟩ := h
  refine (t_insert_any h.tab (Nat.le_refl _) h.i1 (by omega) (by omega) (by omega) at_ v).mono ?_
  rintro e w1 ⟨x, rfl, a', m', g1, hl, g2, g3⟩
  obtain ⟨⟨S1', S2', p⟩, q⟩ := h.tabop g2 g1 g3
  exact ⟨x, rfl, ⟨_, a', m', a2, m2, S1', S2', p, by omega, ⟨by omega, by omega⟩, h3⟩, q⟩
theorem DuoJ.remove (h : DuoJ w0 w E o r j i) (hj : j ≤ 200) (at_ : Int) :
    Calls Try.prog 12 #[.pointer (some ⟨o, 0, none⟩), .int .i64 at_] w fun e w' => ∃ (x : V) (y : Int), e = .returned (.tuple #[(.agg #[.int .i64 x.k, .int .i64 x.p, .int .i64 x.q, .string x.s, .int .i64 x.r]), .int .i64 y]) ∧ DuoJ w0 w' E o r (j + 1) i ∧ Chg (fun k => ¬ E k) w w' := by
  obtain ⟨M, a, m, a2, m2, S1, S2, h, h1, h2, h3⟩ := h
  refine (t_remove_any h.tab (Nat.le_refl _) h.i1 (by omega) at_).mono ?_
  rintro e w1 ⟨x, y, rfl, a', m', g1, hl, g2, g3⟩
  obtain ⟨⟨S1', S2', p⟩, q⟩ := h.tabop g2 g1 g3
  exact ⟨x, y, rfl, ⟨_, a', m', a2, m2, S1', S2', p, by omega, ⟨by omega, by omega⟩, h3⟩, q⟩
theorem DuoJ.next (h : DuoJ w0 w E o r j i) (hj : j ≤ 300) {k : V} (hk : k.wf) :
    Calls Try.prog 11 #[.pointer (some ⟨o, 0, none⟩), (.agg #[.int .i64 k.k, .int .i64 k.p, .int .i64 k.q, .string k.s, .int .i64 k.r])] w fun e w' => ∃ (x1 x2 : V) (b : Bool) (y : Int), e = .returned (.tuple #[(.agg #[.int .i64 x1.k, .int .i64 x1.p, .int .i64 x1.q, .string x1.s, .int .i64 x1.r]), (.agg #[.int .i64 x2.k, .int .i64 x2.p, .int .i64 x2.q, .string x2.s, .int .i64 x2.r]), .bool b, .int .i64 y]) ∧ DuoJ w0 w' E o r j i ∧ Chg (fun _ => False) w w' := by
  have h0 := h
  obtain ⟨M, a, m, a2, m2, S1, S2, h, h1, h2, h3⟩ := h
  obtain ⟨y1, y2, b, f, hx⟩ : ∃ y1 y2 b f, nextT a m k = (y1, y2, b, f) := ⟨_, _, _, _, rfl⟩
  refine (t_next h.tab ⟨by omega, by omega⟩ hk hx).mono ?_
  rintro e w1 ⟨rfl, hc⟩
  exact ⟨y1, y2, b, f, rfl, h0.none_ hc, hc⟩
theorem DuoJ.rset (h : DuoJ w0 w E o r j i) (hi : i ≤ 200) (k v : V) :
    Calls Try.prog 44 #[.pointer (some ⟨r, 0, none⟩), (.agg #[.int .i64 k.k, .int .i64 k.p, .int .i64 k.q, .string k.s, .int .i64 k.r]), (.agg #[.int .i64 v.k, .int .i64 v.p, .int .i64 v.q, .string v.s, .int .i64 v.r])] w fun e w' => ∃ x : Int, e = .returned (.int .i64 x) ∧ DuoJ w0 w' E o r j (i + 1) ∧ Chg (fun k => ¬ E k) w w' := by
  obtain ⟨M, a, m, a2, m2, S1, S2, h, h1, h2, h3⟩ := h
  refine (r_set h.ref (Nat.le_refl _) h.i2 (by omega) k v).mono ?_
  rintro e w1 ⟨x, a', m', rfl, g1, g2, g3⟩
  have hl := g1.len h.i2.inv (by omega)
  obtain ⟨⟨S1', S2', p⟩, q⟩ := h.refop g2 (g1.law h.i2 (by omega) (g1.bnd h.i2 (by omega))).1 g3
  exact ⟨x, rfl, ⟨M, a, m, a', m', S1', S2', p, h1, h2, ⟨by omega, by omega⟩⟩, q⟩
theorem DuoJ.rinsert (h : DuoJ w0 w E o r j i) (hi : i ≤ 200) (at_ : Int) (v : V) :
    Calls Try.prog 45 #[.pointer (some ⟨r, 0, none⟩), .int .i64 at_, (.agg #[.int .i64 v.k, .int .i64 v.p, .int .i64 v.q, .string v.s, .int .i64 v.r])] w fun e w' => ∃ x : Int, e = .returned (.int .i64 x) ∧ DuoJ w0 w' E o r j (i + 1) ∧ Chg (fun k => ¬ E k) w w' := by
  obtain ⟨M, a, m, a2, m2, S1, S2, h, h1, h2, h3⟩ := h
  refine (r_insert h.ref (Nat.le_refl _) h.i2 (by omega) (by omega) at_ v).mono ?_
  rintro e w1 ⟨x, a', m', rfl, g1, hl, g2, g3⟩
  obtain ⟨⟨S1', S2', p⟩, q⟩ := h.refop g2 g1 g3
  exact ⟨x, rfl, ⟨M, a, m, a', m', S1', S2', p, h1, h2, ⟨by omega, by omega⟩⟩, q⟩
theorem DuoJ.rremove (h : DuoJ w0 w E o r j i) (hi : i ≤ 200) (at_ : Int) :
    Calls Try.prog 46 #[.pointer (some ⟨r, 0, none⟩), .int .i64 at_] w fun e w' => ∃ (x : V) (y : Int), e = .returned (.tuple #[(.agg #[.int .i64 x.k, .int .i64 x.p, .int .i64 x.q, .string x.s, .int .i64 x.r]), .int .i64 y]) ∧ DuoJ w0 w' E o r j (i + 1) ∧ Chg (fun k => ¬ E k) w w' := by
  obtain ⟨M, a, m, a2, m2, S1, S2, h, h1, h2, h3⟩ := h
  refine (r_remove h.ref (Nat.le_refl _) h.i2 (by omega) (by omega) at_).mono ?_
  rintro e w1 ⟨x, y, a', m', rfl, g1, hl, g2, g3⟩
  obtain ⟨⟨S1', S2', p⟩, q⟩ := h.refop g2 g1 g3
  exact ⟨x, y, rfl, ⟨M, a, m, a', m', S1', S2', p, h1, h2, ⟨by omega, by omega⟩⟩, q⟩
theorem DuoJ.rnext (h : DuoJ w0 w E o r j i) (hi : i ≤ 300) (k : V) :
    Calls Try.prog 47 #[.pointer (some ⟨r, 0, none⟩), (.agg #[.int .i64 k.k, .int .i64 k.p, .int .i64 k.q, .string k.s, .int .i64 k.r])] w fun e w' => ∃ (x1 x2 : V) (b : Bool) (y : Int), e = .returned (.tuple #[(.agg #[.int .i64 x1.k, .int .i64 x1.p, .int .i64 x1.q, .string x1.s, .int .i64 x1.r]), (.agg #[.int .i64 x2.k, .int .i64 x2.p, .int .i64 x2.q, .string x2.s, .int .i64 x2.r]), .bool b, .int .i64 y]) ∧ DuoJ w0 w' E o r j i ∧ Chg (fun _ => False) w w' := by
  have h0 := h
  obtain ⟨M, a, m, a2, m2, S1, S2, h, h1, h2, h3⟩ := h
  refine (r_next h.ref ⟨by omega, by omega⟩ k).mono ?_
  rintro e w1 ⟨x1, x2, b, y, rfl, hc⟩
  exact ⟨x1, x2, b, y, rfl, h0.none_ hc, hc⟩
/-- Both tables just made. -/
theorem DuoJ.start {w1 w2 : World} (hT : Tab w1 (fun _ => False) w0.heap.size o 0 [] []) (hc1 : Chg (fun _ => False) w0 w1) (hR : RTab w2 (fun _ => False) w1.heap.size r [] []) (hc2 : Chg (fun _ => False) w1 w2) : DuoJ w0 w2 (fun _ => False) o r 0 0 := by
  obtain ⟨S1, g1, g2⟩ := hT.fix
  obtain ⟨S2, q1, q2⟩ := hR.fix
  have z1 := hc1.size
  have z2 := hc2.size
  refine ⟨0, [], [], [], [], S1, S2, ⟨g2 w2 _ hc2, q2 w2 _ (Chg.refl _ _), TInv.nil, TInv.nil, fun k e => ⟨(g1 k e).2.elim False.elim id, by have := (g1 k e).1; omega⟩, fun k e => ⟨(q1 k e).2.elim False.elim fun e => by omega, (q1 k e).1⟩, fun k e e2 => ?_, fun k e => e.elim, hc1.trans_same hc2⟩, Nat.zero_le _, ⟨Nat.le_refl _, Nat.le_refl _⟩, ⟨Nat.le_refl _, Nat.le_refl _⟩⟩
  have := (g1 k e).1
  exact (q1 k e2).2.elim False.elim fun e => by omega
end
end Go.Proofs.Ytoelgnjnbelokaa
