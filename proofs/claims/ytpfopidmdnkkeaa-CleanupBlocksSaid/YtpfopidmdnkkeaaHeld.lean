/-
  What a law holds between its calls: the two lists, a row of values beside them, and that nothing of before has changed.
-/
import Derived.Test.YtpfopidmdnkkeaaRunsW
namespace Go.Proofs.Ytpfopidmdnkkeaa
open Go.RowKit Go.Maps

structure Held (w0 wr : World) (S : Nat → Prop) (N o r M : Nat) (es : List En) (fl : Option Fl) (es' : List En) (fl' : Option Fl) (s : Value) (n : Nat) (rs : List V) : Prop where
  two : Two wr S N o r M es fl es' fl'
  row : wr.ownsRow 0 25 5 s n (rs.flatMap V.cs)
  out : ∀ k, s.ownBlock = some k → ¬ S k ∧ k < N
  hN : N ≤ wr.heap.size
  chg : Chg (fun _ => False) w0 wr
  lo : ∀ k, S k ∨ N ≤ k → w0.heap.size ≤ k
section
variable {w0 wr w' : World} {S : Nat → Prop} {N o r M n : Nat} {es es' es1 : List En} {fl fl' fl1 : Option Fl} {s : Value} {rs : List V}
theorem Held.none_ (h : Held w0 wr S N o r M es fl es' fl' s n rs) (hc : Chg (fun _ => False) wr w') : Held w0 w' S N o r M es fl es' fl' s n rs :=
  ⟨h.two.none_ hc, own_chg h.row hc fun _ _ h => h, h.out, Nat.le_trans h.hN hc.size, h.chg.trans_same hc, h.lo⟩
theorem Held.alloc (h : Held w0 wr S N o r M es fl es' fl' s n rs) (ob : Obj) : Held w0 (wr.alloc ob) S N o r M es fl es' fl' s n rs := h.none_ ((Chg.refl _ wr).alloc ob)
theorem Held.drew (h : Held w0 wr S N o r M es fl es' fl' s n rs) : Held w0 wr.drew S N o r M es fl es' fl' s n rs := h.none_ ((Chg.refl _ wr).drew)
theorem Held.post {M' : Nat} {es2 : List En} {fl2 : Option Fl} (h : Held w0 wr S N o r M es fl es' fl' s n rs) (hT : Two w' S N o r M' es1 fl1 es2 fl2) (hc : Chg (fun k => S k ∨ N ≤ k) wr w') : Held w0 w' S N o r M' es1 fl1 es2 fl2 s n rs :=
  ⟨hT, own_chg h.row hc fun k hk e => by
    have := h.out k hk
    rcases e with e | e
    · exact this.1 e
    · omega, h.out, Nat.le_trans h.hN hc.size, h.chg.trans hc fun k hk e => by have := h.lo k e; omega, h.lo⟩
theorem Held.below (h : Held w0 wr S N o r M es fl es' fl' s n rs) : Below w0.heap.size w0 wr := none_below h.chg
/-- A row that the law has been given beside its lists. -/
theorem Held.start {w1 w2 : World} {A : Option Addr} {k : Nat} (hT : Two w1 (fun _ => False) w0.heap.size o r M es fl es' fl') (hC : Chg (fun _ => False) w0 w1) (hR : OwnR w1 w2 25 5 (.slice A n k) n (rs.flatMap V.cs)) (hc : Chg (fun _ => False) w1 w2) :
    ∃ S, Held w0 w2 S w2.heap.size o r M es fl es' fl' (.slice A n k) n rs := by
  obtain ⟨S, hS, hfix⟩ := hT.fix
  refine ⟨S, hfix w2 w2.heap.size hc, hR.own, fun k hk => ⟨fun e => ?_, own_lt hR.own hk⟩, Nat.le_refl _, hC.trans_same hc, fun k hk => ?_⟩
  · have := hR.lo k hk
    have := (hS k e).1
    omega
  · rcases hk with e | e
    · exact (hS k e).2.elim False.elim id
    · have := hC.size
      have := hc.size
      omega
/-- Lists without a row. -/
theorem Held.bare {w1 : World} (hT : Two w1 (fun _ => False) w0.heap.size o r M es fl es' fl') (hC : Chg (fun _ => False) w0 w1) : Held w0 w1 (fun _ => False) w0.heap.size o r M es fl es' fl' (.slice none 0 0) 0 [] :=
  ⟨hT, (OwnR.nil w1 w1 25 5).own, fun k hk => by simp [Value.ownBlock] at hk, hC.size, hC, fun k hk => hk.elim False.elim id⟩
theorem p_fail_eq (h : Two wr S N o r M es fl es' fl') (hN : N ≤ wr.heap.size) (x : V) (A : Option Addr) (l : List Pl) (k : Nat) {m : Nat} (hm : l.length = m) (hA : Rd wr 3 A l.length (l.flatMap Pl.cs)) (hl : m ≤ 1000) :
    Calls Try.prog 10 #[.pointer (some ⟨o, 0, none⟩), .agg #[.int .i64 x.k, .int .i64 x.p, .int .i64 x.q, .string x.s, .int .i64 x.r, .slice A m k]] wr fun e w' => e = .returned (.tuple #[]) ∧ Two w' S N o r (M + 1) es (some ⟨x, l⟩) es' fl' ∧ Chg (fun k => S k ∨ N ≤ k) wr w' := by
  subst hm
  exact p_fail h hN x A l k hA hl
/-- The registers of the document's list. -/
theorem Two.regs (h : Two wr S N o r M es fl es' fl') (hn : es'.length = n) : ∃ A cap, wr.cell? ⟨r, 0, none⟩ = some (.slice A n cap) ∧ ∀ i, i < n → ∃ b, A = some ⟨b, 0, none⟩ ∧ b < wr.heap.size ∧ wr.cell? ⟨b, i, none⟩ = some (.int .i64 (enAt es' i).r) := by
  subst hn
  obtain ⟨ve, bm, vf, tv, n, D, vr, vv, tv', h⟩ := h
  obtain ⟨A, cap, hve, _⟩ := own_form h.dc.reg
  subst hve
  exact ⟨A, cap, h.dc.blk.cell 0, fun i hi => Reg.at_ h.dc.reg hi⟩
theorem Two.rlt (h : Two wr S N o r M es fl es' fl') : r < wr.heap.size := by
  obtain ⟨ve, bm, vf, tv, n, D, vr, vv, tv', h⟩ := h
  exact h.dc.blk.lt
/-- A value of the row. -/
theorem Held.at_ {A : Option Addr} {k : Nat} (h : Held w0 wr S N o r M es fl es' fl' (.slice A n k) n rs) (hn : rs.length = n) {i : Nat} (hi : i < n) : ∃ b, A = some ⟨b, 0, none⟩ ∧ b < wr.heap.size ∧ ¬ S b ∧ b < N ∧
    wr.cell? ⟨b, i * 5, none⟩ = some (.int .i64 (vAt rs i).k) ∧ wr.cell? ⟨b, i * 5 + 1, none⟩ = some (.int .i64 (vAt rs i).p) ∧ wr.cell? ⟨b, i * 5 + 2, none⟩ = some (.int .i64 (vAt rs i).q) ∧
    wr.cell? ⟨b, i * 5 + 3, none⟩ = some (.string (vAt rs i).s) ∧ wr.cell? ⟨b, i * 5 + 4, none⟩ = some (.int .i64 (vAt rs i).r) := by
  subst hn
  obtain ⟨A', cap', e1, _, _, hA, -⟩ := own_form h.row
  injection e1 with e1 _ e3
  subst e1; subst e3
  obtain ⟨b, rfl⟩ := hA (by omega)
  have hr : Vs wr (some ⟨b, 0, none⟩) rs := Rd.of_own h.row
  obtain ⟨b', o', e2, hb, x⟩ := hr.at_ hi
  injection e2 with e2
  injection e2 with e2 e3
  subst e2; subst e3
  exact ⟨b, rfl, hb, (h.out b rfl).1, (h.out b rfl).2, by simpa using x⟩
theorem Held.cap {A : Option Addr} {k : Nat} (h : Held w0 wr S N o r M es fl es' fl' (.slice A n k) n rs) : n ≤ k := by
  obtain ⟨A', cap', e1, h1, _⟩ := own_form h.row
  injection e1 with _ _ e3
  omega
/-- The front of the row. -/
theorem Held.front {A : Option Addr} {k m : Nat} (h : Held w0 wr S N o r M es fl es' fl' (.slice A n k) n rs) (hm : m ≤ n) : wr.ownsRow 0 25 5 (.slice A m k) m ((rs.take m).flatMap V.cs) :=
  own_take h.row hm _ (flat_takeV rs m)
end
/-- Popping the front of a list. -/
theorem pop_take_yes {es : List En} {reg : Int} {m : Nat} (hm : m < es.length) (h : reg ≤ (enAt es m).r) : pop (es.take (m + 1)) reg = ((enAt es m).v, true, es.take m) := by
  rw [pop_yes (n := m) (by rw [List.length_take]; omega) (by rw [enAt_take (by omega)]; exact h), enAt_take (by omega), List.take_take, Nat.min_eq_left (by omega)]
theorem pop_take_no {es : List En} {reg : Int} {m : Nat} (hm : m ≤ es.length) (h : m = 0 ∨ ∃ i, m = i + 1 ∧ (enAt es i).r < reg) : pop (es.take m) reg = (V.zero, false, es.take m) := by
  have hl : (es.take m).length = m := by rw [List.length_take]; omega
  refine pop_no ?_
  rcases h with rfl | ⟨i, rfl, hi⟩
  · exact .inl hl
  · right
    unfold lastE
    rw [hl, Nat.add_sub_cancel, enAt_take (by omega)]
    exact hi
end Go.Proofs.Ytpfopidmdnkkeaa
