/-
  The calls on the two lists, each leaving the other as it is.
-/
import Derived.Test.YtpfopidmdnkkeaaWDoc3
import Derived.Test.YtpfopidmdnkkeaaListEq
namespace Go.Proofs.Ytpfopidmdnkkeaa
open Go.RowKit Go.Maps

/-- How long the trace of the error in flight may be. -/
def small (fl : Option Fl) : Prop := (fl.getD Fl.zero).tr.length ≤ 1000
section
variable {w w' : World} {S : Nat → Prop} {N o r M : Nat} {es es' : List En} {fl fl' : Option Fl}
theorem Two.weaken {S' : Nat → Prop} {N' : Nat} (h : Two w S' N' o r M es fl es' fl') (hS : ∀ k, S' k → S k ∨ N ≤ k) (hN : N ≤ N') : Two w S N o r M es fl es' fl' := by
  obtain ⟨ve, bm, vf, tv, n, D, vr, vv, tv', h⟩ := h
  exact ⟨ve, bm, vf, tv, n, D, vr, vv, tv', h.ow, h.dc, h.dis, fun k hk => (h.lo k hk).elim (hS k) fun h' => .inr (by omega), h.nn⟩
theorem Two.up (h : Two w S N o r M es fl es' fl') : Up es := by
  obtain ⟨ve, bm, vf, tv, n, D, vr, vv, tv', h⟩ := h
  exact h.ow.up
theorem One.up (h : One w S N o M es fl) : Up es := by
  obtain ⟨ve, bm, vf, tv, n, D, h1, h2, h3⟩ := h
  exact h1.up
theorem Two.one (h : Two w S N o r M es fl es' fl') : One w S N o M es fl := by
  obtain ⟨ve, bm, vf, tv, n, D, vr, vv, tv', h⟩ := h
  exact ⟨ve, bm, vf, tv, n, D, h.ow, fun k hk => h.lo k (.inl hk), h.nn⟩
/-! ### Push -/
theorem own_push {c bm n : Nat} {ve vf tv : Value} {D : DataW Unit} (h : OwnL w c ve bm vf tv n D es fl) (hn : es.length ≤ 1000) (hnn : n ≤ 100000) (reg : Int) (v : V) {e1 : Int} {es1 : List En} (hp : push es reg v = (e1, es1)) :
    Calls Try.prog 13 #[.pointer (some ⟨c, 0, none⟩), .int .i64 reg, (.agg #[.int .i64 v.k, .int .i64 v.p, .int .i64 v.q, .string v.s, .int .i64 v.r])] w fun e w' => e = .returned (.int .i64 e1) ∧ OwnPost w w' c ve bm vf tv n es1 fl := by
  by_cases hm : 0 ≤ reg ∧ reg ≤ 2147483647 ∧ vok v = true ∧ trueV v = true ∧ ¬ (0 < es.length ∧ reg ≤ (lastE es).r)
  · obtain ⟨a1, a2, a3, a4, a5⟩ := hm
    rw [push_main a1 a2 a3 a4 a5] at hp
    injection hp with h1 h2
    subst h1 h2
    exact own_push_main h reg v hn hnn a1 a2 a3 a4 a5
  · have h2 := push_early hm
    rw [hp] at h2
    obtain rfl : es1 = es := h2
    refine (own_push_early h reg v hn hm).mono fun e w' ⟨h1, hc⟩ => ⟨?_, OwnPost.same h hc⟩
    rw [h1, hp]
theorem doc_push {c : Nat} {vr vv tv : Value} (h : DocL w c vr vv tv es fl) (hn : es.length ≤ 1000) (reg : Int) (v : V) {e1 : Int} {es1 : List En} (hp : push es reg v = (e1, es1)) :
    Calls Try.prog 34 #[.pointer (some ⟨c, 0, none⟩), .int .i64 reg, (.agg #[.int .i64 v.k, .int .i64 v.p, .int .i64 v.q, .string v.s, .int .i64 v.r])] w fun e w' => e = .returned (.int .i64 e1) ∧ DocPost w w' c vr vv tv es1 fl := by
  by_cases hm : 0 ≤ reg ∧ reg ≤ 2147483647 ∧ vok v = true ∧ trueV v = true ∧ ¬ (0 < es.length ∧ reg ≤ (lastE es).r)
  · obtain ⟨a1, a2, a3, a4, a5⟩ := hm
    rw [push_main a1 a2 a3 a4 a5] at hp
    injection hp with h1 h2
    subst h1 h2
    exact doc_push_main h reg v hn a1 a2 a3 a4 a5
  · have h2 := push_early hm
    rw [hp] at h2
    obtain rfl : es1 = es := h2
    refine (doc_push_early h reg v hn hm).mono fun e w' ⟨h1, hc⟩ => ⟨?_, DocPost.same h hc⟩
    rw [h1, hp]
theorem own_pop {c bm n : Nat} {ve vf tv : Value} {D : DataW Unit} (h : OwnL w c ve bm vf tv n D es fl) (hn : es.length ≤ 1000) (reg : Int) {v1 : V} {b1 : Bool} {es1 : List En} (hp : pop es reg = (v1, b1, es1)) :
    Calls Try.prog 11 #[.pointer (some ⟨c, 0, none⟩), .int .i64 reg] w fun e w' => e = .returned (.tuple #[(.agg #[.int .i64 v1.k, .int .i64 v1.p, .int .i64 v1.q, .string v1.s, .int .i64 v1.r]), .bool b1]) ∧ OwnPost w w' c ve bm vf tv n es1 fl := by
  by_cases hm : es.length = 0 ∨ (lastE es).r < reg
  · rw [pop_no hm] at hp
    injection hp with h1 h2
    injection h2 with h2 h3
    subst h1 h2 h3
    exact (own_pop_no h reg hn hm).mono fun e w' ⟨h1, hc⟩ => ⟨h1, OwnPost.same h hc⟩
  · obtain ⟨m, hm'⟩ : ∃ m, es.length = m + 1 := ⟨es.length - 1, by omega⟩
    have hr : reg ≤ (enAt es m).r := by
      unfold lastE at hm
      rw [hm', Nat.add_sub_cancel] at hm
      omega
    rw [pop_yes hm' hr] at hp
    injection hp with h1 h2
    injection h2 with h2 h3
    subst h1 h2 h3
    exact own_pop_yes h reg hm' (by omega) hr
theorem doc_pop {c : Nat} {vr vv tv : Value} (h : DocL w c vr vv tv es fl) (hn : es.length ≤ 1000) (reg : Int) {v1 : V} {b1 : Bool} {es1 : List En} (hp : pop es reg = (v1, b1, es1)) :
    Calls Try.prog 35 #[.pointer (some ⟨c, 0, none⟩), .int .i64 reg] w fun e w' => e = .returned (.tuple #[(.agg #[.int .i64 v1.k, .int .i64 v1.p, .int .i64 v1.q, .string v1.s, .int .i64 v1.r]), .bool b1]) ∧ DocPost w w' c vr vv tv es1 fl := by
  by_cases hm : es.length = 0 ∨ (lastE es).r < reg
  · rw [pop_no hm] at hp
    injection hp with h1 h2
    injection h2 with h2 h3
    subst h1 h2 h3
    exact (doc_pop_no h reg hn hm).mono fun e w' ⟨h1, hc⟩ => ⟨h1, DocPost.same h hc⟩
  · obtain ⟨m, hm'⟩ : ∃ m, es.length = m + 1 := ⟨es.length - 1, by omega⟩
    have hr : reg ≤ (enAt es m).r := by
      unfold lastE at hm
      rw [hm', Nat.add_sub_cancel] at hm
      omega
    rw [pop_yes hm' hr] at hp
    injection hp with h1 h2
    injection h2 with h2 h3
    subst h1 h2 h3
    exact doc_pop_yes h reg hm' (by omega) hr
/-! ### On both -/
theorem p_push (h : Two w S N o r M es fl es' fl') (hN : N ≤ w.heap.size) (hn : es.length ≤ 1000) (hM : M ≤ 100000) (reg : Int) (v : V) {e1 : Int} {es1 : List En} (hp : push es reg v = (e1, es1)) :
    Calls Try.prog 13 #[.pointer (some ⟨o, 0, none⟩), .int .i64 reg, (.agg #[.int .i64 v.k, .int .i64 v.p, .int .i64 v.q, .string v.s, .int .i64 v.r])] w fun e w' => e = .returned (.int .i64 e1) ∧ Two w' S N o r (M + 1) es1 fl es' fl' ∧ Chg (fun k => S k ∨ N ≤ k) w w' := by
  obtain ⟨ve, bm, vf, tv, n, D, vr, vv, tv', h⟩ := h
  exact (own_push h.ow hn (Nat.le_trans h.nn hM) reg v hp).mono fun e w' ⟨h1, h2⟩ => ⟨h1, h.own_post hN h2⟩
theorem q_push (h : Two w S N o r M es fl es' fl') (hN : N ≤ w.heap.size) (hn : es'.length ≤ 1000) (reg : Int) (v : V) {e1 : Int} {es1 : List En} (hp : push es' reg v = (e1, es1)) :
    Calls Try.prog 34 #[.pointer (some ⟨r, 0, none⟩), .int .i64 reg, (.agg #[.int .i64 v.k, .int .i64 v.p, .int .i64 v.q, .string v.s, .int .i64 v.r])] w fun e w' => e = .returned (.int .i64 e1) ∧ Two w' S N o r M es fl es1 fl' ∧ Chg (fun k => S k ∨ N ≤ k) w w' := by
  obtain ⟨ve, bm, vf, tv, n, D, vr, vv, tv', h⟩ := h
  exact (doc_push h.dc hn reg v hp).mono fun e w' ⟨h1, h2⟩ => ⟨h1, h.doc_post hN h2⟩
theorem p_pop (h : Two w S N o r M es fl es' fl') (hN : N ≤ w.heap.size) (hn : es.length ≤ 1000) (reg : Int) {v1 : V} {b1 : Bool} {es1 : List En} (hp : pop es reg = (v1, b1, es1)) :
    Calls Try.prog 11 #[.pointer (some ⟨o, 0, none⟩), .int .i64 reg] w fun e w' => e = .returned (.tuple #[(.agg #[.int .i64 v1.k, .int .i64 v1.p, .int .i64 v1.q, .string v1.s, .int .i64 v1.r]), .bool b1]) ∧ Two w' S N o r (M + 1) es1 fl es' fl' ∧ Chg (fun k => S k ∨ N ≤ k) w w' := by
  obtain ⟨ve, bm, vf, tv, n, D, vr, vv, tv', h⟩ := h
  exact (own_pop h.ow hn reg hp).mono fun e w' ⟨h1, h2⟩ => ⟨h1, h.own_post hN h2⟩
theorem q_pop (h : Two w S N o r M es fl es' fl') (hN : N ≤ w.heap.size) (hn : es'.length ≤ 1000) (reg : Int) {v1 : V} {b1 : Bool} {es1 : List En} (hp : pop es' reg = (v1, b1, es1)) :
    Calls Try.prog 35 #[.pointer (some ⟨r, 0, none⟩), .int .i64 reg] w fun e w' => e = .returned (.tuple #[(.agg #[.int .i64 v1.k, .int .i64 v1.p, .int .i64 v1.q, .string v1.s, .int .i64 v1.r]), .bool b1]) ∧ Two w' S N o r M es fl es1 fl' ∧ Chg (fun k => S k ∨ N ≤ k) w w' := by
  obtain ⟨ve, bm, vf, tv, n, D, vr, vv, tv', h⟩ := h
  exact (doc_pop h.dc hn reg hp).mono fun e w' ⟨h1, h2⟩ => ⟨h1, h.doc_post hN h2⟩
theorem p_fail (h : Two w S N o r M es fl es' fl') (hN : N ≤ w.heap.size) (x : V) (A : Option Addr) (l : List Pl) (k : Nat) (hA : Rd w 3 A l.length (l.flatMap Pl.cs)) (hl : l.length ≤ 1000) :
    Calls Try.prog 10 #[.pointer (some ⟨o, 0, none⟩), .agg #[.int .i64 x.k, .int .i64 x.p, .int .i64 x.q, .string x.s, .int .i64 x.r, .slice A l.length k]] w fun e w' => e = .returned (.tuple #[]) ∧ Two w' S N o r (M + 1) es (some ⟨x, l⟩) es' fl' ∧ Chg (fun k => S k ∨ N ≤ k) w w' := by
  obtain ⟨ve, bm, vf, tv, n, D, vr, vv, tv', h⟩ := h
  exact (own_fail h.ow x A l k hA hl).mono fun e w' ⟨h1, h2⟩ => ⟨h1, h.own_post hN h2⟩
theorem q_fail (h : Two w S N o r M es fl es' fl') (hN : N ≤ w.heap.size) (x : V) (A : Option Addr) (l : List Pl) (k : Nat) (hA : Rd w 3 A l.length (l.flatMap Pl.cs)) (hl : l.length ≤ 1000) :
    Calls Try.prog 36 #[.pointer (some ⟨r, 0, none⟩), .agg #[.int .i64 x.k, .int .i64 x.p, .int .i64 x.q, .string x.s, .int .i64 x.r, .slice A l.length k]] w fun e w' => e = .returned (.tuple #[]) ∧ Two w' S N o r M es fl es' (some ⟨x, l⟩) ∧ Chg (fun k => S k ∨ N ≤ k) w w' := by
  obtain ⟨ve, bm, vf, tv, n, D, vr, vv, tv', h⟩ := h
  exact (doc_fail h.dc x A l k hA hl).mono fun e w' ⟨h1, h2⟩ => ⟨h1, h.doc_post hN h2⟩
theorem q_failure (h : Two w S N o r M es fl es' fl') {x : V} {b : Bool} {l : List Pl} (hx : failV fl' = x) (hb : fl'.isSome = b) (hm : (fl'.getD Fl.zero).tr = l) (hl : l.length ≤ 1000) :
    Calls Try.prog 37 #[.pointer (some ⟨r, 0, none⟩)] w fun e w' => ∃ A k, e = .returned (.tuple #[.agg #[.int .i64 x.k, .int .i64 x.p, .int .i64 x.q, .string x.s, .int .i64 x.r, .slice A l.length k], .bool b]) ∧ OwnR w w' 64 3 (.slice A l.length k) l.length (l.flatMap Pl.cs) ∧ Chg (fun _ => False) w w' := by
  obtain ⟨ve, bm, vf, tv, n, D, vr, vv, tv', h⟩ := h
  exact doc_failure h.dc hx hb hm hl
theorem q_args (h : Two w S N o r M es fl es' fl') (v : V) {x : V} (hx : failV fl' = x) :
    Calls Try.prog 38 #[.pointer (some ⟨r, 0, none⟩), (.agg #[.int .i64 v.k, .int .i64 v.p, .int .i64 v.q, .string v.s, .int .i64 v.r])] w fun e w' => ∃ A k, e = .returned (.slice A 2 k) ∧ OwnR w w' 25 5 (.slice A 2 k) 2 ([v, x].flatMap V.cs) ∧ Chg (fun _ => False) w w' := by
  obtain ⟨ve, bm, vf, tv, n, D, vr, vv, tv', h⟩ := h
  exact doc_args h.dc v hx
theorem q_len (h : Two w S N o r M es fl es' fl') {n : Nat} (hn : es'.length = n) : Calls Try.prog 23 #[.pointer (some ⟨r, 0, none⟩)] w fun e w' => e = .returned (.int .i64 n) ∧ w = w' := by
  subst hn
  obtain ⟨ve, bm, vf, tv, n, D, vr, vv, tv', h⟩ := h
  exact doc_len h.dc
theorem q_values (h : Two w S N o r M es fl es' fl') {n : Nat} (hn' : es'.length = n) (hn : n ≤ 1000) :
    Calls Try.prog 24 #[.pointer (some ⟨r, 0, none⟩)] w fun e w' => ∃ A k, e = .returned (.slice A n k) ∧ OwnR w w' 25 5 (.slice A n k) n ((valsOf es').flatMap V.cs) ∧ Chg (fun _ => False) w w' := by
  subst hn'
  obtain ⟨ve, bm, vf, tv, n, D, vr, vv, tv', h⟩ := h
  exact doc_values h.dc hn
/-! ### On the program's list alone -/
theorem o_push (h : One w S N o M es fl) (hN : N ≤ w.heap.size) (hn : es.length ≤ 1000) (hM : M ≤ 100000) (reg : Int) (v : V) {e1 : Int} {es1 : List En} (hp : push es reg v = (e1, es1)) :
    Calls Try.prog 13 #[.pointer (some ⟨o, 0, none⟩), .int .i64 reg, (.agg #[.int .i64 v.k, .int .i64 v.p, .int .i64 v.q, .string v.s, .int .i64 v.r])] w fun e w' => e = .returned (.int .i64 e1) ∧ One w' S N o (M + 1) es1 fl ∧ Chg (fun k => S k ∨ N ≤ k) w w' := by
  obtain ⟨ve, bm, vf, tv, n, D, h, h2, h3⟩ := h
  exact (own_push h hn (Nat.le_trans h3 hM) reg v hp).mono fun e w' ⟨h1, hp⟩ => ⟨h1, OwnL.one h2 h3 hN hp⟩
theorem o_pop (h : One w S N o M es fl) (hN : N ≤ w.heap.size) (hn : es.length ≤ 1000) (reg : Int) {v1 : V} {b1 : Bool} {es1 : List En} (hp : pop es reg = (v1, b1, es1)) :
    Calls Try.prog 11 #[.pointer (some ⟨o, 0, none⟩), .int .i64 reg] w fun e w' => e = .returned (.tuple #[(.agg #[.int .i64 v1.k, .int .i64 v1.p, .int .i64 v1.q, .string v1.s, .int .i64 v1.r]), .bool b1]) ∧ One w' S N o (M + 1) es1 fl ∧ Chg (fun k => S k ∨ N ≤ k) w w' := by
  obtain ⟨ve, bm, vf, tv, n, D, h, h2, h3⟩ := h
  exact (own_pop h hn reg hp).mono fun e w' ⟨h1, hp⟩ => ⟨h1, OwnL.one h2 h3 hN hp⟩
theorem o_fail (h : One w S N o M es fl) (hN : N ≤ w.heap.size) (x : V) (A : Option Addr) (l : List Pl) (k : Nat) (hA : Rd w 3 A l.length (l.flatMap Pl.cs)) (hl : l.length ≤ 1000) :
    Calls Try.prog 10 #[.pointer (some ⟨o, 0, none⟩), .agg #[.int .i64 x.k, .int .i64 x.p, .int .i64 x.q, .string x.s, .int .i64 x.r, .slice A l.length k]] w fun e w' => e = .returned (.tuple #[]) ∧ One w' S N o (M + 1) es (some ⟨x, l⟩) ∧ Chg (fun k => S k ∨ N ≤ k) w w' := by
  obtain ⟨ve, bm, vf, tv, n, D, h, h2, h3⟩ := h
  exact (own_fail h x A l k hA hl).mono fun e w' ⟨h1, hp⟩ => ⟨h1, OwnL.one h2 h3 hN hp⟩
theorem o_failure (h : One w S N o M es fl) {x : V} {b : Bool} {l : List Pl} (hx : failV fl = x) (hb : fl.isSome = b) (hm : (fl.getD Fl.zero).tr = l) (hl : l.length ≤ 1000) :
    Calls Try.prog 12 #[.pointer (some ⟨o, 0, none⟩)] w fun e w' => ∃ A k, e = .returned (.tuple #[.agg #[.int .i64 x.k, .int .i64 x.p, .int .i64 x.q, .string x.s, .int .i64 x.r, .slice A l.length k], .bool b]) ∧ OwnR w w' 64 3 (.slice A l.length k) l.length (l.flatMap Pl.cs) ∧ Chg (fun _ => False) w w' := by
  obtain ⟨ve, bm, vf, tv, n, D, h, h2, h3⟩ := h
  exact own_failure h hx hb hm hl
theorem o_args (h : One w S N o M es fl) (v : V) {x : V} (hx : failV fl = x) :
    Calls Try.prog 16 #[.pointer (some ⟨o, 0, none⟩), (.agg #[.int .i64 v.k, .int .i64 v.p, .int .i64 v.q, .string v.s, .int .i64 v.r])] w fun e w' => ∃ A k, e = .returned (.slice A 2 k) ∧ OwnR w w' 25 5 (.slice A 2 k) 2 ([v, x].flatMap V.cs) ∧ Chg (fun _ => False) w w' := by
  obtain ⟨ve, bm, vf, tv, n, D, h, h2, h3⟩ := h
  exact own_args h v hx
theorem o_len (h : One w S N o M es fl) {n : Nat} (hn : es.length = n) : Calls Try.prog 14 #[.pointer (some ⟨o, 0, none⟩)] w fun e w' => e = .returned (.int .i64 n) ∧ w = w' := by
  subst hn
  obtain ⟨ve, bm, vf, tv, n, D, h, h2, h3⟩ := h
  exact own_len h
theorem o_values (h : One w S N o M es fl) {n : Nat} (hn' : es.length = n) (hn : n ≤ 1000) :
    Calls Try.prog 15 #[.pointer (some ⟨o, 0, none⟩)] w fun e w' => ∃ A k, e = .returned (.slice A n k) ∧ OwnR w w' 25 5 (.slice A n k) n ((valsOf es).flatMap V.cs) ∧ Chg (fun _ => False) w w' := by
  subst hn'
  obtain ⟨ve, bm, vf, tv, n, D, h, h2, h3⟩ := h
  exact own_values h hn
/-- Two rows of values, compared. -/
theorem values_own {A A' : Option Addr} {n m k k' : Nat} {rs rs' : List V} (hn : rs.length = n) (hm : rs'.length = m) (hA : w.ownsRow 0 25 5 (.slice A n k) n (rs.flatMap V.cs)) (hA' : w.ownsRow 0 25 5 (.slice A' m k') m (rs'.flatMap V.cs)) (h1 : n ≤ 1000000) (h2 : m ≤ 1000000) {b : Bool} (hb : decide (rs = rs') = b) :
    Calls Try.prog 18 #[.slice A n k, .slice A' m k'] w fun e w' => e = .returned (.bool b) ∧ Chg (fun _ => False) w w' := by
  subst hn hm hb
  exact values_eq w A A' rs rs' k k' (Rd.of_own hA) (Rd.of_own hA') h1 h2
/-- Both new. -/
theorem docs_new (h : One w S N o M es fl) (hN : N ≤ w.heap.size) :
    Calls Try.prog 21 #[] w fun e w' => ∃ r, e = .returned (.pointer (some ⟨r, 0, none⟩)) ∧ Two w' S N o r M es fl [] none ∧ Chg (fun _ => False) w w' := by
  obtain ⟨ve, bm, vf, tv, n, D, h, h2, h3⟩ := h
  refine (doc_new w).mono fun e w' ⟨h1, hd, hc⟩ => ⟨w.heap.size, h1, ⟨ve, bm, vf, tv, n, D, _, _, _, h.none_ hc, hd, fun k hk hk' => ?_, fun k hk => ?_, h3⟩, hc⟩
  · have := h.lt hk
    rcases hk' with e | e | e | e
    · omega
    · simp [Value.ownBlock] at e
    · simp [Value.ownBlock] at e
    · simp [Value.ownBlock] at e
  · rcases hk with hk | hk
    · exact h2 k hk
    · rcases hk with e | e | e | e
      · exact .inr (by omega)
      · simp [Value.ownBlock] at e
      · simp [Value.ownBlock] at e
      · simp [Value.ownBlock] at e
end
end Go.Proofs.Ytpfopidmdnkkeaa
