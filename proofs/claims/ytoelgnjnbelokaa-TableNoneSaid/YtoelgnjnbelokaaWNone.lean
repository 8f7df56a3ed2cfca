/-
  TableNone: the walk.
-/
import Derived.Test.YtoelgnjnbelokaaRMade
namespace Go.Proofs.Ytoelgnjnbelokaa
open Go.RowKit Go.Maps Go.ChangeShapes Go.WideShapes Go.ChangeAt

theorem n_get (w : World) (k : V) : Calls Try.prog 13 #[.pointer none, (.agg #[.int .i64 k.k, .int .i64 k.p, .int .i64 k.q, .string k.s, .int .i64 k.r])] w fun e w' => e = .returned (.agg #[.int .i64 0, .int .i64 0, .int .i64 0, .string ⟨#[]⟩, .int .i64 0]) ∧ Chg (fun _ => False) w w' := t_get_nil w k
theorem n_next (w : World) (k : V) : Calls Try.prog 11 #[.pointer none, (.agg #[.int .i64 k.k, .int .i64 k.p, .int .i64 k.q, .string k.s, .int .i64 k.r])] w fun e w' => e = .returned (.tuple #[(.agg #[.int .i64 0, .int .i64 0, .int .i64 0, .string ⟨#[]⟩, .int .i64 0]), (.agg #[.int .i64 0, .int .i64 0, .int .i64 0, .string ⟨#[]⟩, .int .i64 0]), .bool false, .int .i64 1]) ∧ Chg (fun _ => False) w w' := t_next_nil w k
theorem n_remove (w : World) (i : Int) : Calls Try.prog 12 #[.pointer none, .int .i64 i] w fun e w' => e = .returned (.tuple #[(.agg #[.int .i64 0, .int .i64 0, .int .i64 0, .string ⟨#[]⟩, .int .i64 0]), .int .i64 1]) ∧ Chg (fun _ => False) w w' := t_remove_nil w i
section
variable {w w' w0 : World} {S1 S2 : Nat → Prop} {N o p M M2 : Nat} {a a2 : List V} {m m2 : List Sl}
theorem Tab.keep {T : Nat → Prop} (h : Tab w S1 w.heap.size o M a m) (hc : Chg T w w') (hT : ∀ k, S1 k → ¬ T k) : Tab w' S1 w'.heap.size o M a m := by
  obtain ⟨S', g1, g2⟩ := h.fix
  have h1 : ∀ k, S' k → S1 k := fun k e => (g1 k e).2.elim id fun e2 => by have := (g1 k e).1; omega
  have h2 := (g2 w w'.heap.size (Chg.refl _ _)).chg hc fun k hk e => e.elim (fun e => hT k (h1 k e)) fun e => by have := hc.size; omega
  exact h2.weaken (fun k e => .inl (h1 k e)) (Nat.le_refl _)
/-- The script's table and another. -/
structure TwoT (w0 w : World) (S1 S2 : Nat → Prop) (N o p M M2 : Nat) (a : List V) (m : List Sl) (a2 : List V) (m2 : List Sl) : Prop where
  t1 : Tab w S1 w.heap.size o M a m
  t2 : Tab w S2 N p M2 a2 m2
  dis : ∀ k, S1 k → ¬ S2 k ∧ k < N
  lo : ∀ k, S2 k → w0.heap.size ≤ k
  lo2 : w0.heap.size ≤ N
  sz : N ≤ w.heap.size
  chg : Chg (fun _ => False) w0 w
theorem TwoT.none_ (h : TwoT w0 w S1 S2 N o p M M2 a m a2 m2) (hc : Chg (fun _ => False) w w') : TwoT w0 w' S1 S2 N o p M M2 a m a2 m2 :=
  ⟨h.t1.keep hc fun _ _ e => e, h.t2.none_ hc, h.dis, h.lo, h.lo2, Nat.le_trans h.sz hc.size, h.chg.trans_same hc⟩
theorem TwoT.set (h : TwoT w0 w S1 S2 N o p M M2 a m a2 m2) (hb : a2.length + m2.length ≤ 300) (hM : M2 ≤ 100000000) {k v : V} (hk : k.wf) :
    Calls Try.prog 14 #[.pointer (some ⟨p, 0, none⟩), (.agg #[.int .i64 k.k, .int .i64 k.p, .int .i64 k.q, .string k.s, .int .i64 k.r]), (.agg #[.int .i64 v.k, .int .i64 v.p, .int .i64 v.q, .string v.s, .int .i64 v.r])] w fun e w' => ∃ (x : Int) (a3 : List V) (m3 : List Sl), e = .returned (.int .i64 x) ∧ SetR a2 m2 k v x a3 m3 ∧ TwoT w0 w' S1 S2 N o p M (M2 + 400000) a m a3 m3 := by
  refine (t_set h.t2 h.sz (by omega) (by omega) hM hk).mono ?_
  rintro e w1 ⟨x, a', m', rfl, h1, h2, h3⟩
  refine ⟨x, a', m', rfl, h1, h.t1.keep h3 fun k e e2 => ?_, h2, h.dis, h.lo, h.lo2, Nat.le_trans h.sz h3.size, h.chg.trans h3 fun k hk e => ?_⟩
  · rcases e2 with e2 | e2
    · exact (h.dis k e).1 e2
    · have := (h.dis k e).2; omega
  · rcases e with e | e
    · have := h.lo k e; omega
    · have := h.lo2; omega
/-- What the law's end needs of the two. -/
def NoneE (w0 w : World) (o p q s n : Nat) : Prop := ∃ S1 S2 N M M2 a m a2 m2, TwoT w0 w S1 S2 N o p M M2 a m a2 m2 ∧ (a.length = q ∧ m.length = s ∧ nOf m + cntV a = n ∧ q ≤ 1000 ∧ s ≤ 1000) ∧ a2.length ≤ 1000000 ∧ getT a2 m2 (kI 1) = kI 1
theorem NoneE.none_ {q s n : Nat} (h : NoneE w0 w o p q s n) (hc : Chg (fun _ => False) w w') : NoneE w0 w' o p q s n := by
  obtain ⟨S1, S2, N, M, M2, a, m, a2, m2, h1, h2⟩ := h
  exact ⟨S1, S2, N, M, M2, a, m, a2, m2, h1.none_ hc, h2⟩
theorem NoneE.count {q s n : Nat} (h : NoneE w0 w o p q s n) : Calls Try.prog 18 #[.pointer (some ⟨o, 0, none⟩)] w fun e w' => e = .returned (.int .i64 n) ∧ Chg (fun _ => False) w w' := by
  obtain ⟨S1, S2, N, M, M2, a, m, a2, m2, h1, h2, -⟩ := h
  exact t_count h1.t1 (by omega) h2.2.2.1
theorem NoneE.size {q s n : Nat} (h : NoneE w0 w o p q s n) : Calls Try.prog 19 #[.pointer (some ⟨o, 0, none⟩)] w fun e w' => e = .returned (.int .i64 ((4 + 2 * q + 4 * s : Nat) : Int)) ∧ Chg (fun _ => False) w w' := by
  obtain ⟨S1, S2, N, M, M2, a, m, a2, m2, h1, h2, -⟩ := h
  exact t_size h1.t1 h2.1 h2.2.1 (by omega)
theorem NoneE.get {q s n : Nat} (h : NoneE w0 w o p q s n) : Calls Try.prog 13 #[.pointer (some ⟨p, 0, none⟩), .agg #[.int .i64 2, .int .i64 1, .int .i64 1, .string ⟨#[]⟩, .int .i64 0]] w fun e w' => e = .returned (.agg #[.int .i64 2, .int .i64 1, .int .i64 1, .string ⟨#[]⟩, .int .i64 0]) ∧ Chg (fun _ => False) w w' := by
  obtain ⟨S1, S2, N, M, M2, a, m, a2, m2, h1, h2, h3, h4⟩ := h
  exact t_get h1.t2 h3 (kI_wf (n := 1) (by omega) (by omega)) h4
/-- Before the second Set. -/
def NoneD (w0 w : World) (o p q s n : Nat) : Prop := ∃ S1 S2 N M M2 a m a2 m2, TwoT w0 w S1 S2 N o p M M2 a m a2 m2 ∧ (a.length = q ∧ m.length = s ∧ nOf m + cntV a = n ∧ q ≤ 1000 ∧ s ≤ 1000) ∧ (a2.length + nOf m2 ≤ 1 ∧ m2.length ≤ 1 ∧ M2 ≤ 400000) ∧ TInv a2 m2
theorem NoneD.none_ {q s n : Nat} (h : NoneD w0 w o p q s n) (hc : Chg (fun _ => False) w w') : NoneD w0 w' o p q s n := by
  obtain ⟨S1, S2, N, M, M2, a, m, a2, m2, h1, h2⟩ := h
  exact ⟨S1, S2, N, M, M2, a, m, a2, m2, h1.none_ hc, h2⟩
theorem NoneD.set {q s n : Nat} (h : NoneD w0 w o p q s n) : Calls Try.prog 14 #[.pointer (some ⟨p, 0, none⟩), .agg #[.int .i64 2, .int .i64 1, .int .i64 1, .string ⟨#[]⟩, .int .i64 0], .agg #[.int .i64 2, .int .i64 1, .int .i64 1, .string ⟨#[]⟩, .int .i64 0]] w fun e w' => ∃ x : Int, e = .returned (.int .i64 x) ∧ NoneE w0 w' o p q s n := by
  obtain ⟨S1, S2, N, M, M2, a, m, a2, m2, h1, h2, h3, h4⟩ := h
  refine (h1.set (by omega) (by omega) (k := kI 1) (v := kI 1) (kI_wf (by omega) (by omega))).mono ?_
  rintro e w1 ⟨x, a3, m3, rfl, g1, g2⟩
  refine ⟨x, rfl, S1, S2, N, M, _, a, m, a3, m3, g2, h2, g1.bnd h4 (by omega), ?_⟩
  rw [g1.get h4 (by omega)]
  rcases g1.err (by omega) with ⟨e, -⟩ | ⟨-, e, -⟩ | ⟨-, -, e⟩
  · exact absurd e (kI_good (by omega) (by omega))
  · rw [(isI_kI (n := 1) (by omega) (by omega)).2] at e; cases e
  · rw [if_pos ⟨e, rfl⟩]
/-- Both tables as they are made. -/
def NoneC (w0 w : World) (o p q s n : Nat) : Prop := ∃ S1 S2 N M a m, TwoT w0 w S1 S2 N o p M 0 a m [] [] ∧ (a.length = q ∧ m.length = s ∧ nOf m + cntV a = n ∧ q ≤ 1000 ∧ s ≤ 1000)
theorem NoneC.none_ {q s n : Nat} (h : NoneC w0 w o p q s n) (hc : Chg (fun _ => False) w w') : NoneC w0 w' o p q s n := by
  obtain ⟨S1, S2, N, M, a, m, h1, h2⟩ := h
  exact ⟨S1, S2, N, M, a, m, h1.none_ hc, h2⟩
theorem NoneC.count {q s n : Nat} (h : NoneC w0 w o p q s n) : Calls Try.prog 18 #[.pointer (some ⟨o, 0, none⟩)] w fun e w' => e = .returned (.int .i64 n) ∧ Chg (fun _ => False) w w' := by
  obtain ⟨S1, S2, N, M, a, m, h1, h2⟩ := h
  exact t_count h1.t1 (by omega) h2.2.2.1
theorem NoneC.size {q s n : Nat} (h : NoneC w0 w o p q s n) : Calls Try.prog 19 #[.pointer (some ⟨o, 0, none⟩)] w fun e w' => e = .returned (.int .i64 ((4 + 2 * q + 4 * s : Nat) : Int)) ∧ Chg (fun _ => False) w w' := by
  obtain ⟨S1, S2, N, M, a, m, h1, h2⟩ := h
  exact t_size h1.t1 h2.1 h2.2.1 (by omega)
theorem NoneC.set {q s n : Nat} (h : NoneC w0 w o p q s n) {k v : V} (hk : k.wf) : Calls Try.prog 14 #[.pointer (some ⟨p, 0, none⟩), (.agg #[.int .i64 k.k, .int .i64 k.p, .int .i64 k.q, .string k.s, .int .i64 k.r]), (.agg #[.int .i64 v.k, .int .i64 v.p, .int .i64 v.q, .string v.s, .int .i64 v.r])] w fun e w' => ∃ x : Int, e = .returned (.int .i64 x) ∧ NoneD w0 w' o p q s n := by
  obtain ⟨S1, S2, N, M, a, m, h1, h2⟩ := h
  refine (h1.set (by simp) (by omega) hk).mono ?_
  rintro e w1 ⟨x, a3, m3, rfl, g1, g2⟩
  have hl := g1.len Inv.nil (by simp)
  have hl1 : a3.length + nOf m3 ≤ 1 ∧ m3.length ≤ 1 := by simpa [nOf, liveL] using hl
  exact ⟨x, rfl, S1, S2, N, M, _, a, m, a3, m3, g2, h2, ⟨hl1.1, hl1.2, by omega⟩, (g1.law TInv.nil (by simp) (by omega)).1⟩
theorem NoneC.start {j : Nat} {w1 w2 : World} (h : MadeT w0 w1 o j) (hj : j ≤ 200) (hT : Tab w2 (fun _ => False) w1.heap.size p 0 [] []) (hc : Chg (fun _ => False) w1 w2) : ∃ q s n, NoneC w0 w2 o p q s n := by
  obtain ⟨a, m, h1, h2, h3, h4⟩ := h
  obtain ⟨S1, g1, g2⟩ := h1.fix
  obtain ⟨S2, q1, q2⟩ := hT.fix
  have z1 := h4.size
  have z2 := hc.size
  exact ⟨_, _, _, S1, S2, w2.heap.size, _, a, m, ⟨g2 w2 _ hc, q2 w2 _ (Chg.refl _ _), fun k e => ⟨fun e2 => by
    have := (g1 k e).1
    exact (q1 k e2).2.elim False.elim fun e => by omega, by have := (g1 k e).1; omega⟩, fun k e => (q1 k e).2.elim False.elim fun e => by omega, by omega, Nat.le_refl _, h4.trans_same hc⟩, rfl, rfl, rfl, by omega, by omega⟩
end
theorem open_op {H : Type} {enc : TypeId × Value → H} {W : World} {base : Nat} {v : Value} {d : DataW H} {p : List MemPlace} (hval : Value.okWide Try.prog W .any base 28 v) (h : DataW.Trod enc Try.prog W 0 (fun _ => true) true 28 v d p) :
    ∃ x : OpV, v = .agg #[.int .i64 x.kd, .int .i64 x.at_, .int .i64 x.k.k, .int .i64 x.k.p, .int .i64 x.k.q, .string x.k.s, .int .i64 x.k.r, .int .i64 x.v.k, .int .i64 x.v.p, .int .i64 x.v.q, .string x.v.s, .int .i64 x.v.r] ∧ (x.k.wf ∧ x.v.wf) := by
  obtain ⟨cs, rfl, _⟩ := okWide_struct Try.underlying28 hval
  obtain ⟨fuel, hf⟩ := h
  obtain ⟨x, hx⟩ := trod_op hf
  refine ⟨x.1, ?_, x.2⟩
  simp only [Value.cells] at hx
  cases cs
  simp only at hx
  rw [hx]; rfl
set_option maxRecDepth 100000 in
theorem none_big (w : World) (A : Option Addr) (q lk : Nat) (x : OpV) (hbad : 200 < q) :
    Calls Try.prog 3 #[.slice A q lk, .agg #[.int .i64 x.kd, .int .i64 x.at_, .int .i64 x.k.k, .int .i64 x.k.p, .int .i64 x.k.q, .string x.k.s, .int .i64 x.k.r, .int .i64 x.v.k, .int .i64 x.v.p, .int .i64 x.v.q, .string x.v.s, .int .i64 x.v.r]] w fun e w' => e = .returned (.bool true) ∧ Below w.heap.size w w' := by
  have ht : decide (200 < q) = true := decide_eq_true hbad
  have hC0 := hid ((Chg.refl (fun _ => False) w).alloc (.cells x.cs.toArray 28))
  clear hbad
  go_enter Try.func3, Try.ntmps3
  go_wp2_with fail
  refine (t_large _ A q lk).mono ?_
  rintro e w1 ⟨rfl, hw⟩
  subst hw
  rw [ht]
  go_wp2_with fail
  refine (awake_true _).mono ?_
  rintro e w3 ⟨rfl, hc3⟩
  have fin := hid (none_below (hC0.out.trans_same hc3))
  clear hc3
  go_wp2_with fail
  go_ret
  exact ⟨rfl, fin.out⟩
set_option maxRecDepth 100000 in
set_option maxHeartbeats 16000000 in
theorem none_true (w : World) (A : Option Addr) (l : List OpV) (lk : Nat) (x : OpV) (hl : OpsRd w A l) (hx : x.k.wf ∧ x.v.wf) :
    Calls Try.prog 3 #[.slice A l.length lk, .agg #[.int .i64 x.kd, .int .i64 x.at_, .int .i64 x.k.k, .int .i64 x.k.p, .int .i64 x.k.q, .string x.k.s, .int .i64 x.k.r, .int .i64 x.v.k, .int .i64 x.v.p, .int .i64 x.v.q, .string x.v.s, .int .i64 x.v.r]] w fun e w' => e = .returned (.bool true) ∧ Below w.heap.size w w' := by
  by_cases hbad : 200 < l.length
  · exact none_big w A l.length lk x hbad
  have hC0 := hid ((Chg.refl (fun _ => False) w).alloc (.cells x.cs.toArray 28))
  have hX0 := hid (Bk.new w 28 x.cs)
  have hlh := hid hl
  have hxk := hid hx.1
  have hl200 := hid (show l.length ≤ 200 by omega)
  obtain ⟨lim, hlim⟩ : ∃ lim, Hid (l.length = lim) := ⟨_, hid rfl⟩
  rw [hlim.out] at hbad
  have ht : decide (200 < lim) = false := decide_eq_false (by omega)
  clear hbad hl hx
  rw [hlim.out]
  go_enter Try.func3, Try.ntmps3
  go_wp2_with fail
  refine (t_large _ A lim lk).mono ?_
  rintro e w1 ⟨rfl, hw⟩
  subst hw
  rw [ht]
  go_wp2_with fail
  refine (n_next _ x.k).mono ?_
  rintro e w1 ⟨rfl, hc⟩
  have hX1 := hid (hX0.out.none_ hc)
  have hC1 := hid (hC0.out.trans_same hc)
  obtain ⟨y0, y1, y2, y3, y4, y5, y6, y7, y8, y9, y10, y11⟩ := OpV.box12 hX1.out
  have hyl := hX1.out.lt
  clear hc hX0 hC0
  go_wp2_with fail
  refine (n_remove _ x.at_).mono ?_
  rintro e w2 ⟨rfl, hc⟩
  have hX2 := hid (((hX1.out.alloc _).alloc _).none_ hc)
  have hC2 := hid (((hC1.out.alloc _).alloc _).trans_same hc)
  clear y0 y1 y2 y3 y4 y5 y6 y7 y8 y9 y10 y11 hyl
  obtain ⟨y0, y1, y2, y3, y4, y5, y6, y7, y8, y9, y10, y11⟩ := OpV.box12 hX2.out
  have hyl := hX2.out.lt
  have hZ2 := hid (Bk.new w2 26 V.zero.cs)
  obtain ⟨b2, hb2⟩ : ∃ b2, Hid (w2.heap.size = b2) := ⟨_, hid rfl⟩
  rw [hb2.out] at hZ2
  clear hc hX1 hC1
  go_wp2_with fail
  refine (n_get _ x.k).mono ?_
  rintro e w3 ⟨rfl, hc⟩
  have hX3 := hid ((hX2.out.alloc _).none_ hc)
  have hC3 := hid ((hC2.out.alloc _).trans_same hc)
  have hZ3 := hid (hZ2.out.none_ hc)
  clear y0 y1 y2 y3 y4 y5 y6 y7 y8 y9 y10 y11 hyl
  obtain ⟨y0, y1, y2, y3, y4, y5, y6, y7, y8, y9, y10, y11⟩ := OpV.box12 hX3.out
  have hyl := hX3.out.lt
  clear hc hX2 hC2 hZ2
  go_wp2_with fail
  refine (t_set_nil _ x.k x.v).mono ?_
  rintro e w4 ⟨rfl, hc⟩
  have hX4 := hid (hX3.out.none_ hc)
  have hC4 := hid (hC3.out.trans_same hc)
  have hZ4 := hid (hZ3.out.none_ hc)
  clear y0 y1 y2 y3 y4 y5 y6 y7 y8 y9 y10 y11 hyl
  obtain ⟨y0, y1, y2, y3, y4, y5, y6, y7, y8, y9, y10, y11⟩ := OpV.box12 hX4.out
  have hyl := hX4.out.lt
  obtain ⟨u0, u1, u2, u3, u4⟩ := V.box hZ4.out
  have hul := hZ4.out.lt
  simp only [V.zero] at u0 u1 u2 u3 u4
  clear hc hX3 hC3 hZ3
  rw [hb2.out]
  go_wp2_with fail
  refine (t_insert_nil _ x.at_ x.v).mono ?_
  rintro e w5 ⟨rfl, hc⟩
  have hX5 := hid (hX4.out.none_ hc)
  have hC5 := hid (hC4.out.trans_same hc)
  clear y0 y1 y2 y3 y4 y5 y6 y7 y8 y9 y10 y11 hyl u0 u1 u2 u3 u4 hul
  clear hc hX4 hC4 hZ4
  go_wp2_with fail
  refine (t_len_nil _).mono ?_
  rintro e w6 ⟨rfl, hw⟩
  subst hw
  go_wp2_with fail
  refine (t_array_nil _).mono ?_
  rintro e w6 ⟨rfl, hw⟩
  subst hw
  go_wp2_with fail
  refine (t_count_nil _).mono ?_
  rintro e w6 ⟨rfl, hw⟩
  subst hw
  go_wp2_with fail
  refine (t_size_nil _).mono ?_
  rintro e w6 ⟨rfl, hw⟩
  subst hw
  go_wp2_with fail
  rw [← hlim.out]
  refine (made_true _ A l lk (hlh.out.none_ hC5.out) hl200.out).mono ?_
  rintro e w6 ⟨o, rfl, hMd'⟩
  have hMd := hid hMd'
  have hC6 : Hid (Chg (fun _ => False) w5 w6) := hid (by obtain ⟨a, m, -, -, -, h⟩ := hMd'; exact h)
  have hX6 := hid (hX5.out.none_ hC6.out)
  clear hMd' hX5
  go_wp2_with fail
  refine (t_new _).mono ?_
  rintro e w7 ⟨p, rfl, hT', hc⟩
  have hX7 := hid (hX6.out.none_ hc)
  obtain ⟨q, s, n, hN'⟩ := NoneC.start hMd.out hl200.out hT' hc
  have hN7 := hid hN'
  clear hT' hc hN' hMd hX6
  obtain ⟨sz, hsz⟩ : ∃ sz, (4 + 2 * q + 4 * s : Nat) = sz := ⟨_, rfl⟩
  go_wp2_with fail
  refine hN7.out.count.mono ?_
  rintro e w8 ⟨rfl, hc⟩
  have hX8 := hid (hX7.out.none_ hc)
  have hN8 := hid (hN7.out.none_ hc)
  clear hc hX7 hN7
  go_wp2_with fail
  refine hN8.out.size.mono ?_
  rw [hsz]
  rintro e w9 ⟨rfl, hc⟩
  have hX9 := hid (hX8.out.none_ hc)
  have hN9 := hid (hN8.out.none_ hc)
  obtain ⟨y0, y1, y2, y3, y4, y5, y6, y7, y8, y9, y10, y11⟩ := OpV.box12 hX9.out
  have hyl := hX9.out.lt
  clear hc hX8 hN8
  go_wp2_with fail
  refine (hN9.out.set hxk.out).mono ?_
  rintro e wa ⟨xx, rfl, h10⟩
  have hNa := hid h10
  clear y0 y1 y2 y3 y4 y5 y6 y7 y8 y9 y10 y11 hyl hN9 hX9 h10
  go_wp2_with fail
  refine (num_k _ 1).mono ?_
  rintro e wb ⟨rfl, hc⟩
  have hNb := hid (hNa.out.none_ hc)
  clear hc hNa
  go_wp2_with fail
  refine (num_k _ 1).mono ?_
  rintro e wc ⟨rfl, hc⟩
  have hNc := hid (hNb.out.none_ hc)
  clear hc hNb
  go_wp2_with fail
  refine hNc.out.set.mono ?_
  rintro e wd ⟨xy, rfl, h10⟩
  have hNd := hid h10
  clear h10 hNc
  go_wp2_with fail
  refine hNd.out.count.mono ?_
  rintro e we ⟨rfl, hc⟩
  have hNe := hid (hNd.out.none_ hc)
  clear hc hNd
  go_wp2_with fail
  refine hNe.out.size.mono ?_
  rw [hsz]
  rintro e wf ⟨rfl, hc⟩
  have hNf := hid (hNe.out.none_ hc)
  clear hc hNe
  go_wp2_with fail
  refine (num_k _ 1).mono ?_
  rintro e wg ⟨rfl, hc⟩
  have hNg := hid (hNf.out.none_ hc)
  clear hc hNf
  go_wp2_with fail
  refine hNg.out.get.mono ?_
  rintro e wh ⟨rfl, hc⟩
  have hNh := hid (hNg.out.none_ hc)
  clear hc hNg
  go_wp2_with fail
  refine (num_k _ 1).mono ?_
  rintro e wi ⟨rfl, hc⟩
  have hNi := hid (hNh.out.none_ hc)
  clear hc hNh
  go_wp2_with fail
  refine (awake_true _).mono ?_
  rintro e wz ⟨rfl, hc⟩
  have fin := hid (none_below ((hC5.out.trans_same (by obtain ⟨S1, S2, N, M, M2, a, m, a2, m2, h1, -⟩ := hNi.out; exact h1.chg)).trans_same hc))
  clear hc hNi
  go_wp2_with fail
  go_ret
  exact ⟨rfl, fin.out⟩
end Go.Proofs.Ytoelgnjnbelokaa
