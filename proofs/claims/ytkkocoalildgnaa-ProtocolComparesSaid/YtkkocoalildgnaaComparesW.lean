/-
  ProtocolCompares: the walk.
-/
import Derived.Test.YtkkocoalildgnaaAwake
namespace Go.Proofs.Ytkkocoalildgnaa
open Go.RowKit

theorem own_arg_eq {w : World} {A : Option Addr} {vs : List V} {k : Nat} {i : Int} {v : V} (hv : argAt vs i = v) (h : Vs w A vs) (hn : vs.length ≤ 1000) : Calls Try.prog 27 #[.slice A vs.length k, .int .i64 i] w fun e w' => e = .returned (.agg #[.int .i64 v.k, .int .i64 v.p, .int .i64 v.q, .string v.s, .int .i64 v.r]) ∧ Chg (fun _ => False) w w' := by subst hv; exact own_arg w A vs k i h hn
theorem doc_arg_eq {w : World} {A : Option Addr} {vs : List V} {k : Nat} {i : Int} {v : V} (hv : argAt vs i = v) (h : Vs w A vs) (hn : vs.length ≤ 1000) : Calls Try.prog 28 #[.slice A vs.length k, .int .i64 i] w fun e w' => e = .returned (.agg #[.int .i64 v.k, .int .i64 v.p, .int .i64 v.q, .string v.s, .int .i64 v.r]) ∧ Chg (fun _ => False) w w' := by subst hv; exact doc_arg w A vs k i h hn
set_option maxRecDepth 100000 in
set_option maxHeartbeats 8000000 in
theorem compares_true (w : World) (a : Ac) (A A2 : Option Addr) (c c2 : Nat) (b : Ac) (B B2 : Option Addr) (d d2 : Nat) (i : Int) (hA : Vs w A a.vs) (hA2 : Vs w A2 a.ks) (m1 : a.vs.length ≤ maxLen) (m2 : a.ks.length ≤ maxLen) (hB : Vs w B b.vs) (hB2 : Vs w B2 b.ks) (m3 : b.vs.length ≤ maxLen) (m4 : b.ks.length ≤ maxLen) :
    Calls Try.prog 6 #[(.agg #[.int .i64 a.k, .int .i64 a.o, .int .i64 a.f.k, .int .i64 a.f.p, .int .i64 a.f.q, .string a.f.s, .int .i64 a.f.r, .slice A a.vs.length c, .string a.s, .int .i64 a.l, .int .i64 a.n, .slice A2 a.ks.length c2]), (.agg #[.int .i64 b.k, .int .i64 b.o, .int .i64 b.f.k, .int .i64 b.f.p, .int .i64 b.f.q, .string b.f.s, .int .i64 b.f.r, .slice B b.vs.length d, .string b.s, .int .i64 b.l, .int .i64 b.n, .slice B2 b.ks.length d2]), .int .i64 i] w fun e w' => e = .returned (.bool true) ∧ Below w.heap.size w w' := by
  unfold maxLen at m1 m2 m3 m4
  have hb0 : Hid (Bk ((w.alloc (.cells (Ac.cs a.k a.o a.f (.slice A a.vs.length c) a.s a.l a.n (.slice A2 a.ks.length c2)).toArray 28)).alloc (.cells (Ac.cs b.k b.o b.f (.slice B b.vs.length d) b.s b.l b.n (.slice B2 b.ks.length d2)).toArray 28)).drew w.heap.size 28 (Ac.cs a.k a.o a.f (.slice A a.vs.length c) a.s a.l a.n (.slice A2 a.ks.length c2))) := hid ((Bk.new w 28 _).alloc _).drew
  have hz0 : Hid (Bk ((w.alloc (.cells (Ac.cs a.k a.o a.f (.slice A a.vs.length c) a.s a.l a.n (.slice A2 a.ks.length c2)).toArray 28)).alloc (.cells (Ac.cs b.k b.o b.f (.slice B b.vs.length d) b.s b.l b.n (.slice B2 b.ks.length d2)).toArray 28)).drew (w.heap.size + 1) 28 (Ac.cs b.k b.o b.f (.slice B b.vs.length d) b.s b.l b.n (.slice B2 b.ks.length d2))) := hid (Bk.new_at _ 28 (Ac.cs b.k b.o b.f (.slice B b.vs.length d) b.s b.l b.n (.slice B2 b.ks.length d2)).toArray (w.heap.size + 1) (by simp)).drew
  have hVa0 := hid (Rd.none_ hA ((((Chg.refl (fun _ => False) w).alloc (.cells (Ac.cs a.k a.o a.f (.slice A a.vs.length c) a.s a.l a.n (.slice A2 a.ks.length c2)).toArray 28)).alloc (.cells (Ac.cs b.k b.o b.f (.slice B b.vs.length d) b.s b.l b.n (.slice B2 b.ks.length d2)).toArray 28)).drew))
  have hVb0 := hid (Rd.none_ hA2 ((((Chg.refl (fun _ => False) w).alloc (.cells (Ac.cs a.k a.o a.f (.slice A a.vs.length c) a.s a.l a.n (.slice A2 a.ks.length c2)).toArray 28)).alloc (.cells (Ac.cs b.k b.o b.f (.slice B b.vs.length d) b.s b.l b.n (.slice B2 b.ks.length d2)).toArray 28)).drew))
  have hVc0 := hid (Rd.none_ hB ((((Chg.refl (fun _ => False) w).alloc (.cells (Ac.cs a.k a.o a.f (.slice A a.vs.length c) a.s a.l a.n (.slice A2 a.ks.length c2)).toArray 28)).alloc (.cells (Ac.cs b.k b.o b.f (.slice B b.vs.length d) b.s b.l b.n (.slice B2 b.ks.length d2)).toArray 28)).drew))
  have hVd0 := hid (Rd.none_ hB2 ((((Chg.refl (fun _ => False) w).alloc (.cells (Ac.cs a.k a.o a.f (.slice A a.vs.length c) a.s a.l a.n (.slice A2 a.ks.length c2)).toArray 28)).alloc (.cells (Ac.cs b.k b.o b.f (.slice B b.vs.length d) b.s b.l b.n (.slice B2 b.ks.length d2)).toArray 28)).drew))
  clear hA hA2 hB hB2
  by_cases g1 : 600 < a.vs.length
  · have hl1 := hid (decide_eq_true g1)
    clear g1
    go_enter Try.func6, Try.ntmps6
    go_wp2_with (first
      | (go_at_call 9; refine (large_any _ _ _ _ hl1.out).mono ?_; rintro e w' ⟨rfl, rfl⟩)
      | (go_at_call 10; refine (awake_true _).mono ?_; rintro e w99 ⟨rfl, hc99⟩; have fin := hid ((((Chg.refl _ w).alloc _).alloc _).trans_same hc99); clear hc99))
    go_ret
    exact ⟨rfl, fin.out.below (Nat.le_refl _) fun _ _ h => h⟩
  have hl1 := hid (decide_eq_false g1)
  by_cases g2 : 600 < a.ks.length
  · have hl2 := hid (decide_eq_true g2)
    clear g1 g2
    have tok1 : True := trivial
    go_enter Try.func6, Try.ntmps6
    go_wp2_with (first
      | (go_at_call 9; have _t := tok1; refine (large_any _ _ _ _ hl1.out).mono ?_; rintro e w' ⟨rfl, rfl⟩; clear tok1)
      | (go_at_call 9; refine (large_any _ _ _ _ hl2.out).mono ?_; rintro e w' ⟨rfl, rfl⟩)
      | (go_at_call 10; refine (awake_true _).mono ?_; rintro e w99 ⟨rfl, hc99⟩; have fin := hid ((((Chg.refl _ w).alloc _).alloc _).trans_same hc99); clear hc99))
    go_ret
    exact ⟨rfl, fin.out.below (Nat.le_refl _) fun _ _ h => h⟩
  have hl2 := hid (decide_eq_false g2)
  by_cases g3 : 600 < b.vs.length
  · have hl3 := hid (decide_eq_true g3)
    clear g1 g2 g3
    have tok1 : True := trivial
    have tok2 : True := trivial
    go_enter Try.func6, Try.ntmps6
    go_wp2_with (first
      | (go_at_call 9; have _t := tok1; refine (large_any _ _ _ _ hl1.out).mono ?_; rintro e w' ⟨rfl, rfl⟩; clear tok1)
      | (go_at_call 9; have _t := tok2; refine (large_any _ _ _ _ hl2.out).mono ?_; rintro e w' ⟨rfl, rfl⟩; clear tok2)
      | (go_at_call 9; refine (large_any _ _ _ _ hl3.out).mono ?_; rintro e w' ⟨rfl, rfl⟩)
      | (go_at_call 10; refine (awake_true _).mono ?_; rintro e w99 ⟨rfl, hc99⟩; have fin := hid ((((Chg.refl _ w).alloc _).alloc _).trans_same hc99); clear hc99))
    go_ret
    exact ⟨rfl, fin.out.below (Nat.le_refl _) fun _ _ h => h⟩
  have hl3 := hid (decide_eq_false g3)
  by_cases g4 : 600 < b.ks.length
  · have hl4 := hid (decide_eq_true g4)
    clear g1 g2 g3 g4
    have tok1 : True := trivial
    have tok2 : True := trivial
    have tok3 : True := trivial
    go_enter Try.func6, Try.ntmps6
    go_wp2_with (first
      | (go_at_call 9; have _t := tok1; refine (large_any _ _ _ _ hl1.out).mono ?_; rintro e w' ⟨rfl, rfl⟩; clear tok1)
      | (go_at_call 9; have _t := tok2; refine (large_any _ _ _ _ hl2.out).mono ?_; rintro e w' ⟨rfl, rfl⟩; clear tok2)
      | (go_at_call 9; have _t := tok3; refine (large_any _ _ _ _ hl3.out).mono ?_; rintro e w' ⟨rfl, rfl⟩; clear tok3)
      | (go_at_call 9; refine (large_any _ _ _ _ hl4.out).mono ?_; rintro e w' ⟨rfl, rfl⟩)
      | (go_at_call 10; refine (awake_true _).mono ?_; rintro e w99 ⟨rfl, hc99⟩; have fin := hid ((((Chg.refl _ w).alloc _).alloc _).trans_same hc99); clear hc99))
    go_ret
    exact ⟨rfl, fin.out.below (Nat.le_refl _) fun _ _ h => h⟩
  have hl4 := hid (decide_eq_false g4)
  have n1 : a.vs.length ≤ 1000 := by omega
  have n2 : a.ks.length ≤ 1000 := by omega
  have n3 : b.vs.length ≤ 1000 := by omega
  have n4 : b.ks.length ≤ 1000 := by omega
  obtain ⟨q, hq⟩ : ∃ q, Hid (decide (a = b) = q) := ⟨_, hid rfl⟩
  have hq2 : Hid (decide (b = a) = q) := hid (by rw [← hq.out]; simp [eq_comm])
  obtain ⟨x, hx⟩ : ∃ x, Hid (argAt a.vs i = x) := ⟨_, hid rfl⟩
  clear g1 g2 g3 g4
  have tok1 : True := trivial
  have tok2 : True := trivial
  have tok3 : True := trivial
  go_enter Try.func6, Try.ntmps6
  go_wp2_with (first
    | (go_at_call 9; have _t := tok1; refine (large_any _ _ _ _ hl1.out).mono ?_; rintro e w' ⟨rfl, rfl⟩; clear tok1)
    | (go_at_call 9; have _t := tok2; refine (large_any _ _ _ _ hl2.out).mono ?_; rintro e w' ⟨rfl, rfl⟩; clear tok2)
    | (go_at_call 9; have _t := tok3; refine (large_any _ _ _ _ hl3.out).mono ?_; rintro e w' ⟨rfl, rfl⟩; clear tok3)
    | (go_at_call 9; refine (large_any _ _ _ _ hl4.out).mono ?_; rintro e w' ⟨rfl, rfl⟩))
  refine wp_region_rc (id := 3) [.rd [0, 1, 3, 4], .act 2, .act 5, .rd [6, 7, 8, 9], .act 10, .rd [11, 12, 13, 14, 16, 17], .act 15, .act 18, .rd [19, 20, 21, 22, 23, 24, 26, 27, 28], .act 25] [29, 30, 31, 32, 33, 34, 35] [] (fun w' => Bk w' w.heap.size 28 (Ac.cs a.k a.o a.f (.slice A a.vs.length c) a.s a.l a.n (.slice A2 a.ks.length c2)) ∧ Bk w' (w.heap.size + 1) 28 (Ac.cs b.k b.o b.f (.slice B b.vs.length d) b.s b.l b.n (.slice B2 b.ks.length d2))) (by kernel_rfl) 61 rfl (by kernel_rfl) (fun _ _ _ _ _ h => h) ⟨hb0.out, hz0.out⟩ ?_
  refine steps_rdW ?_
  apply Exists.intro
  refine ⟨?_, ?_⟩
  focus
    rintro w' ⟨hS, hS2⟩; obtain ⟨x0, x1, x2, x3, x4, x5, x6, x7, x8, x9, x10, x11, xlt⟩ := ac_box hS; obtain ⟨y0, y1, y2, y3, y4, y5, y6, y7, y8, y9, y10, y11, ylt⟩ := ac_box hS2; clear hS hS2
    iterate 4 (refine stW_step rfl (fun K hK => ?_); go_simp; refine hK _ ?_; clear hK K)
    exact stW_nil rfl
  refine steps_act (o := ⟨_, _, _, _, _, _⟩) rfl (fun K2 hK2 => ?_)
  go_wp2_with (go_at_call 26; refine (own_same_eq (a := a) (b := b) hq.out hVa0.out hVb0.out hVc0.out hVd0.out n1 n2 n3 n4).mono ?_; rintro e w1 ⟨rfl, hc1⟩; have hb1 := hid (hb0.out.none_ hc1); have hz1 := hid (hz0.out.none_ hc1); have hVa1 := hid (Rd.none_ hVa0.out hc1); have hVb1 := hid (Rd.none_ hVb0.out hc1); have hVc1 := hid (Rd.none_ hVc0.out hc1); have hVd1 := hid (Rd.none_ hVd0.out hc1); have hC1 := hid (((((Chg.refl (fun _ => False) w).alloc _).alloc _).drew).trans_same hc1); clear hc1)
  refine hK2 _ _ ⟨hb1.out, hz1.out⟩ rfl ?_
  clear hK2 K2
  refine steps_act (o := ⟨_, _, _, _, _, _⟩) rfl (fun K2 hK2 => ?_)
  go_wp2_with (go_at_call 13; refine (doc_same_eq (a := a) (b := b) hq.out hVa1.out hVb1.out hVc1.out hVd1.out n1 n2 n3 n4).mono ?_; rintro e w2 ⟨rfl, hc2⟩; have hb2 := hid (hb1.out.none_ hc2); have hz2 := hid (hz1.out.none_ hc2); have hVa2 := hid (Rd.none_ hVa1.out hc2); have hVb2 := hid (Rd.none_ hVb1.out hc2); have hVc2 := hid (Rd.none_ hVc1.out hc2); have hVd2 := hid (Rd.none_ hVd1.out hc2); have hC2 := hid (hC1.out.trans_same hc2); clear hc2)
  refine hK2 _ _ ⟨hb2.out, hz2.out⟩ rfl ?_
  clear hK2 K2
  refine steps_rdW ?_
  apply Exists.intro
  refine ⟨?_, ?_⟩
  focus
    rintro w' ⟨hS, hS2⟩; obtain ⟨x0, x1, x2, x3, x4, x5, x6, x7, x8, x9, x10, x11, xlt⟩ := ac_box hS; obtain ⟨y0, y1, y2, y3, y4, y5, y6, y7, y8, y9, y10, y11, ylt⟩ := ac_box hS2; clear hS hS2
    iterate 4 (refine stW_step rfl (fun K hK => ?_); go_simp; refine hK _ ?_; clear hK K)
    exact stW_nil rfl
  refine steps_act (o := ⟨_, _, _, _, _, _⟩) rfl (fun K2 hK2 => ?_)
  go_wp2_with (go_at_call 26; refine (own_same_eq (a := a) (b := a) (decide_eq_true rfl) hVa2.out hVb2.out hVa2.out hVb2.out n1 n2 n1 n2).mono ?_; rintro e w3 ⟨rfl, hc3⟩; have hb3 := hid (hb2.out.none_ hc3); have hz3 := hid (hz2.out.none_ hc3); have hVa3 := hid (Rd.none_ hVa2.out hc3); have hVb3 := hid (Rd.none_ hVb2.out hc3); have hVc3 := hid (Rd.none_ hVc2.out hc3); have hVd3 := hid (Rd.none_ hVd2.out hc3); have hC3 := hid (hC2.out.trans_same hc3); clear hc3)
  refine hK2 _ _ ⟨hb3.out, hz3.out⟩ rfl ?_
  clear hK2 K2
  refine steps_rdW ?_
  apply Exists.intro
  refine ⟨?_, ?_⟩
  focus
    rintro w' ⟨hS, hS2⟩; obtain ⟨x0, x1, x2, x3, x4, x5, x6, x7, x8, x9, x10, x11, xlt⟩ := ac_box hS; obtain ⟨y0, y1, y2, y3, y4, y5, y6, y7, y8, y9, y10, y11, ylt⟩ := ac_box hS2; clear hS hS2
    iterate 6 (refine stW_step rfl (fun K hK => ?_); go_simp; refine hK _ ?_; clear hK K)
    exact stW_nil rfl
  refine steps_act (o := ⟨_, _, _, _, _, _⟩) rfl (fun K2 hK2 => ?_)
  go_wp2_with (go_at_call 26; refine (own_same_eq (a := b) (b := a) hq2.out hVc3.out hVd3.out hVa3.out hVb3.out n3 n4 n1 n2).mono ?_; rintro e w4 ⟨rfl, hc4⟩; have hb4 := hid (hb3.out.none_ hc4); have hz4 := hid (hz3.out.none_ hc4); have hVa4 := hid (Rd.none_ hVa3.out hc4); have hVb4 := hid (Rd.none_ hVb3.out hc4); have hVc4 := hid (Rd.none_ hVc3.out hc4); have hVd4 := hid (Rd.none_ hVd3.out hc4); have hC4 := hid (hC3.out.trans_same hc4); clear hc4)
  refine hK2 _ _ ⟨hb4.out, hz4.out⟩ rfl ?_
  clear hK2 K2
  refine steps_act (o := ⟨_, _, _, _, _, _⟩) rfl (fun K2 hK2 => ?_)
  go_wp2_with (go_at_call 26; refine (own_same_eq (a := a) (b := b) hq.out hVa4.out hVb4.out hVc4.out hVd4.out n1 n2 n3 n4).mono ?_; rintro e w5 ⟨rfl, hc5⟩; have hb5 := hid (hb4.out.none_ hc5); have hz5 := hid (hz4.out.none_ hc5); have hVa5 := hid (Rd.none_ hVa4.out hc5); have hVb5 := hid (Rd.none_ hVb4.out hc5); have hVc5 := hid (Rd.none_ hVc4.out hc5); have hVd5 := hid (Rd.none_ hVd4.out hc5); have hC5 := hid (hC4.out.trans_same hc5); clear hc5)
  refine hK2 _ _ ⟨hb5.out, hz5.out⟩ rfl ?_
  clear hK2 K2
  refine steps_rdW ?_
  apply Exists.intro
  refine ⟨?_, ?_⟩
  focus
    rintro w' ⟨hS, hS2⟩; obtain ⟨x0, x1, x2, x3, x4, x5, x6, x7, x8, x9, x10, x11, xlt⟩ := ac_box hS; obtain ⟨y0, y1, y2, y3, y4, y5, y6, y7, y8, y9, y10, y11, ylt⟩ := ac_box hS2; clear hS hS2
    iterate 9 (refine stW_step rfl (fun K hK => ?_); go_simp; refine hK _ ?_; clear hK K)
    exact stW_nil rfl
  refine steps_act (o := ⟨_, _, _, _, _, _⟩) rfl (fun K2 hK2 => ?_)
  go_wp2_with (go_at_call 27; refine (own_arg_eq hx.out hVa5.out n1).mono ?_; rintro e w6 ⟨rfl, hc6⟩; have hb6 := hid (hb5.out.none_ hc6); have hz6 := hid (hz5.out.none_ hc6); have hVa6 := hid (Rd.none_ hVa5.out hc6); have hVb6 := hid (Rd.none_ hVb5.out hc6); have hVc6 := hid (Rd.none_ hVc5.out hc6); have hVd6 := hid (Rd.none_ hVd5.out hc6); have hC6 := hid (hC5.out.trans_same hc6); clear hc6)
  refine hK2 _ _ ⟨hb6.out, hz6.out⟩ rfl ?_
  clear hK2 K2
  refine steps_nil (l := [⟨_, _, _, _, _, _⟩, ⟨_, _, _, _, _, _⟩, ⟨_, _, _, _, _, _⟩, ⟨_, _, _, _, _, _⟩, ⟨_, _, _, _, _, _⟩, ⟨_, _, _, _, _, _⟩, ⟨_, _, _, _, _, _⟩]) rfl (fun K2 hK2 => ?_)
  have tok1 : True := trivial
  have tok2 : True := trivial
  go_wp2_with (first
    | (go_at_call 28; refine (doc_arg_eq hx.out hVa6.out n1).mono ?_; rintro e w7 ⟨rfl, hc7⟩; have hC7 := hid (hC6.out.trans_same hc7); clear hc7)
    | (go_at_call 10; refine (awake_true _).mono ?_; rintro e w99 ⟨rfl, hc99⟩; have fin := hid (hC7.out.trans_same hc99); clear hc99))
  refine hK2 _ _ rfl ?_
  clear hK2 K2
  refine stI_nil ?_
  go_wp2
  go_ret
  exact ⟨rfl, fin.out.below (Nat.le_refl _) fun _ _ h => h⟩
end Go.Proofs.Ytkkocoalildgnaa
