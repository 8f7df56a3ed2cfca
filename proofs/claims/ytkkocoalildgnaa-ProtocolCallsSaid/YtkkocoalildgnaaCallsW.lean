/-
  ProtocolCalls: the walk.
-/
import Derived.Test.YtkkocoalildgnaaAwake
namespace Go.Proofs.Ytkkocoalildgnaa
open Go.RowKit

set_option maxRecDepth 100000 in
set_option maxHeartbeats 8000000 in
theorem calls_true (w : World) (f : V) (A : Option Addr) (vs : List V) (c : Nat) (A2 : Option Addr) (ks : List V) (c2 : Nat) (nx : Int) (hA : Vs w A vs) (m1 : vs.length ≤ maxLen) (hA2 : Vs w A2 ks) (m2 : ks.length ≤ maxLen) :
    Calls Try.prog 5 #[(.agg #[.int .i64 f.k, .int .i64 f.p, .int .i64 f.q, .string f.s, .int .i64 f.r]), .slice A vs.length c, .slice A2 ks.length c2, .int .i64 nx] w fun e w' => e = .returned (.bool true) ∧ Below w.heap.size w w' := by
  unfold maxLen at m1 m2
  have hb0 : Hid (Bk (w.alloc (.cells f.cs.toArray 25)).drew w.heap.size 25 f.cs) := hid (Bk.new w 25 _).drew
  have hA := hid (Rd.none_ hA (((Chg.refl (fun _ => False) w).alloc (.cells f.cs.toArray 25)).drew))
  have hA2 := hid (Rd.none_ hA2 (((Chg.refl (fun _ => False) w).alloc (.cells f.cs.toArray 25)).drew))
  by_cases g1 : 600 < vs.length
  · have hl1 := hid (decide_eq_true g1)
    clear g1
    go_enter Try.func5, Try.ntmps5
    go_wp2_with (first
      | (go_at_call 9; refine (large_any _ _ _ _ hl1.out).mono ?_; rintro e w' ⟨rfl, rfl⟩)
      | (go_at_call 10; refine (awake_true _).mono ?_; rintro e w99 ⟨rfl, hc99⟩; have fin := hid (((Chg.refl _ w).alloc _).trans_same hc99); clear hc99))
    go_ret
    exact ⟨rfl, fin.out.below (Nat.le_refl _) fun _ _ h => h⟩
  have hl1 := hid (decide_eq_false g1)
  by_cases g2 : 600 < ks.length
  · have hl2 := hid (decide_eq_true g2)
    clear g1 g2
    have tok1 : True := trivial
    go_enter Try.func5, Try.ntmps5
    go_wp2_with (first
      | (go_at_call 9; have _t := tok1; refine (large_any _ _ _ _ hl1.out).mono ?_; rintro e w' ⟨rfl, rfl⟩; clear tok1)
      | (go_at_call 9; refine (large_any _ _ _ _ hl2.out).mono ?_; rintro e w' ⟨rfl, rfl⟩)
      | (go_at_call 10; refine (awake_true _).mono ?_; rintro e w99 ⟨rfl, hc99⟩; have fin := hid (((Chg.refl _ w).alloc _).trans_same hc99); clear hc99))
    go_ret
    exact ⟨rfl, fin.out.below (Nat.le_refl _) fun _ _ h => h⟩
  have hl2 := hid (decide_eq_false g2)
  have n1 : vs.length ≤ 1000 := by omega
  have n2 : ks.length ≤ 1000 := by omega
  clear g1 g2
  have hA0 := hA
  have hD0 := hA2
  have tok1 : True := trivial
  go_enter Try.func5, Try.ntmps5
  go_wp2_with (first
    | (go_at_call 9; have _t := tok1; refine (large_any _ _ _ _ hl1.out).mono ?_; rintro e w' ⟨rfl, rfl⟩; clear tok1)
    | (go_at_call 9; refine (large_any _ _ _ _ hl2.out).mono ?_; rintro e w' ⟨rfl, rfl⟩))
  refine wp_region_rc (id := 3) [.rd [0, 1, 2, 3, 5, 6, 7, 8], .act 4, .act 9, .act 10, .rd [11, 12, 13, 14, 15, 17, 18, 19, 20], .act 16, .act 21, .act 22, .wl [23, 24, 25, 26, 27, 29, 30, 31]] [28, 32, 33, 34, 35, 36, 37, 38] [] (fun w' => Bk w' w.heap.size 25 f.cs) (by kernel_rfl) 54 rfl (by kernel_rfl) (fun _ _ _ _ _ h => h) hb0.out ?_
  refine steps_rdW ?_
  apply Exists.intro
  refine ⟨?_, ?_⟩
  focus
    rintro w' hS; obtain ⟨x0, x1, x2, x3, x4⟩ := V.box hS; clear hS
    iterate 8 (refine stW_step rfl (fun K hK => ?_); go_simp; refine hK _ ?_; clear hK K)
    exact stW_nil rfl
  refine steps_act (o := ⟨_, _, _, _, _, _⟩) rfl (fun K2 hK2 => ?_)
  go_wp2_with (go_at_call 20; refine (own_call _ f A vs c nx A2 ks c2 hA0.out n1 hD0.out n2).mono ?_; rintro e w1 ⟨B1, d1, C1, e1, rfl, hP1, hQ1, hc1⟩; have hP1 := hid hP1.vs; have hQ1 := hid hQ1.vs; have hC1 := hid ((((Chg.refl (fun _ => False) w).alloc _).drew).trans_same hc1); have hh1 := hid hc1; have hb1 := hid (hb0.out.none_ hc1); have hA1 := hid (Rd.none_ hA0.out hc1); have hD1 := hid (Rd.none_ hD0.out hc1); clear hc1)
  refine hK2 _ _ hb1.out rfl ?_
  clear hK2 K2
  refine steps_act (o := ⟨_, _, _, _, _, _⟩) rfl (fun K2 hK2 => ?_)
  go_wp2_with (go_at_call 21; refine (doc_call_any _ f A vs c nx A2 ks c2 hA1.out n1 hD1.out n2).mono ?_; rintro e w2 ⟨B2, d2, C2, e2, rfl, hP2, hQ2, hc2⟩; have hP2 := hid hP2.vs; have hQ2 := hid hQ2.vs; have hC2 := hid (hC1.out.trans_same hc2); have hh2 := hid hc2; have hb2 := hid (hb1.out.none_ hc2); have hA2 := hid (Rd.none_ hA1.out hc2); have hD2 := hid (Rd.none_ hD1.out hc2); clear hc2)
  refine hK2 _ _ hb2.out rfl ?_
  clear hK2 K2
  refine steps_act (o := ⟨_, _, _, _, _, _⟩) rfl (fun K2 hK2 => ?_)
  go_wp2_with (go_at_call 13; refine (doc_same_eq (a := ⟨3, 0, f, vs, ⟨#[]⟩, 0, nx, ks⟩) (b := ⟨3, 0, f, vs, ⟨#[]⟩, 0, nx, ks⟩) (decide_eq_true rfl) (Rd.none_ hP1.out hh2.out) (Rd.none_ hQ1.out hh2.out) hP2.out hQ2.out n1 n2 n1 n2).mono ?_; rintro e w3 ⟨rfl, hc3⟩; have hC3 := hid (hC2.out.trans_same hc3); have hh3 := hid hc3; have hb3 := hid (hb2.out.none_ hc3); have hA3 := hid (Rd.none_ hA2.out hc3); have hD3 := hid (Rd.none_ hD2.out hc3); clear hc3)
  refine hK2 _ _ hb3.out rfl ?_
  clear hK2 K2
  refine steps_rdW ?_
  apply Exists.intro
  refine ⟨?_, ?_⟩
  focus
    rintro w' hS; obtain ⟨x0, x1, x2, x3, x4⟩ := V.box hS; clear hS
    iterate 9 (refine stW_step rfl (fun K hK => ?_); go_simp; refine hK _ ?_; clear hK K)
    exact stW_nil rfl
  refine steps_act (o := ⟨_, _, _, _, _, _⟩) rfl (fun K2 hK2 => ?_)
  go_wp2_with (go_at_call 22; refine (own_try _ f A vs c nx A2 ks c2 hA3.out n1 hD3.out n2).mono ?_; rintro e w4 ⟨B4, d4, C4, e4, rfl, hP4, hQ4, hc4⟩; have hP4 := hid hP4.vs; have hQ4 := hid hQ4.vs; have hC4 := hid (hC3.out.trans_same hc4); have hh4 := hid hc4; have hb4 := hid (hb3.out.none_ hc4); have hA4 := hid (Rd.none_ hA3.out hc4); have hD4 := hid (Rd.none_ hD3.out hc4); clear hc4)
  refine hK2 _ _ hb4.out rfl ?_
  clear hK2 K2
  refine steps_act (o := ⟨_, _, _, _, _, _⟩) rfl (fun K2 hK2 => ?_)
  go_wp2_with (go_at_call 23; refine (doc_try_any _ f A vs c nx A2 ks c2 hA4.out n1 hD4.out n2).mono ?_; rintro e w5 ⟨B5, d5, C5, e5, rfl, hP5, hQ5, hc5⟩; have hP5 := hid hP5.vs; have hQ5 := hid hQ5.vs; have hC5 := hid (hC4.out.trans_same hc5); have hh5 := hid hc5; have hb5 := hid (hb4.out.none_ hc5); have hA5 := hid (Rd.none_ hA4.out hc5); have hD5 := hid (Rd.none_ hD4.out hc5); clear hc5)
  refine hK2 _ _ hb5.out rfl ?_
  clear hK2 K2
  refine steps_act (o := ⟨_, _, _, _, _, _⟩) rfl (fun K2 hK2 => ?_)
  go_wp2_with (go_at_call 13; refine (doc_same_eq (a := ⟨4, 0, f, vs, ⟨#[]⟩, 0, nx, ks⟩) (b := ⟨4, 0, f, vs, ⟨#[]⟩, 0, nx, ks⟩) (decide_eq_true rfl) (Rd.none_ hP4.out hh5.out) (Rd.none_ hQ4.out hh5.out) hP5.out hQ5.out n1 n2 n1 n2).mono ?_; rintro e w6 ⟨rfl, hc6⟩; have hC6 := hid (hC5.out.trans_same hc6); have hh6 := hid hc6; have hb6 := hid (hb5.out.none_ hc6); have hA6 := hid (Rd.none_ hA5.out hc6); have hD6 := hid (Rd.none_ hD5.out hc6); clear hc6)
  refine hK2 _ _ hb6.out rfl ?_
  clear hK2 K2
  refine steps_wlW ?_
  apply Exists.intro
  refine ⟨?_, ?_⟩
  focus
    intro w'
    iterate 8 (refine stW_step rfl (fun K hK => ?_); go_simp; refine hK _ ?_; clear hK K)
    exact stW_nil rfl
  refine steps_nil (l := [⟨_, _, _, _, _, _⟩, ⟨_, _, _, _, _, _⟩, ⟨_, _, _, _, _, _⟩, ⟨_, _, _, _, _, _⟩, ⟨_, _, _, _, _, _⟩, ⟨_, _, _, _, _, _⟩, ⟨_, _, _, _, _, _⟩, ⟨_, _, _, _, _, _⟩]) rfl (fun K2 hK2 => ?_)
  have tok1 : True := trivial
  have tok2 : True := trivial
  go_wp2_with (first
    | (go_at_call 24; refine (own_yield _ A vs c nx A2 ks c2 hA6.out n1 hD6.out n2).mono ?_; rintro e w7 ⟨B7, d7, C7, e7, rfl, hP7, hQ7, hc7⟩; have hP7 := hid hP7.vs; have hQ7 := hid hQ7.vs; have hC7 := hid (hC6.out.trans_same hc7); have hh7 := hid hc7; have hb7 := hid (hb6.out.none_ hc7); have hA7 := hid (Rd.none_ hA6.out hc7); have hD7 := hid (Rd.none_ hD6.out hc7); clear hc7)
    | (go_at_call 25; refine (doc_yield _ A vs c nx A2 ks c2 hA7.out n1 hD7.out n2).mono ?_; rintro e w8 ⟨B8, d8, C8, e8, rfl, hP8, hQ8, hc8⟩; have hP8 := hid hP8.vs; have hQ8 := hid hQ8.vs; have hC8 := hid (hC7.out.trans_same hc8); have hh8 := hid hc8; clear hc8)
    | (go_at_call 13; refine (doc_same_eq (a := ⟨5, 0, V.zero, vs, ⟨#[]⟩, 0, nx, ks⟩) (b := ⟨5, 0, V.zero, vs, ⟨#[]⟩, 0, nx, ks⟩) (decide_eq_true rfl) (Rd.none_ hP7.out hh8.out) (Rd.none_ hQ7.out hh8.out) hP8.out hQ8.out n1 n2 n1 n2).mono ?_; rintro e w9 ⟨rfl, hc9⟩; have hC9 := hid (hC8.out.trans_same hc9); have hh9 := hid hc9; clear hc9)
    | (go_at_call 10; refine (awake_true _).mono ?_; rintro e w99 ⟨rfl, hc99⟩; have fin := hid (hC9.out.trans_same hc99); clear hc99))
  refine hK2 _ _ rfl ?_
  clear hK2 K2
  refine stI_nil ?_
  go_wp2
  go_ret
  exact ⟨rfl, fin.out.below (Nat.le_refl _) fun _ _ h => h⟩
end Go.Proofs.Ytkkocoalildgnaa
