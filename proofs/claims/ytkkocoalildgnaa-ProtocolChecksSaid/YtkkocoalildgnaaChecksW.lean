/-
  ProtocolChecks: the walk.
-/
import Derived.Test.YtkkocoalildgnaaAwake
namespace Go.Proofs.Ytkkocoalildgnaa
open Go.RowKit

set_option maxRecDepth 100000 in
set_option maxHeartbeats 4000000 in
theorem checks_true (w : World) (a : Ac) (A A2 : Option Addr) (c c2 : Nat) (hA : Vs w A a.vs) (hA2 : Vs w A2 a.ks) (m1 : a.vs.length ≤ maxLen) (m2 : a.ks.length ≤ maxLen) :
    Calls Try.prog 3 #[(.agg #[.int .i64 a.k, .int .i64 a.o, .int .i64 a.f.k, .int .i64 a.f.p, .int .i64 a.f.q, .string a.f.s, .int .i64 a.f.r, .slice A a.vs.length c, .string a.s, .int .i64 a.l, .int .i64 a.n, .slice A2 a.ks.length c2])] w fun e w' => e = .returned (.bool true) ∧ Below w.heap.size w w' := by
  obtain ⟨k, o, f, vs, s, l, n, ks⟩ := a
  simp only at hA hA2 m1 m2 ⊢
  unfold maxLen at m1 m2
  have hb0 : Hid (Bk (w.alloc (.cells (Ac.cs k o f (.slice A vs.length c) s l n (.slice A2 ks.length c2)).toArray 28)).drew w.heap.size 28 (Ac.cs k o f (.slice A vs.length c) s l n (.slice A2 ks.length c2))) := hid (Bk.new w 28 _).drew
  have hA := hid (Rd.none_ hA (((Chg.refl (fun _ => False) w).alloc (.cells (Ac.cs k o f (.slice A vs.length c) s l n (.slice A2 ks.length c2)).toArray 28)).drew))
  have hA2 := hid (Rd.none_ hA2 (((Chg.refl (fun _ => False) w).alloc (.cells (Ac.cs k o f (.slice A vs.length c) s l n (.slice A2 ks.length c2)).toArray 28)).drew))
  by_cases g1 : 600 < vs.length
  · have hl1 := hid (decide_eq_true g1)
    clear g1
    go_enter Try.func3, Try.ntmps3
    go_wp2_with (first
      | (go_at_call 9; refine (large_any _ _ _ _ hl1.out).mono ?_; rintro e w' ⟨rfl, rfl⟩)
      | (go_at_call 10; refine (awake_true _).mono ?_; rintro e w99 ⟨rfl, hc99⟩; have fin := hid (((Chg.refl _ w).alloc _).trans_same hc99); clear hc99))
    go_ret
    exact ⟨rfl, fin.out.below (Nat.le_refl _) fun _ _ h => h⟩
  have hl1 := hid (decide_eq_false g1)
  by_cases g2 : 600 < ks.length
  · have hl2 := hid (decide_eq_true g2)
    clear g1 g2
    have tok1 : True := trivial
    go_enter Try.func3, Try.ntmps3
    go_wp2_with (first
      | (go_at_call 9; have _t := tok1; refine (large_any _ _ _ _ hl1.out).mono ?_; rintro e w' ⟨rfl, rfl⟩; clear tok1)
      | (go_at_call 9; refine (large_any _ _ _ _ hl2.out).mono ?_; rintro e w' ⟨rfl, rfl⟩)
      | (go_at_call 10; refine (awake_true _).mono ?_; rintro e w99 ⟨rfl, hc99⟩; have fin := hid (((Chg.refl _ w).alloc _).trans_same hc99); clear hc99))
    go_ret
    exact ⟨rfl, fin.out.below (Nat.le_refl _) fun _ _ h => h⟩
  have hl2 := hid (decide_eq_false g2)
  have n1 : vs.length ≤ 1000 := by omega
  have n2 : ks.length ≤ 1000 := by omega
  obtain ⟨r, hr⟩ : ∃ r, Hid (chkA ⟨k, o, f, vs, s, l, n, ks⟩ = r) := ⟨_, hid rfl⟩
  clear g1 g2
  have tok1 : True := trivial
  go_enter Try.func3, Try.ntmps3
  go_wp2_with (first
    | (go_at_call 9; have _t := tok1; refine (large_any _ _ _ _ hl1.out).mono ?_; rintro e w' ⟨rfl, rfl⟩; clear tok1)
    | (go_at_call 9; refine (large_any _ _ _ _ hl2.out).mono ?_; rintro e w' ⟨rfl, rfl⟩))
  refine wp_region_rc (id := 3) [.rd [0, 2], .act 1] [3, 4, 5, 6, 7, 8] [] (fun w' => Bk w' w.heap.size 28 (Ac.cs k o f (.slice A vs.length c) s l n (.slice A2 ks.length c2))) (by kernel_rfl) 20 rfl (by kernel_rfl) (fun _ _ _ _ _ h => h) hb0.out ?_
  refine steps_rdW ?_
  apply Exists.intro
  refine ⟨?_, ?_⟩
  focus
    rintro w' hS; obtain ⟨x0, x1, x2, x3, x4, x5, x6, x7, x8, x9, x10, x11, xlt⟩ := ac_box hS; clear hS
    iterate 2 (refine stW_step rfl (fun K hK => ?_); go_simp; refine hK _ ?_; clear hK K)
    exact stW_nil rfl
  refine steps_act (o := ⟨_, _, _, _, _, _⟩) rfl (fun K2 hK2 => ?_)
  go_wp2_with (go_at_call 11; refine (own_check (a := ⟨k, o, f, vs, s, l, n, ks⟩) hr.out hA.out hA2.out n1 n2).mono ?_; rintro e w1 ⟨rfl, hc1⟩; have hb1 := hid (hb0.out.none_ hc1); have hA1 := hid (Rd.none_ hA.out hc1); have hA21 := hid (Rd.none_ hA2.out hc1); have hC1 := hid ((((Chg.refl (fun _ => False) w).alloc _).drew).trans_same hc1); clear hc1)
  refine hK2 _ _ hb1.out rfl ?_
  clear hK2 K2
  refine steps_nil (l := [⟨_, _, _, _, _, _⟩, ⟨_, _, _, _, _, _⟩, ⟨_, _, _, _, _, _⟩, ⟨_, _, _, _, _, _⟩, ⟨_, _, _, _, _, _⟩, ⟨_, _, _, _, _, _⟩]) rfl (fun K2 hK2 => ?_)
  have tok1 : True := trivial
  have tok2 : True := trivial
  go_wp2_with (first
    | (go_at_call 12; refine (doc_check (a := ⟨k, o, f, vs, s, l, n, ks⟩) hr.out hA1.out hA21.out n1 n2).mono ?_; rintro e w2 ⟨rfl, hc2⟩; have hC2 := hid (hC1.out.trans_same hc2); clear hc2)
    | (go_at_call 10; refine (awake_true _).mono ?_; rintro e w99 ⟨rfl, hc99⟩; have fin := hid (hC2.out.trans_same hc99); clear hc99))
  refine hK2 _ _ rfl ?_
  clear hK2 K2
  refine stI_nil ?_
  go_wp2
  go_ret
  exact ⟨rfl, fin.out.below (Nat.le_refl _) fun _ _ h => h⟩
end Go.Proofs.Ytkkocoalildgnaa
