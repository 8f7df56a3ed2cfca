/-
  ProtocolReturns: the walk.
-/
import Derived.Test.YtkkocoalildgnaaAwake
namespace Go.Proofs.Ytkkocoalildgnaa
open Go.RowKit

set_option maxRecDepth 100000 in
set_option maxHeartbeats 4000000 in
theorem returns_true (w : World) (A : Option Addr) (vs : List V) (c : Nat) (v : V) (lv : Int) (s : ByteArray) (hA : Vs w A vs) (m1 : vs.length ≤ maxLen) (hs : s.size ≤ maxLen) :
    Calls Try.prog 4 #[.slice A vs.length c, (.agg #[.int .i64 v.k, .int .i64 v.p, .int .i64 v.q, .string v.s, .int .i64 v.r]), .int .i64 lv, .string s] w fun e w' => e = .returned (.bool true) ∧ Below w.heap.size w w' := by
  unfold maxLen at m1
  have hs := hid hs
  have hb0 : Hid (Bk (w.alloc (.cells v.cs.toArray 25)).drew w.heap.size 25 v.cs) := hid (Bk.new w 25 _).drew
  have hA := hid (Rd.none_ hA (((Chg.refl (fun _ => False) w).alloc (.cells v.cs.toArray 25)).drew))
  by_cases g1 : 600 < vs.length
  · have hl1 := hid (decide_eq_true g1)
    clear g1
    go_enter Try.func4, Try.ntmps4
    go_wp2_with (first
      | (go_at_call 9; refine (large_any _ _ _ _ hl1.out).mono ?_; rintro e w' ⟨rfl, rfl⟩)
      | (go_at_call 10; refine (awake_true _).mono ?_; rintro e w99 ⟨rfl, hc99⟩; have fin := hid (((Chg.refl _ w).alloc _).trans_same hc99); clear hc99))
    go_ret
    exact ⟨rfl, fin.out.below (Nat.le_refl _) fun _ _ h => h⟩
  have hl1 := hid (decide_eq_false g1)
  have n1 : vs.length ≤ 1000 := by omega
  clear g1
  go_enter Try.func4, Try.ntmps4
  go_wp2_with (go_at_call 9; refine (large_any _ _ _ _ hl1.out).mono ?_; rintro e w' ⟨rfl, rfl⟩)
  refine wp_region_rc (id := 3) [.wl [0, 2], .act 1, .act 3, .act 4, .rd [5, 6, 7, 9, 10], .act 8, .act 11, .act 12, .wl [13, 14, 15, 17]] [16, 18, 19, 20, 21, 22, 23, 24] [] (fun w' => Bk w' w.heap.size 25 v.cs) (by kernel_rfl) 36 rfl (by kernel_rfl) (fun _ _ _ _ _ h => h) hb0.out ?_
  refine steps_wlW ?_
  apply Exists.intro
  refine ⟨?_, ?_⟩
  focus
    intro w'
    iterate 2 (refine stW_step rfl (fun K hK => ?_); go_simp; refine hK _ ?_; clear hK K)
    exact stW_nil rfl
  refine steps_act (o := ⟨_, _, _, _, _, _⟩) rfl (fun K2 hK2 => ?_)
  go_wp2_with (go_at_call 14; refine (own_return _ A vs c hA.out n1).mono ?_; rintro e w1 ⟨B1, d1, C1, e1, rfl, hP1, hQ1, hc1⟩; have hP1 := hid hP1.vs; have hQ1 := hid hQ1.vs; have hC1 := hid ((((Chg.refl (fun _ => False) w).alloc _).drew).trans_same hc1); have hh1 := hid hc1; have hb1 := hid (hb0.out.none_ hc1); have hA1 := hid (Rd.none_ hA.out hc1); clear hc1)
  refine hK2 _ _ hb1.out rfl ?_
  clear hK2 K2
  refine steps_act (o := ⟨_, _, _, _, _, _⟩) rfl (fun K2 hK2 => ?_)
  go_wp2_with (go_at_call 15; refine (doc_return _ A vs c hA1.out n1).mono ?_; rintro e w2 ⟨B2, d2, C2, e2, rfl, hP2, hQ2, hc2⟩; have hP2 := hid hP2.vs; have hQ2 := hid hQ2.vs; have hC2 := hid (hC1.out.trans_same hc2); have hh2 := hid hc2; have hb2 := hid (hb1.out.none_ hc2); clear hc2)
  refine hK2 _ _ hb2.out rfl ?_
  clear hK2 K2
  refine steps_act (o := ⟨_, _, _, _, _, _⟩) rfl (fun K2 hK2 => ?_)
  go_wp2_with (go_at_call 13; refine (doc_same_eq (a := ⟨1, 0, V.zero, vs, ⟨#[]⟩, 0, 0, []⟩) (b := ⟨1, 0, V.zero, vs, ⟨#[]⟩, 0, 0, []⟩) (decide_eq_true rfl) (Rd.none_ hP1.out hh2.out) (Rd.none_ hQ1.out hh2.out) hP2.out hQ2.out n1 (by simp) n1 (by simp)).mono ?_; rintro e w3 ⟨rfl, hc3⟩; have hC3 := hid (hC2.out.trans_same hc3); have hh3 := hid hc3; have hb3 := hid (hb2.out.none_ hc3); clear hc3)
  refine hK2 _ _ hb3.out rfl ?_
  clear hK2 K2
  refine steps_rdW ?_
  apply Exists.intro
  refine ⟨?_, ?_⟩
  focus
    rintro w' hS; obtain ⟨x0, x1, x2, x3, x4⟩ := V.box hS; clear hS
    iterate 5 (refine stW_step rfl (fun K hK => ?_); go_simp; refine hK _ ?_; clear hK K)
    exact stW_nil rfl
  refine steps_act (o := ⟨_, _, _, _, _, _⟩) rfl (fun K2 hK2 => ?_)
  go_wp2_with (go_at_call 16; refine (own_fail _ v lv).mono ?_; rintro e w4 ⟨B4, d4, C4, e4, rfl, hP4, hQ4, hc4⟩; have hP4 := hid hP4.vs; have hQ4 := hid hQ4.vs; have hC4 := hid (hC3.out.trans_same hc4); have hh4 := hid hc4; have hb4 := hid (hb3.out.none_ hc4); clear hc4)
  refine hK2 _ _ hb4.out rfl ?_
  clear hK2 K2
  refine steps_act (o := ⟨_, _, _, _, _, _⟩) rfl (fun K2 hK2 => ?_)
  go_wp2_with (go_at_call 17; refine (doc_fail _ v lv).mono ?_; rintro e w5 ⟨B5, d5, C5, e5, rfl, hP5, hQ5, hc5⟩; have hP5 := hid hP5.vs; have hQ5 := hid hQ5.vs; have hC5 := hid (hC4.out.trans_same hc5); have hh5 := hid hc5; have hb5 := hid (hb4.out.none_ hc5); clear hc5)
  refine hK2 _ _ hb5.out rfl ?_
  clear hK2 K2
  refine steps_act (o := ⟨_, _, _, _, _, _⟩) rfl (fun K2 hK2 => ?_)
  go_wp2_with (go_at_call 13; refine (doc_same_eq (a := ⟨2, 0, V.zero, [v], ⟨#[]⟩, lv, 0, []⟩) (b := ⟨2, 0, V.zero, [v], ⟨#[]⟩, lv, 0, []⟩) (decide_eq_true rfl) (Rd.none_ hP4.out hh5.out) (Rd.none_ hQ4.out hh5.out) hP5.out hQ5.out (by simp) (by simp) (by simp) (by simp)).mono ?_; rintro e w6 ⟨rfl, hc6⟩; have hC6 := hid (hC5.out.trans_same hc6); have hh6 := hid hc6; have hb6 := hid (hb5.out.none_ hc6); clear hc6)
  refine hK2 _ _ hb6.out rfl ?_
  clear hK2 K2
  refine steps_wlW ?_
  apply Exists.intro
  refine ⟨?_, ?_⟩
  focus
    intro w'
    iterate 4 (refine stW_step rfl (fun K hK => ?_); go_simp; refine hK _ ?_; clear hK K)
    exact stW_nil rfl
  refine steps_nil (l := [⟨_, _, _, _, _, _⟩, ⟨_, _, _, _, _, _⟩, ⟨_, _, _, _, _, _⟩, ⟨_, _, _, _, _, _⟩, ⟨_, _, _, _, _, _⟩, ⟨_, _, _, _, _, _⟩, ⟨_, _, _, _, _, _⟩, ⟨_, _, _, _, _, _⟩]) rfl (fun K2 hK2 => ?_)
  have tok1 : True := trivial
  have tok2 : True := trivial
  go_wp2_with (first
    | (go_at_call 18; refine (own_error _ s hs.out).mono ?_; rintro e w7 ⟨B7, d7, C7, e7, rfl, hP7, hQ7, hc7⟩; have hP7 := hid hP7.vs; have hQ7 := hid hQ7.vs; have hC7 := hid (hC6.out.trans_same hc7); have hh7 := hid hc7; clear hc7)
    | (go_at_call 19; refine (doc_error _ s hs.out).mono ?_; rintro e w8 ⟨B8, d8, C8, e8, rfl, hP8, hQ8, hc8⟩; have hP8 := hid hP8.vs; have hQ8 := hid hQ8.vs; have hC8 := hid (hC7.out.trans_same hc8); have hh8 := hid hc8; clear hc8)
    | (go_at_call 13; refine (doc_same_eq (a := ⟨2, 0, V.zero, [⟨3, 0, 0, cut s, 0⟩], ⟨#[]⟩, 1, 0, []⟩) (b := ⟨2, 0, V.zero, [⟨3, 0, 0, cut s, 0⟩], ⟨#[]⟩, 1, 0, []⟩) (decide_eq_true rfl) (Rd.none_ hP7.out hh8.out) (Rd.none_ hQ7.out hh8.out) hP8.out hQ8.out (by simp) (by simp) (by simp) (by simp)).mono ?_; rintro e w9 ⟨rfl, hc9⟩; have hC9 := hid (hC8.out.trans_same hc9); have hh9 := hid hc9; clear hc9)
    | (go_at_call 10; refine (awake_true _).mono ?_; rintro e w99 ⟨rfl, hc99⟩; have fin := hid (hC9.out.trans_same hc99); clear hc99))
  refine hK2 _ _ rfl ?_
  clear hK2 K2
  refine stI_nil ?_
  go_wp2
  go_ret
  exact ⟨rfl, fin.out.below (Nat.le_refl _) fun _ _ h => h⟩
end Go.Proofs.Ytkkocoalildgnaa
