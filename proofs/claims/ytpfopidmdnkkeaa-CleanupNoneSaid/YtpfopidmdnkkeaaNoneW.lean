/-
  CleanupNone: the walk.
-/
import Derived.Test.YtpfopidmdnkkeaaHeld
import Derived.Test.YtpfopidmdnkkeaaRegion3
namespace Go.Proofs.Ytpfopidmdnkkeaa
open Go.RowKit Go.Maps

set_option maxRecDepth 100000 in
set_option maxHeartbeats 8000000 in
theorem none_true (w : World) (reg : Int) (v : V) :
    Calls Try.prog 3 #[.int .i64 reg, (.agg #[.int .i64 v.k, .int .i64 v.p, .int .i64 v.q, .string v.s, .int .i64 v.r])] w fun e w' => e = .returned (.bool true) ∧ Below w.heap.size w w' := by
  have hX0 := hid (Bk.new w 25 v.cs)
  have hC0 := hid ((Chg.refl (fun _ => False) w).alloc (.cells v.cs.toArray 25))
  go_enter Try.func3, Try.ntmps3
  go_wp2_with fail
  refine (own_fail_nil _ v none 0 0).mono ?_
  rintro e w1 ⟨rfl, hc1⟩
  have hX1 := hid (hX0.out.none_ hc1)
  have hC1 := hid (hC0.out.trans_same hc1)
  obtain ⟨x0, x1, x2, x3, x4⟩ := V.box hX1.out
  have hlx := hX1.out.lt
  clear hc1 hX0 hC0
  go_wp2_with fail
  refine (own_pop_nil w1 reg).mono ?_
  rintro e w2 ⟨rfl, hc2⟩
  have hX2 := hid ((hX1.out.none_ hc2).alloc (.cells V.zero.cs.toArray 25))
  have hC2 := hid ((hC1.out.trans_same hc2).alloc (.cells V.zero.cs.toArray 25))
  have hB2 := hid (Bk.new w2 25 V.zero.cs)
  clear hc2 hX1 hC1 x0 x1 x2 x3 x4 hlx
  go_wp2_with fail
  refine (own_failure_nil _).mono ?_
  rintro e w3 ⟨rfl, hc3⟩
  have hX3 := hid (hX2.out.none_ hc3)
  have hB3 := hid (hB2.out.none_ hc3)
  have hC3 := hid (hC2.out.trans_same hc3)
  obtain ⟨x0, x1, x2, x3, x4⟩ := V.box hX3.out
  have hlx := hX3.out.lt
  have hX4 := hid (hX3.out.alloc (.cells #[.int .i64 V.zero.k, .int .i64 V.zero.p, .int .i64 V.zero.q, .string V.zero.s, .int .i64 V.zero.r, .slice none 0 0] 30))
  have hB4 := hid (hB3.out.alloc (.cells #[.int .i64 V.zero.k, .int .i64 V.zero.p, .int .i64 V.zero.q, .string V.zero.s, .int .i64 V.zero.r, .slice none 0 0] 30))
  have hC4 := hid (hC3.out.alloc (.cells #[.int .i64 V.zero.k, .int .i64 V.zero.p, .int .i64 V.zero.q, .string V.zero.s, .int .i64 V.zero.r, .slice none 0 0] 30))
  have hF4 := hid (Bk.new w3 30 [.int .i64 V.zero.k, .int .i64 V.zero.p, .int .i64 V.zero.q, .string V.zero.s, .int .i64 V.zero.r, .slice none 0 0])
  clear hc3 hX2 hB2 hC2 hX3 hB3 hC3
  go_wp2_with fail
  refine (own_push_nil _ reg v).mono ?_
  rintro e w4 ⟨rfl, hc4⟩
  have hX5 := hid (hX4.out.none_ hc4)
  have hB5 := hid (hB4.out.none_ hc4)
  have hF5 := hid (hF4.out.none_ hc4)
  have hC5 := hid (hC4.out.trans_same hc4)
  obtain ⟨b0, b1, b2, b3, b4⟩ := V.box hB5.out
  simp only [V.zero] at b0 b1 b2 b3 b4
  have hlb := hB5.out.lt
  clear hc4 hX4 hB4 hF4 hC4 x0 x1 x2 x3 x4 hlx
  go_wp2_with fail
  refine (own_len_nil _).mono ?_
  rintro e w5 ⟨rfl, rfl⟩
  go_wp2_with fail
  refine (own_values_nil _).mono ?_
  rintro e w5 ⟨rfl, rfl⟩
  clear b0 b1 b2 b3 b4 hlb
  obtain ⟨f0, f1, f2, f3, f4, f5⟩ := FB.box hF5.out
  simp only [V.zero] at f0 f1 f2 f3 f4
  have hlf := hF5.out.lt
  obtain ⟨x0, x1, x2, x3, x4⟩ := V.box hX5.out
  have hlx := hX5.out.lt
  go_wp2_with fail
  refine (own_args_nil _ v).mono ?_
  rintro e w6 ⟨rfl, hc6⟩
  have hX6 := hid (hX5.out.none_ hc6)
  have hC6 := hid (hC5.out.trans_same hc6)
  clear hc6 hX5 hC5 hB5 hF5 f0 f1 f2 f3 f4 f5 hlf x0 x1 x2 x3 x4 hlx
  go_wp2_with fail
  refine (own_new_one w6).mono ?_
  rintro e w7 ⟨o, rfl, hO', hc7⟩
  obtain ⟨S, hS', hfix⟩ := hO'.fix
  have hO7 := hid hO'
  have hX7 := hid (hX6.out.none_ hc7)
  have hC7 := hid (hC6.out.trans_same hc7)
  have hx7 := hX7.out.lt
  have hz6 : w6.heap.size ≤ w7.heap.size := hc7.size
  have hx6 := hX6.out.lt
  clear hc7 hX6 hC6 hO' hS' hfix
  go_wp2_with fail
  refine (o_pop hO7.out hz6 (by simp) reg (pop_no (.inl rfl))).mono ?_
  rintro e w8 ⟨rfl, hO', hc8⟩
  have hX8 := hid ((hX7.out.twoChg hc8 id (by omega)).alloc (.cells V.zero.cs.toArray 25))
  have hO8 := hid (hO'.none_ ((Chg.refl (fun _ => False) w8).alloc (.cells V.zero.cs.toArray 25)))
  have hC8 := hid ((chg_new hC7.out hc8 (fun _ h => h.elim) (by omega)).alloc (.cells V.zero.cs.toArray 25))
  clear hO' hc8 hX7 hO7 hC7
  go_wp2_with fail
  refine (o_failure hO8.out (x := V.zero) (b := false) (l := []) rfl rfl rfl (by simp)).mono ?_
  rintro e w9 ⟨A1, k1, rfl, -, hc9⟩
  have hX9 := hid (((hX8.out.none_ hc9).alloc (.cells #[.int .i64 V.zero.k, .int .i64 V.zero.p, .int .i64 V.zero.q, .string V.zero.s, .int .i64 V.zero.r, .slice A1 0 k1] 30)).drew)
  have hO9 := hid (((hO8.out.none_ hc9).none_ ((Chg.refl (fun _ => False) w9).alloc (.cells #[.int .i64 V.zero.k, .int .i64 V.zero.p, .int .i64 V.zero.q, .string V.zero.s, .int .i64 V.zero.r, .slice A1 0 k1] 30))).none_ ((Chg.refl (fun _ => False) _).drew))
  have hC9 := hid (((hC8.out.trans_same hc9).alloc (.cells #[.int .i64 V.zero.k, .int .i64 V.zero.p, .int .i64 V.zero.q, .string V.zero.s, .int .i64 V.zero.r, .slice A1 0 k1] 30)).drew)
  clear hc9 hX8 hO8 hC8
  go_wp2_with fail
  refine wp_region_two (id := 12) [.wl [0], .act 1, .rd [2, 3, 4, 5, 6, 7, 8, 9, 10, 11, 12, 13, 15, 16]] 14 17 [18, 19, 20, 21, 22, 23] [] (fun w' => Bk w' w.heap.size 25 v.cs) (by kernel_rfl) 107 rfl (by kernel_rfl) (fun _ _ _ _ _ h => h) hX9.out ?_
  refine steps_wlW ?_
  apply Exists.intro
  refine ⟨?_, ?_⟩
  focus
    intro w'
    iterate 1 (refine stW_step rfl (fun K hK => ?_); go_simp; refine hK _ ?_; clear hK K)
    exact stW_nil rfl
  refine steps_act (o := ⟨_, _, _, _, _, _⟩) rfl (fun K2 hK2 => ?_)
  go_wp2_with fail
  refine (o_len hO9.out (n := 0) rfl).mono ?_
  rintro e wa ⟨rfl, rfl⟩
  go_wp2_with fail
  refine hK2 _ _ hX9.out rfl ?_
  clear hK2 K2
  refine steps_rdW ?_
  apply Exists.intro
  refine ⟨?_, ?_⟩
  focus
    rintro w' hS
    obtain ⟨p0, p1, p2, p3, p4⟩ := V.box hS
    clear hS
    iterate 14 (refine stW_step rfl (fun K hK => ?_); go_simp; refine hK _ ?_; clear hK K)
    exact stW_nil rfl
  refine steps_two (o := ⟨_, _, _, _, _, _⟩) (o' := ⟨_, _, _, _, _, _⟩) rfl rfl (fun K2 hK2 => ?_) (fun K2 hK2 => ?_)
  case' refine_1 =>
    go_wp2_with fail
    refine (o_args hO9.out v (x := V.zero) rfl).mono ?_
    rintro e wb ⟨A2, k2, rfl, hR', hcb⟩
    have hXb := hid (hX9.out.none_ hcb)
    have hXc := hid (hXb.out.alloc (.cells #[.int .i64 v.k, .int .i64 v.p, .int .i64 v.q, .string v.s, .int .i64 v.r, .int .i64 V.zero.k, .int .i64 V.zero.p, .int .i64 V.zero.q, .string V.zero.s, .int .i64 V.zero.r] 25))
    have hRf := hid (hR'.alloc (.cells #[.int .i64 v.k, .int .i64 v.p, .int .i64 v.q, .string v.s, .int .i64 v.r, .int .i64 V.zero.k, .int .i64 V.zero.p, .int .i64 V.zero.q, .string V.zero.s, .int .i64 V.zero.r] 25))
    have hQf := hid (two_row wb wb v V.zero rfl (Nat.le_refl _)).own
    have hCf := hid ((hC9.out.trans_same hcb).alloc (.cells #[.int .i64 v.k, .int .i64 v.p, .int .i64 v.q, .string v.s, .int .i64 v.r, .int .i64 V.zero.k, .int .i64 V.zero.p, .int .i64 V.zero.q, .string V.zero.s, .int .i64 V.zero.r] 25))
    clear hcb hR'
    go_wp2_with fail
    refine hK2 _ _ hXb.out rfl (fun K3 hK3 => ?_)
    clear hK2 K2
    go_wp2_with fail
    refine hK3 _ _ hXc.out rfl ?_
    clear hK3 K3
    refine end_mk (l := [⟨_, _, _, _, _, _⟩, ⟨_, _, _, _, _, _⟩, ⟨_, _, _, _, _, _⟩, ⟨_, _, _, _, _, _⟩, ⟨_, _, _, _, _, _⟩, ⟨_, _, _, _, _, _⟩]) rfl (fun K2 hK2 => ?_)
  case' refine_2 =>
    have hO10 := hid (hO9.out.none_ ((Chg.refl (fun _ => False) _).alloc (.cells #[.int .i64 v.k, .int .i64 v.p, .int .i64 v.q, .string v.s, .int .i64 v.r, .int .i64 V.zero.k, .int .i64 V.zero.p, .int .i64 V.zero.q, .string V.zero.s, .int .i64 V.zero.r] 25)))
    have hX10 := hid (hX9.out.alloc (.cells #[.int .i64 v.k, .int .i64 v.p, .int .i64 v.q, .string v.s, .int .i64 v.r, .int .i64 V.zero.k, .int .i64 V.zero.p, .int .i64 V.zero.q, .string V.zero.s, .int .i64 V.zero.r] 25))
    have hQb := hid (two_row w9 (w9.alloc (.cells #[.int .i64 V.zero.k, .int .i64 V.zero.p, .int .i64 V.zero.q, .string V.zero.s, .int .i64 V.zero.r, .slice A1 0 k1] 30)) v V.zero (H := w9.heap.size + 1) (by simp) (Nat.le_succ _)).drew.own
    have hC10 := hid (hC9.out.alloc (.cells #[.int .i64 v.k, .int .i64 v.p, .int .i64 v.q, .string v.s, .int .i64 v.r, .int .i64 V.zero.k, .int .i64 V.zero.p, .int .i64 V.zero.q, .string V.zero.s, .int .i64 V.zero.r] 25))
    go_wp2_with fail
    refine hK2 _ _ hX10.out rfl (fun K3 hK3 => ?_)
    clear hK2 K2
    go_wp2_with fail
    refine (o_args hO10.out v (x := V.zero) rfl).mono ?_
    rintro e wb ⟨A2, k2, rfl, hR', hcb⟩
    have hXb := hid (hX10.out.none_ hcb)
    have hRf := hid hR'
    have hQf := hid (own_chg hQb.out hcb fun _ _ h => h)
    have hCf := hid (hC10.out.trans_same hcb)
    clear hcb hR' hQb
    go_wp2_with fail
    refine hK3 _ _ hXb.out rfl ?_
    clear hK3 K3
    refine end_mk (l := [⟨_, _, _, _, _, _⟩, ⟨_, _, _, _, _, _⟩, ⟨_, _, _, _, _, _⟩, ⟨_, _, _, _, _, _⟩, ⟨_, _, _, _, _, _⟩, ⟨_, _, _, _, _, _⟩]) rfl (fun K2 hK2 => ?_)
  all_goals
    go_wp2_with fail
    refine (values_own (n := 2) (m := 2) rfl rfl hRf.out.own hQf.out (by omega) (by omega) (decide_eq_true rfl)).mono ?_
    rintro e wc ⟨rfl, hcc⟩
    have hCc := hid (hCf.out.trans_same hcc)
    clear hcc hCf hRf hQf
    go_wp2_with fail
    refine (awake_true _).mono ?_
    rintro e wd ⟨rfl, hcd⟩
    have fin := hid (none_below (hCc.out.trans_same hcd))
    clear hcd hCc
    go_wp2_with fail
    refine hK2 _ _ rfl ?_
    clear hK2 K2
    refine stI_nil ?_
    go_wp2_with fail
    go_ret
    exact ⟨rfl, fin.out⟩
end Go.Proofs.Ytpfopidmdnkkeaa
