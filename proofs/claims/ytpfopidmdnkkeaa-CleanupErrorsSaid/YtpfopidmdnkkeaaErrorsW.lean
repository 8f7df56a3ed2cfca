/-
  CleanupErrors: the walk.
-/
import Derived.Test.YtpfopidmdnkkeaaHeld
import Derived.Test.YtpfopidmdnkkeaaRegion3
import Derived.Test.YtpfopidmdnkkeaaWrap2
namespace Go.Proofs.Ytpfopidmdnkkeaa
open Go.RowKit Go.Maps

set_option maxRecDepth 100000 in
set_option maxHeartbeats 8000000 in
theorem errors_true (w : World) (A : Option Addr) (l : List OpV) (k : Nat) (x : V) (At : Option Addr) (tr : List Pl) (kt : Nat) (v : V) (hl : Rd w 7 A l.length (l.flatMap OpV.cs)) (ht : Rd w 3 At tr.length (tr.flatMap Pl.cs)) :
    Calls Try.prog 7 #[.slice A l.length k, .agg #[.int .i64 x.k, .int .i64 x.p, .int .i64 x.q, .string x.s, .int .i64 x.r, .slice At tr.length kt], (.agg #[.int .i64 v.k, .int .i64 v.p, .int .i64 v.q, .string v.s, .int .i64 v.r])] w fun e w' => e = .returned (.bool true) ∧ Below w.heap.size w w' := by
  have hC0 := hid (((Chg.refl (fun _ => False) w).alloc (.cells #[.int .i64 x.k, .int .i64 x.p, .int .i64 x.q, .string x.s, .int .i64 x.r, .slice At tr.length kt] 30)).alloc (.cells v.cs.toArray 25))
  obtain ⟨nt, hnt⟩ : ∃ nt, Hid (tr.length = nt) := ⟨_, hid rfl⟩
  have htr := hid ht
  rw [hnt.out] at hC0 ⊢
  clear ht
  refine (Classical.em (300 < l.length)).elim ?lg ?sm
  case' lg =>
    intro hs
    go_enter Try.func7, Try.ntmps7
    go_wp2_with fail
    refine (large_any _ A l.length k (decide_eq_true hs)).mono ?_
    rintro e w1 ⟨rfl, rfl⟩
    clear hs
    go_wp2_with fail
  case' sm =>
    intro hs
    refine (Classical.em (300 < nt)).elim ?lg2 ?sm2
    case' lg2 =>
      intro ht
      have dt : decide ((300 : Int) < (nt : Int)) = true := by simp; omega
      go_enter Try.func7, Try.ntmps7
      go_wp2_with fail
      refine (large_any _ A l.length k (decide_eq_false hs)).mono ?_
      rintro e w1 ⟨rfl, rfl⟩
      clear hs ht
      go_wp2_with fail
  case' sm2 =>
    intro ht
    have dt : decide ((300 : Int) < (nt : Int)) = false := by simp; omega
    have hl := hid (hl.none_ hC0.out)
    have htrr := hid (htr.out.none_ hC0.out)
    have hs' := hid (decide_eq_false hs)
    have hs2 : l.length ≤ 300 := by omega
    have hnt2 : nt ≤ 300 := by omega
    have hX0 := hid (Bk.new_at (w.alloc (.cells #[.int .i64 x.k, .int .i64 x.p, .int .i64 x.q, .string x.s, .int .i64 x.r, .slice At nt kt] 30)) 25 v.cs.toArray (w.heap.size + 1) (by simp))
    have hF0 := hid ((Bk.new w 30 [.int .i64 x.k, .int .i64 x.p, .int .i64 x.q, .string x.s, .int .i64 x.r, .slice At nt kt]).alloc (.cells v.cs.toArray 25))
    clear hs ht
    go_enter Try.func7, Try.ntmps7
    go_wp2_with fail
    refine (large_any _ A l.length k hs'.out).mono ?_
    rintro e w0 ⟨rfl, rfl⟩
    clear hs'
    go_wp2_with fail
    refine (made_true _ A l k hl.out hs2).mono ?_
    rintro e w1 ⟨o, r, rfl, es, fl, hT', hm', hsm', hz', hC'⟩
    have hH1 := hid (Held.bare hT' hC')
    have hm := hid hm'
    generalize l.length = j at hH1 hs2 hm
    clear hT' hC' hm' hsm' hz' hl dt
    have hF1 := hid (hF0.out.none_ hH1.out.chg)
    obtain ⟨x0, x1, x2, x3, x4, x5⟩ := FB.box hF1.out
    have hlx := hF1.out.lt
    go_wp2_with fail
    refine (p_fail_eq hH1.out.two hH1.out.hN x At tr kt hnt.out (htrr.out.none_ hH1.out.chg) (by omega)).mono ?_
    rintro e w2 ⟨rfl, hT', hc2⟩
    have hH2 := hid (hH1.out.post hT' hc2)
    clear hT' hc2 hH1 x0 x1 x2 x3 x4 x5 hlx hF1
    go_wp2_with fail
    refine (num_nv _ 1).mono ?_
    rintro e w3 ⟨rfl, hc3⟩
    have hH3 := hid (hH2.out.none_ hc3)
    obtain ⟨e1, es1, hp1⟩ : ∃ e1 es1, Hid (push es 2147483647 (nv 1) = (e1, es1)) := ⟨_, _, hid rfl⟩
    have hl1 : Hid (es1.length ≤ 1000) := hid (by have := push_len es 2147483647 (nv 1); rw [hp1.out] at this; have := hm.out; simp only at *; omega)
    clear hc3 hH2
    go_wp2_with fail
    refine (p_push hH3.out.two hH3.out.hN (by have := hm.out; omega) (by omega) 2147483647 (nv 1) hp1.out).mono ?_
    rintro e w4 ⟨rfl, hT', hc4⟩
    have hH4 := hid (hH3.out.post hT' hc4)
    clear hT' hc4 hH3
    obtain ⟨v1, b1, es2, hp2⟩ : ∃ v1 b1 es2, Hid (pop es1 0 = (v1, b1, es2)) := ⟨_, _, _, hid rfl⟩
    go_wp2_with fail
    refine (p_pop hH4.out.two hH4.out.hN hl1.out 0 hp2.out).mono ?_
    rintro e w5 ⟨rfl, hT', hc5⟩
    have hH5 := hid (hH4.out.post hT' hc5)
    clear hT' hc5 hH4
    go_wp2_with fail
    refine (o_failure hH5.out.two.one (x := x) (b := true) (l := tr) rfl rfl rfl (by rw [hnt.out]; omega)).mono ?_
    rintro e w6 ⟨A6, k6, rfl, hR', hc6⟩
    rw [hnt.out] at hR' ⊢
    have hH6 := hid (((hH5.out.none_ hc6).alloc (.cells #[.int .i64 x.k, .int .i64 x.p, .int .i64 x.q, .string x.s, .int .i64 x.r, .slice A6 nt k6] 30)).drew)
    have hG6 := hid ((Bk.new w6 30 [.int .i64 x.k, .int .i64 x.p, .int .i64 x.q, .string x.s, .int .i64 x.r, .slice A6 nt k6]).drew)
    have hR6 := hid ((hR'.alloc (.cells #[.int .i64 x.k, .int .i64 x.p, .int .i64 x.q, .string x.s, .int .i64 x.r, .slice A6 nt k6] 30)).drew)
    clear hR' hc6 hH5
    have hF6 := hid (hF0.out.none_ hH6.out.chg)
    have hX6 := hid (hX0.out.none_ hH6.out.chg)
    have htr6 := hid (htrr.out.none_ hH6.out.chg)
    go_wp2_with fail
    refine wp_region_two (id := 10) [.rd [0, 1, 2, 3], .act 4, .rd [5, 6, 7, 8, 10, 11, 12]] 9 13 [14, 15, 16, 17, 18, 19] [] (fun w' => Bk w' w.heap.size 30 [.int .i64 x.k, .int .i64 x.p, .int .i64 x.q, .string x.s, .int .i64 x.r, .slice At nt kt] ∧ Bk w' (w.heap.size + 1) 25 v.cs ∧ Bk w' w6.heap.size 30 [.int .i64 x.k, .int .i64 x.p, .int .i64 x.q, .string x.s, .int .i64 x.r, .slice A6 nt k6]) (by kernel_rfl) 59 rfl (by kernel_rfl) (fun _ _ _ _ _ h => h) ⟨hF6.out, hX6.out, hG6.out⟩ ?_
    refine steps_rdW ?_
    apply Exists.intro
    refine ⟨?_, ?_⟩
    focus
      rintro w' ⟨hS, hSb, hSc⟩
      obtain ⟨p0, p1, p2, p3, p4, p5⟩ := FB.box hS
      obtain ⟨q0, q1, q2, q3, q4, q5⟩ := FB.box hSc
      clear hS hSb hSc
      iterate 4 (refine stW_step rfl (fun K hK => ?_); go_simp; refine hK _ ?_; clear hK K)
      exact stW_nil rfl
    refine steps_act (o := ⟨_, _, _, _, _, _⟩) rfl (fun K2 hK2 => ?_)
    go_wp2_with fail
    refine (failure_same _ x At A6 tr nt kt k6 hnt.out htr6.out (by rw [hnt.out]; exact hR6.out.rd) (by omega)).mono ?_
    rintro e w7 ⟨rfl, hc7⟩
    have hS7 := hid (show Bk w7 w.heap.size 30 [.int .i64 x.k, .int .i64 x.p, .int .i64 x.q, .string x.s, .int .i64 x.r, .slice At nt kt] ∧ Bk w7 (w.heap.size + 1) 25 v.cs ∧ Bk w7 w6.heap.size 30 [.int .i64 x.k, .int .i64 x.p, .int .i64 x.q, .string x.s, .int .i64 x.r, .slice A6 nt k6] from ⟨hF6.out.none_ hc7, hX6.out.none_ hc7, hG6.out.none_ hc7⟩)
    have hH7 := hid (hH6.out.none_ hc7)
    clear hc7 hF6 hX6 hG6 hR6 htr6 hH6
    go_wp2_with fail
    refine hK2 _ _ hS7.out rfl ?_
    clear hK2 K2
    refine steps_rdW ?_
    apply Exists.intro
    refine ⟨?_, ?_⟩
    focus
      rintro w' ⟨hS, hSb, hSc⟩
      obtain ⟨p0, p1, p2, p3, p4, p5⟩ := FB.box hS
      obtain ⟨q0, q1, q2, q3, q4⟩ := V.box hSb
      clear hS hSb hSc
      iterate 7 (refine stW_step rfl (fun K hK => ?_); go_simp; refine hK _ ?_; clear hK K)
      exact stW_nil rfl
    refine steps_two (o := ⟨_, _, _, _, _, _⟩) (o' := ⟨_, _, _, _, _, _⟩) rfl rfl (fun K2 hK2 => ?_) (fun K2 hK2 => ?_)
    case' refine_1 =>
      go_wp2_with fail
      refine (o_args hH7.out.two.one v (x := x) rfl).mono ?_
      rintro e wb ⟨A8, k8, rfl, hR', hcb⟩
      have hSb := hid (show Bk wb w.heap.size 30 [.int .i64 x.k, .int .i64 x.p, .int .i64 x.q, .string x.s, .int .i64 x.r, .slice At nt kt] ∧ Bk wb (w.heap.size + 1) 25 v.cs ∧ Bk wb w6.heap.size 30 [.int .i64 x.k, .int .i64 x.p, .int .i64 x.q, .string x.s, .int .i64 x.r, .slice A6 nt k6] from ⟨hS7.out.1.none_ hcb, hS7.out.2.1.none_ hcb, hS7.out.2.2.none_ hcb⟩)
      have hSc := hid (show Bk (wb.alloc (.cells #[.int .i64 v.k, .int .i64 v.p, .int .i64 v.q, .string v.s, .int .i64 v.r, .int .i64 x.k, .int .i64 x.p, .int .i64 x.q, .string x.s, .int .i64 x.r] 25)) w.heap.size 30 [.int .i64 x.k, .int .i64 x.p, .int .i64 x.q, .string x.s, .int .i64 x.r, .slice At nt kt] ∧ Bk (wb.alloc (.cells #[.int .i64 v.k, .int .i64 v.p, .int .i64 v.q, .string v.s, .int .i64 v.r, .int .i64 x.k, .int .i64 x.p, .int .i64 x.q, .string x.s, .int .i64 x.r] 25)) (w.heap.size + 1) 25 v.cs ∧ Bk (wb.alloc (.cells #[.int .i64 v.k, .int .i64 v.p, .int .i64 v.q, .string v.s, .int .i64 v.r, .int .i64 x.k, .int .i64 x.p, .int .i64 x.q, .string x.s, .int .i64 x.r] 25)) w6.heap.size 30 [.int .i64 x.k, .int .i64 x.p, .int .i64 x.q, .string x.s, .int .i64 x.r, .slice A6 nt k6] from ⟨hSb.out.1.alloc _, hSb.out.2.1.alloc _, hSb.out.2.2.alloc _⟩)
      have hRf := hid ((hR'.alloc (.cells #[.int .i64 v.k, .int .i64 v.p, .int .i64 v.q, .string v.s, .int .i64 v.r, .int .i64 x.k, .int .i64 x.p, .int .i64 x.q, .string x.s, .int .i64 x.r] 25)).own)
      have hQf := hid (two_row wb wb v x rfl (Nat.le_refl _)).own
      have hHf := hid ((hH7.out.none_ hcb).alloc (.cells #[.int .i64 v.k, .int .i64 v.p, .int .i64 v.q, .string v.s, .int .i64 v.r, .int .i64 x.k, .int .i64 x.p, .int .i64 x.q, .string x.s, .int .i64 x.r] 25))
      clear hcb hR' hH7
      go_wp2_with fail
      refine hK2 _ _ hSb.out rfl (fun K3 hK3 => ?_)
      clear hK2 K2
      go_wp2_with fail
      refine hK3 _ _ hSc.out rfl ?_
      clear hK3 K3
      refine end_mk (l := [⟨_, _, _, _, _, _⟩, ⟨_, _, _, _, _, _⟩, ⟨_, _, _, _, _, _⟩, ⟨_, _, _, _, _, _⟩, ⟨_, _, _, _, _, _⟩, ⟨_, _, _, _, _, _⟩]) rfl (fun K2 hK2 => ?_)
    case' refine_2 =>
      have hHb := hid (hH7.out.alloc (.cells #[.int .i64 v.k, .int .i64 v.p, .int .i64 v.q, .string v.s, .int .i64 v.r, .int .i64 x.k, .int .i64 x.p, .int .i64 x.q, .string x.s, .int .i64 x.r] 25))
      have hQb := hid (two_row w7 w7 v x rfl (Nat.le_refl _)).own
      have hSb := hid (show Bk (w7.alloc (.cells #[.int .i64 v.k, .int .i64 v.p, .int .i64 v.q, .string v.s, .int .i64 v.r, .int .i64 x.k, .int .i64 x.p, .int .i64 x.q, .string x.s, .int .i64 x.r] 25)) w.heap.size 30 [.int .i64 x.k, .int .i64 x.p, .int .i64 x.q, .string x.s, .int .i64 x.r, .slice At nt kt] ∧ Bk (w7.alloc (.cells #[.int .i64 v.k, .int .i64 v.p, .int .i64 v.q, .string v.s, .int .i64 v.r, .int .i64 x.k, .int .i64 x.p, .int .i64 x.q, .string x.s, .int .i64 x.r] 25)) (w.heap.size + 1) 25 v.cs ∧ Bk (w7.alloc (.cells #[.int .i64 v.k, .int .i64 v.p, .int .i64 v.q, .string v.s, .int .i64 v.r, .int .i64 x.k, .int .i64 x.p, .int .i64 x.q, .string x.s, .int .i64 x.r] 25)) w6.heap.size 30 [.int .i64 x.k, .int .i64 x.p, .int .i64 x.q, .string x.s, .int .i64 x.r, .slice A6 nt k6] from ⟨hS7.out.1.alloc _, hS7.out.2.1.alloc _, hS7.out.2.2.alloc _⟩)
      clear hH7
      go_wp2_with fail
      refine hK2 _ _ hSb.out rfl (fun K3 hK3 => ?_)
      clear hK2 K2
      go_wp2_with fail
      refine (o_args hHb.out.two.one v (x := x) rfl).mono ?_
      rintro e wb ⟨A8, k8, rfl, hR', hcb⟩
      have hSc := hid (show Bk wb w.heap.size 30 [.int .i64 x.k, .int .i64 x.p, .int .i64 x.q, .string x.s, .int .i64 x.r, .slice At nt kt] ∧ Bk wb (w.heap.size + 1) 25 v.cs ∧ Bk wb w6.heap.size 30 [.int .i64 x.k, .int .i64 x.p, .int .i64 x.q, .string x.s, .int .i64 x.r, .slice A6 nt k6] from ⟨hSb.out.1.none_ hcb, hSb.out.2.1.none_ hcb, hSb.out.2.2.none_ hcb⟩)
      have hRf := hid hR'.own
      have hQf := hid (own_chg hQb.out hcb fun _ _ h => h)
      have hHf := hid (hHb.out.none_ hcb)
      clear hcb hR' hHb hQb
      go_wp2_with fail
      refine hK3 _ _ hSc.out rfl ?_
      clear hK3 K3
      refine end_mk (l := [⟨_, _, _, _, _, _⟩, ⟨_, _, _, _, _, _⟩, ⟨_, _, _, _, _, _⟩, ⟨_, _, _, _, _, _⟩, ⟨_, _, _, _, _, _⟩, ⟨_, _, _, _, _, _⟩]) rfl (fun K2 hK2 => ?_)
    all_goals
      go_wp2_with fail
      refine (values_own (n := 2) (m := 2) rfl rfl hRf.out hQf.out (by omega) (by omega) (decide_eq_true rfl)).mono ?_
      rintro e wc ⟨rfl, hcc⟩
      have hHc := hid (hHf.out.none_ hcc)
      clear hcc hHf hRf hQf
      go_wp2_with fail
      refine (awake_true _).mono ?_
      rintro e wd ⟨rfl, hcd⟩
      have fin := hid (none_below (hC0.out.trans_same (hHc.out.none_ hcd).chg))
      clear hcd hHc
      go_wp2_with fail
      refine hK2 _ _ rfl ?_
      clear hK2 K2
      refine stI_nil ?_
      go_wp2_with fail
      go_ret
      exact ⟨rfl, fin.out⟩
  all_goals
    refine (awake_true _).mono ?_
    rintro e w1 ⟨rfl, hc1⟩
    have fin := hid (none_below (hC0.out.trans_same hc1))
    clear hc1
    go_wp2_with fail
    go_ret
    exact ⟨rfl, fin.out⟩
end Go.Proofs.Ytpfopidmdnkkeaa
