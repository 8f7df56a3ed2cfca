/-
  ProtocolNeeds: the walk.
-/
import Derived.Test.YtkkocoalildgnaaAwake
namespace Go.Proofs.Ytkkocoalildgnaa
open Go.RowKit

theorem need_len (kd : Int) (v f : V) (vs : List V) (s : ByteArray) (nx : Int) (ks : List V) : (needAc kd v f vs s nx ks).vs.length ≤ vs.length + 1 ∧ (needAc kd v f vs s nx ks).ks.length ≤ ks.length := by
  unfold needAc
  split
  · exact ⟨by simp, by simp⟩
  split
  · exact ⟨by simp, by simp⟩
  split
  · exact ⟨by simp, by simp⟩
  · exact ⟨by simp, by simp⟩
set_option maxRecDepth 100000 in
set_option maxHeartbeats 4000000 in
theorem needs_true (w : World) (kd : Int) (v f : V) (A : Option Addr) (vs : List V) (c : Nat) (af : Int) (s : ByteArray) (nx : Int) (A2 : Option Addr) (ks : List V) (c2 : Nat) (hA : Vs w A vs) (m1 : vs.length ≤ maxLen) (hs : s.size ≤ maxLen) (hA2 : Vs w A2 ks) (m2 : ks.length ≤ maxLen) :
    Calls Try.prog 8 #[.agg #[.int .i64 kd, .int .i64 v.k, .int .i64 v.p, .int .i64 v.q, .string v.s, .int .i64 v.r, .int .i64 f.k, .int .i64 f.p, .int .i64 f.q, .string f.s, .int .i64 f.r, .slice A vs.length c, .int .i64 af, .string s], .int .i64 nx, .slice A2 ks.length c2] w fun e w' => e = .returned (.bool true) ∧ Below w.heap.size w w' := by
  unfold maxLen at m1 m2
  have hs := hid hs
  have hb0 : Hid (Bk (w.alloc (.cells #[.int .i64 kd, .int .i64 v.k, .int .i64 v.p, .int .i64 v.q, .string v.s, .int .i64 v.r, .int .i64 f.k, .int .i64 f.p, .int .i64 f.q, .string f.s, .int .i64 f.r, .slice A vs.length c, .int .i64 af, .string s] 47)).drew w.heap.size 47 [.int .i64 kd, .int .i64 v.k, .int .i64 v.p, .int .i64 v.q, .string v.s, .int .i64 v.r, .int .i64 f.k, .int .i64 f.p, .int .i64 f.q, .string f.s, .int .i64 f.r, .slice A vs.length c, .int .i64 af, .string s]) := hid (Bk.new w 47 [.int .i64 kd, .int .i64 v.k, .int .i64 v.p, .int .i64 v.q, .string v.s, .int .i64 v.r, .int .i64 f.k, .int .i64 f.p, .int .i64 f.q, .string f.s, .int .i64 f.r, .slice A vs.length c, .int .i64 af, .string s]).drew
  have hA0 := hid (Rd.none_ hA (((Chg.refl (fun _ => False) w).alloc (.cells #[.int .i64 kd, .int .i64 v.k, .int .i64 v.p, .int .i64 v.q, .string v.s, .int .i64 v.r, .int .i64 f.k, .int .i64 f.p, .int .i64 f.q, .string f.s, .int .i64 f.r, .slice A vs.length c, .int .i64 af, .string s] 47)).drew))
  have hD0 := hid (Rd.none_ hA2 (((Chg.refl (fun _ => False) w).alloc (.cells #[.int .i64 kd, .int .i64 v.k, .int .i64 v.p, .int .i64 v.q, .string v.s, .int .i64 v.r, .int .i64 f.k, .int .i64 f.p, .int .i64 f.q, .string f.s, .int .i64 f.r, .slice A vs.length c, .int .i64 af, .string s] 47)).drew))
  clear hA hA2
  by_cases g1 : 600 < vs.length
  · have hl1 := hid (decide_eq_true g1)
    clear g1
    go_enter Try.func8, Try.ntmps8
    go_wp2_with (first
      | (go_at_call 9; refine (large_any _ _ _ _ hl1.out).mono ?_; rintro e w' ⟨rfl, rfl⟩)
      | (go_at_call 10; refine (awake_true _).mono ?_; rintro e w99 ⟨rfl, hc99⟩; have fin := hid (((Chg.refl _ w).alloc _).trans_same hc99); clear hc99))
    go_ret
    exact ⟨rfl, fin.out.below (Nat.le_refl _) fun _ _ h => h⟩
  have hl1 := hid (decide_eq_false g1)
  by_cases g2 : 600 < ks.length
  · have hl2 := hid (decide_eq_true g2)
    clear g1 g2
    have tok1 : True := trivial
    go_enter Try.func8, Try.ntmps8
    go_wp2_with (first
      | (go_at_call 9; have _t := tok1; refine (large_any _ _ _ _ hl1.out).mono ?_; rintro e w' ⟨rfl, rfl⟩; clear tok1)
      | (go_at_call 9; refine (large_any _ _ _ _ hl2.out).mono ?_; rintro e w' ⟨rfl, rfl⟩)
      | (go_at_call 10; refine (awake_true _).mono ?_; rintro e w99 ⟨rfl, hc99⟩; have fin := hid (((Chg.refl _ w).alloc _).trans_same hc99); clear hc99))
    go_ret
    exact ⟨rfl, fin.out.below (Nat.le_refl _) fun _ _ h => h⟩
  have hl2 := hid (decide_eq_false g2)
  have n1 : vs.length ≤ 1000 := by omega
  have n2 : ks.length ≤ 1000 := by omega
  obtain ⟨na, hna⟩ : ∃ na, Hid (needAc kd v f vs s nx ks = na) := ⟨_, hid rfl⟩
  have hnl : Hid (na.vs.length ≤ 1000 ∧ na.ks.length ≤ 1000) := hid (by have h := need_len kd v f vs s nx ks; rw [hna.out] at h; omega)
  clear g1 g2
  have tok1 : True := trivial
  go_enter Try.func8, Try.ntmps8
  go_wp2_with (first
    | (go_at_call 9; have _t := tok1; refine (large_any _ _ _ _ hl1.out).mono ?_; rintro e w' ⟨rfl, rfl⟩; clear tok1)
    | (go_at_call 9; refine (large_any _ _ _ _ hl2.out).mono ?_; rintro e w' ⟨rfl, rfl⟩))
  refine wp_region_rc (id := 3) [.rd [0, 1, 2, 4, 5, 6], .act 3] [7, 8, 9, 10, 11, 12] [] (fun w' => Bk w' w.heap.size 47 [.int .i64 kd, .int .i64 v.k, .int .i64 v.p, .int .i64 v.q, .string v.s, .int .i64 v.r, .int .i64 f.k, .int .i64 f.p, .int .i64 f.q, .string f.s, .int .i64 f.r, .slice A vs.length c, .int .i64 af, .string s]) (by kernel_rfl) 27 rfl (by kernel_rfl) (fun _ _ _ _ _ h => h) hb0.out ?_
  refine steps_rdW ?_
  apply Exists.intro
  refine ⟨?_, ?_⟩
  focus
    rintro w' hS; have x0 : w'.cell? ⟨w.heap.size, 0, none⟩ = some (.int .i64 kd) := hS.cell 0; have x1 : w'.cell? ⟨w.heap.size, 1, none⟩ = some (.int .i64 v.k) := hS.cell 1; have x2 : w'.cell? ⟨w.heap.size, 2, none⟩ = some (.int .i64 v.p) := hS.cell 2; have x3 : w'.cell? ⟨w.heap.size, 3, none⟩ = some (.int .i64 v.q) := hS.cell 3; have x4 : w'.cell? ⟨w.heap.size, 4, none⟩ = some (.string v.s) := hS.cell 4; have x5 : w'.cell? ⟨w.heap.size, 5, none⟩ = some (.int .i64 v.r) := hS.cell 5; have x6 : w'.cell? ⟨w.heap.size, 6, none⟩ = some (.int .i64 f.k) := hS.cell 6; have x7 : w'.cell? ⟨w.heap.size, 7, none⟩ = some (.int .i64 f.p) := hS.cell 7; have x8 : w'.cell? ⟨w.heap.size, 8, none⟩ = some (.int .i64 f.q) := hS.cell 8; have x9 : w'.cell? ⟨w.heap.size, 9, none⟩ = some (.string f.s) := hS.cell 9; have x10 : w'.cell? ⟨w.heap.size, 10, none⟩ = some (.int .i64 f.r) := hS.cell 10; have x11 : w'.cell? ⟨w.heap.size, 11, none⟩ = some (.slice A vs.length c) := hS.cell 11; have x12 : w'.cell? ⟨w.heap.size, 12, none⟩ = some (.int .i64 af) := hS.cell 12; have x13 : w'.cell? ⟨w.heap.size, 13, none⟩ = some (.string s) := hS.cell 13; clear hS
    iterate 6 (refine stW_step rfl (fun K hK => ?_); go_simp; refine hK _ ?_; clear hK K)
    exact stW_nil rfl
  refine steps_act (o := ⟨_, _, _, _, _, _⟩) rfl (fun K2 hK2 => ?_)
  go_wp2_with (go_at_call 29; refine (own_need _ kd v f A vs c af s nx A2 ks c2 hA0.out n1 hD0.out n2 hs.out).mono ?_; rintro e w1 hM; rw [hna.out] at hM; obtain ⟨B1, d1, C1, e1, rfl, hP1, hQ1, hc1⟩ := hM; have hP1 := hid hP1.vs; have hQ1 := hid hQ1.vs; have hC1 := hid ((((Chg.refl (fun _ => False) w).alloc _).drew).trans_same hc1); have hh1 := hid hc1; have hb1 := hid (hb0.out.none_ hc1); have hA1 := hid (Rd.none_ hA0.out hc1); have hD1 := hid (Rd.none_ hD0.out hc1); clear hc1)
  refine hK2 _ _ hb1.out rfl ?_
  clear hK2 K2
  refine steps_nil (l := [⟨_, _, _, _, _, _⟩, ⟨_, _, _, _, _, _⟩, ⟨_, _, _, _, _, _⟩, ⟨_, _, _, _, _, _⟩, ⟨_, _, _, _, _, _⟩, ⟨_, _, _, _, _, _⟩]) rfl (fun K2 hK2 => ?_)
  have tok1 : True := trivial
  have tok2 : True := trivial
  go_wp2_with (first
    | (go_at_call 30; refine (doc_need _ kd v f A vs c af s nx A2 ks c2 hA1.out n1 hD1.out n2 hs.out).mono ?_; rintro e w2 hM; rw [hna.out] at hM; obtain ⟨B2, d2, C2, e2, rfl, hP2, hQ2, hc2⟩ := hM; have hP2 := hid hP2.vs; have hQ2 := hid hQ2.vs; have hC2 := hid (hC1.out.trans_same hc2); have hh2 := hid hc2; clear hc2)
    | (go_at_call 13; refine (doc_same_eq (a := na) (b := na) (decide_eq_true rfl) (Rd.none_ hP1.out hh2.out) (Rd.none_ hQ1.out hh2.out) hP2.out hQ2.out hnl.out.1 hnl.out.2 hnl.out.1 hnl.out.2).mono ?_; rintro e w3 ⟨rfl, hc3⟩; have hC3 := hid (hC2.out.trans_same hc3); clear hc3)
    | (go_at_call 10; refine (awake_true _).mono ?_; rintro e w99 ⟨rfl, hc99⟩; have fin := hid (hC3.out.trans_same hc99); clear hc99))
  refine hK2 _ _ rfl ?_
  clear hK2 K2
  refine stI_nil ?_
  go_wp2
  go_ret
  exact ⟨rfl, fin.out.below (Nat.le_refl _) fun _ _ h => h⟩
end Go.Proofs.Ytkkocoalildgnaa
