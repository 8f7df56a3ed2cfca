/-
  Check of the program, case 1.
-/
import Derived.Test.YtkkocoalildgnaaChkO0
namespace Go.Proofs.Ytkkocoalildgnaa
open Go.RowKit

set_option maxRecDepth 100000 in
set_option maxHeartbeats 4000000 in
theorem own_check1 (w : World) (o : Int) (f : V) (vs : List V) (s : ByteArray) (l n : Int) (ks : List V) (A : Option Addr) (c : Nat) (A2 : Option Addr) (c2 : Nat) (hA : Vs w A vs) (hA2 : Vs w A2 ks) (n1 : vs.length ≤ 1000) (n2 : ks.length ≤ 1000) (c1 : ¬ (kOk ⟨2, o, f, vs, s, l, n, ks⟩ = false ∨ restOf ⟨2, o, f, vs, s, l, n, ks⟩ ≠ AcB 2)) (hl1 : vs.length = 1) :
    Calls Try.prog 11 #[(.agg #[.int .i64 2, .int .i64 o, .int .i64 f.k, .int .i64 f.p, .int .i64 f.q, .string f.s, .int .i64 f.r, .slice A vs.length c, .string s, .int .i64 l, .int .i64 n, .slice A2 ks.length c2])] w fun e w' => e = .returned (.int .i64 (chkA ⟨2, o, f, vs, s, l, n, ks⟩)) ∧ Chg (fun _ => False) w w' := by
  have hA := hid hA
  have hA2 := hid hA2
  obtain ⟨r, hr⟩ : ∃ r, Hid (restOf ⟨2, o, f, vs, s, l, n, ks⟩ = r) := ⟨_, hid rfl⟩
  have hrl : Hid (r.vs.length ≤ 1000 ∧ r.ks.length ≤ 1000) := hid (by have h := rest_len ⟨2, o, f, vs, s, l, n, ks⟩; rw [hr.out] at h; exact ⟨Nat.le_trans h.1 n1, Nat.le_trans h.2 n2⟩)
  have hb0 : Hid (Bk (w.alloc (.cells (Ac.cs 2 o f (.slice A vs.length c) s l n (.slice A2 ks.length c2)).toArray 28)) w.heap.size 28 (Ac.cs 2 o f (.slice A vs.length c) s l n (.slice A2 ks.length c2))) := hid (Bk.new w 28 _)
  have hk := hid (show kOk ⟨2, o, f, vs, s, l, n, ks⟩ = true by simpa using fun h => c1 (.inl h))
  have hq : Hid (decide (r = AcB 2) = true) := hid (by rw [← hr.out]; simpa using Classical.not_not.1 fun h => c1 (.inr h))
  have c2' : ¬ ((2 : Int) = 2 ∧ vs.length ≠ 1) := by omega
  have g1 : ((vs.length : Int) != 1) = false := by rw [bne_eq_false_iff_eq]; omega
  by_cases c3 : l < 0 ∨ 255 < l ∨ n < 0 ∨ 255 < n
  · rw [show chkA ⟨2, o, f, vs, s, l, n, ks⟩ = 4 by unfold chkA; rw [if_neg c1, if_neg c2', if_pos c3]]
    clear c1 c2' hl1
    by_cases e0 : l < 0
    · have d1 : decide (l < 0) = true := by simpa using e0
      clear c3 e0
      have tok1 : True := trivial
      go_enter Try.func11, Try.ntmps11
      go_wp2_with (first
        | (go_at_call 32; refine (fields_eq (a := ⟨2, o, f, vs, s, l, n, ks⟩) hr.out hk.out (Rd.alloc hA.out _) (Rd.alloc hA2.out _)).mono ?_; rintro e w1 ⟨B, d, B2, d2, rfl, hB', hB2', hc1⟩; have hB := hid hB'; have hB2 := hid hB2'; have hv1 := hid (Rd.none_ (Rd.alloc hA.out _) hc1); have hw1 := hid (Rd.none_ (Rd.alloc hA2.out _) hc1); have hb1 := hid (hb0.out.none_ hc1); have hC1 := hid (((Chg.refl (fun _ => False) w).alloc _).trans_same hc1); obtain ⟨px0, px1, px2, px3, px4, px5, px6, px7, px8, px9, px10, px11, plt⟩ := ac_box hb1.out; clear hB' hB2' hc1)
        | (go_at_call 26; refine (own_same_eq (a := r) (b := AcB 2) (q := true) hq.out (Rd.alloc hB.out _) (Rd.alloc hB2.out _) (vs_nil _ none) (vs_nil _ none) (d := 0) (d2 := 0) hrl.out.1 hrl.out.2 (Nat.zero_le _) (Nat.zero_le _)).mono ?_; rintro e w2 ⟨rfl, hc2⟩; have hv2 := hid (Rd.none_ (Rd.alloc hv1.out _) hc2); have hw2 := hid (Rd.none_ (Rd.alloc hw1.out _) hc2); have hb2 := hid ((hb1.out.alloc _).none_ hc2); have hC2 := hid ((hC1.out.alloc _).trans_same hc2); obtain ⟨qx0, qx1, qx2, qx3, qx4, qx5, qx6, qx7, qx8, qx9, qx10, qx11, qlt⟩ := ac_box hb2.out; clear hc2))
      go_ret
      exact ⟨rfl, hC2.out⟩
    have d1 : decide (l < 0) = false := by simpa using e0
    by_cases e1 : 255 < l
    · have d2 : decide (255 < l) = true := by simpa using e1
      clear c3 e1
      have tok1 : True := trivial
      go_enter Try.func11, Try.ntmps11
      go_wp2_with (first
        | (go_at_call 32; refine (fields_eq (a := ⟨2, o, f, vs, s, l, n, ks⟩) hr.out hk.out (Rd.alloc hA.out _) (Rd.alloc hA2.out _)).mono ?_; rintro e w1 ⟨B, d, B2, d2, rfl, hB', hB2', hc1⟩; have hB := hid hB'; have hB2 := hid hB2'; have hv1 := hid (Rd.none_ (Rd.alloc hA.out _) hc1); have hw1 := hid (Rd.none_ (Rd.alloc hA2.out _) hc1); have hb1 := hid (hb0.out.none_ hc1); have hC1 := hid (((Chg.refl (fun _ => False) w).alloc _).trans_same hc1); obtain ⟨px0, px1, px2, px3, px4, px5, px6, px7, px8, px9, px10, px11, plt⟩ := ac_box hb1.out; clear hB' hB2' hc1)
        | (go_at_call 26; refine (own_same_eq (a := r) (b := AcB 2) (q := true) hq.out (Rd.alloc hB.out _) (Rd.alloc hB2.out _) (vs_nil _ none) (vs_nil _ none) (d := 0) (d2 := 0) hrl.out.1 hrl.out.2 (Nat.zero_le _) (Nat.zero_le _)).mono ?_; rintro e w2 ⟨rfl, hc2⟩; have hv2 := hid (Rd.none_ (Rd.alloc hv1.out _) hc2); have hw2 := hid (Rd.none_ (Rd.alloc hw1.out _) hc2); have hb2 := hid ((hb1.out.alloc _).none_ hc2); have hC2 := hid ((hC1.out.alloc _).trans_same hc2); obtain ⟨qx0, qx1, qx2, qx3, qx4, qx5, qx6, qx7, qx8, qx9, qx10, qx11, qlt⟩ := ac_box hb2.out; clear hc2))
      go_ret
      exact ⟨rfl, hC2.out⟩
    have d2 : decide (255 < l) = false := by simpa using e1
    by_cases e2 : n < 0
    · have d3 : decide (n < 0) = true := by simpa using e2
      clear c3 e2
      have tok1 : True := trivial
      go_enter Try.func11, Try.ntmps11
      go_wp2_with (first
        | (go_at_call 32; refine (fields_eq (a := ⟨2, o, f, vs, s, l, n, ks⟩) hr.out hk.out (Rd.alloc hA.out _) (Rd.alloc hA2.out _)).mono ?_; rintro e w1 ⟨B, d, B2, d2, rfl, hB', hB2', hc1⟩; have hB := hid hB'; have hB2 := hid hB2'; have hv1 := hid (Rd.none_ (Rd.alloc hA.out _) hc1); have hw1 := hid (Rd.none_ (Rd.alloc hA2.out _) hc1); have hb1 := hid (hb0.out.none_ hc1); have hC1 := hid (((Chg.refl (fun _ => False) w).alloc _).trans_same hc1); obtain ⟨px0, px1, px2, px3, px4, px5, px6, px7, px8, px9, px10, px11, plt⟩ := ac_box hb1.out; clear hB' hB2' hc1)
        | (go_at_call 26; refine (own_same_eq (a := r) (b := AcB 2) (q := true) hq.out (Rd.alloc hB.out _) (Rd.alloc hB2.out _) (vs_nil _ none) (vs_nil _ none) (d := 0) (d2 := 0) hrl.out.1 hrl.out.2 (Nat.zero_le _) (Nat.zero_le _)).mono ?_; rintro e w2 ⟨rfl, hc2⟩; have hv2 := hid (Rd.none_ (Rd.alloc hv1.out _) hc2); have hw2 := hid (Rd.none_ (Rd.alloc hw1.out _) hc2); have hb2 := hid ((hb1.out.alloc _).none_ hc2); have hC2 := hid ((hC1.out.alloc _).trans_same hc2); obtain ⟨qx0, qx1, qx2, qx3, qx4, qx5, qx6, qx7, qx8, qx9, qx10, qx11, qlt⟩ := ac_box hb2.out; clear hc2))
      go_ret
      exact ⟨rfl, hC2.out⟩
    have d3 : decide (n < 0) = false := by simpa using e2
    have d4 : decide (255 < n) = true := by simp; omega
    clear c3 e0 e1 e2
    have tok1 : True := trivial
    go_enter Try.func11, Try.ntmps11
    go_wp2_with (first
      | (go_at_call 32; refine (fields_eq (a := ⟨2, o, f, vs, s, l, n, ks⟩) hr.out hk.out (Rd.alloc hA.out _) (Rd.alloc hA2.out _)).mono ?_; rintro e w1 ⟨B, d, B2, d2, rfl, hB', hB2', hc1⟩; have hB := hid hB'; have hB2 := hid hB2'; have hv1 := hid (Rd.none_ (Rd.alloc hA.out _) hc1); have hw1 := hid (Rd.none_ (Rd.alloc hA2.out _) hc1); have hb1 := hid (hb0.out.none_ hc1); have hC1 := hid (((Chg.refl (fun _ => False) w).alloc _).trans_same hc1); obtain ⟨px0, px1, px2, px3, px4, px5, px6, px7, px8, px9, px10, px11, plt⟩ := ac_box hb1.out; clear hB' hB2' hc1)
      | (go_at_call 26; refine (own_same_eq (a := r) (b := AcB 2) (q := true) hq.out (Rd.alloc hB.out _) (Rd.alloc hB2.out _) (vs_nil _ none) (vs_nil _ none) (d := 0) (d2 := 0) hrl.out.1 hrl.out.2 (Nat.zero_le _) (Nat.zero_le _)).mono ?_; rintro e w2 ⟨rfl, hc2⟩; have hv2 := hid (Rd.none_ (Rd.alloc hv1.out _) hc2); have hw2 := hid (Rd.none_ (Rd.alloc hw1.out _) hc2); have hb2 := hid ((hb1.out.alloc _).none_ hc2); have hC2 := hid ((hC1.out.alloc _).trans_same hc2); obtain ⟨qx0, qx1, qx2, qx3, qx4, qx5, qx6, qx7, qx8, qx9, qx10, qx11, qlt⟩ := ac_box hb2.out; clear hc2))
    go_ret
    exact ⟨rfl, hC2.out⟩
  have d1 : decide (l < 0) = false := by simp; omega
  have d2 : decide (255 < l) = false := by simp; omega
  have d3 : decide (n < 0) = false := by simp; omega
  have d4 : decide (255 < n) = false := by simp; omega
  have c4 : ¬ ((2 : Int) = 6 ∧ (o < 1 ∨ 7 < o)) := by omega
  by_cases c5 : 200 < vs.length ∨ 32 < ks.length
  · rw [show chkA ⟨2, o, f, vs, s, l, n, ks⟩ = 3 by unfold chkA; rw [if_neg c1, if_neg c2', if_neg c3, if_neg c4, if_pos c5]]
    clear c1 c2' c3 c4
    have e0 : ¬ 200 < vs.length := by omega
    have d7 : decide ((200 : Int) < vs.length) = false := by simp; omega
    have d8 : decide ((32 : Int) < ks.length) = true := by simp; omega
    clear c5 e0 hl1
    have tok1 : True := trivial
    go_enter Try.func11, Try.ntmps11
    go_wp2_with (first
      | (go_at_call 32; refine (fields_eq (a := ⟨2, o, f, vs, s, l, n, ks⟩) hr.out hk.out (Rd.alloc hA.out _) (Rd.alloc hA2.out _)).mono ?_; rintro e w1 ⟨B, d, B2, d2, rfl, hB', hB2', hc1⟩; have hB := hid hB'; have hB2 := hid hB2'; have hv1 := hid (Rd.none_ (Rd.alloc hA.out _) hc1); have hw1 := hid (Rd.none_ (Rd.alloc hA2.out _) hc1); have hb1 := hid (hb0.out.none_ hc1); have hC1 := hid (((Chg.refl (fun _ => False) w).alloc _).trans_same hc1); obtain ⟨px0, px1, px2, px3, px4, px5, px6, px7, px8, px9, px10, px11, plt⟩ := ac_box hb1.out; clear hB' hB2' hc1)
      | (go_at_call 26; refine (own_same_eq (a := r) (b := AcB 2) (q := true) hq.out (Rd.alloc hB.out _) (Rd.alloc hB2.out _) (vs_nil _ none) (vs_nil _ none) (d := 0) (d2 := 0) hrl.out.1 hrl.out.2 (Nat.zero_le _) (Nat.zero_le _)).mono ?_; rintro e w2 ⟨rfl, hc2⟩; have hv2 := hid (Rd.none_ (Rd.alloc hv1.out _) hc2); have hw2 := hid (Rd.none_ (Rd.alloc hw1.out _) hc2); have hb2 := hid ((hb1.out.alloc _).none_ hc2); have hC2 := hid ((hC1.out.alloc _).trans_same hc2); obtain ⟨qx0, qx1, qx2, qx3, qx4, qx5, qx6, qx7, qx8, qx9, qx10, qx11, qlt⟩ := ac_box hb2.out; clear hc2))
    go_ret
    exact ⟨rfl, hC2.out⟩
  have d7 : decide ((200 : Int) < vs.length) = false := by simp; omega
  have d8 : decide ((32 : Int) < ks.length) = false := by simp; omega
  by_cases c6 : vok f = false ∨ vs.all vok = false ∨ ks.all vok = false
  · rw [show chkA ⟨2, o, f, vs, s, l, n, ks⟩ = 2 by unfold chkA; rw [if_neg c1, if_neg c2', if_neg c3, if_neg c4, if_neg c5, if_pos c6]]
    clear c1 c2' hl1 c3 c4 c5
    cases hf0 : vok f
    · have hf := hid hf0
      clear hf0 c6
      have tok1 : True := trivial
      go_enter Try.func11, Try.ntmps11
      go_wp2_with (first
        | (go_at_call 32; refine (fields_eq (a := ⟨2, o, f, vs, s, l, n, ks⟩) hr.out hk.out (Rd.alloc hA.out _) (Rd.alloc hA2.out _)).mono ?_; rintro e w1 ⟨B, d, B2, d2, rfl, hB', hB2', hc1⟩; have hB := hid hB'; have hB2 := hid hB2'; have hv1 := hid (Rd.none_ (Rd.alloc hA.out _) hc1); have hw1 := hid (Rd.none_ (Rd.alloc hA2.out _) hc1); have hb1 := hid (hb0.out.none_ hc1); have hC1 := hid (((Chg.refl (fun _ => False) w).alloc _).trans_same hc1); obtain ⟨px0, px1, px2, px3, px4, px5, px6, px7, px8, px9, px10, px11, plt⟩ := ac_box hb1.out; clear hB' hB2' hc1)
        | (go_at_call 26; refine (own_same_eq (a := r) (b := AcB 2) (q := true) hq.out (Rd.alloc hB.out _) (Rd.alloc hB2.out _) (vs_nil _ none) (vs_nil _ none) (d := 0) (d2 := 0) hrl.out.1 hrl.out.2 (Nat.zero_le _) (Nat.zero_le _)).mono ?_; rintro e w2 ⟨rfl, hc2⟩; have hv2 := hid (Rd.none_ (Rd.alloc hv1.out _) hc2); have hw2 := hid (Rd.none_ (Rd.alloc hw1.out _) hc2); have hb2 := hid ((hb1.out.alloc _).none_ hc2); have hC2 := hid ((hC1.out.alloc _).trans_same hc2); obtain ⟨qx0, qx1, qx2, qx3, qx4, qx5, qx6, qx7, qx8, qx9, qx10, qx11, qlt⟩ := ac_box hb2.out; clear hc2)
        | (go_at_call 33; refine (wrong_any _ f hf.out).mono ?_; rintro e w3 ⟨rfl, hc3⟩; have hv3 := hid (Rd.none_ hv2.out hc3); have hw3 := hid (Rd.none_ hw2.out hc3); have hb3 := hid (hb2.out.none_ hc3); have hC3 := hid (hC2.out.trans_same hc3); obtain ⟨rx0, rx1, rx2, rx3, rx4, rx5, rx6, rx7, rx8, rx9, rx10, rx11, rlt⟩ := ac_box hb3.out; clear hc3))
      go_ret
      exact ⟨rfl, hC3.out⟩
    have hf := hid hf0
    cases hva0 : vs.all vok
    · have hva := hid hva0
      clear hf0 hva0 c6
      have tok1 : True := trivial
      go_enter Try.func11, Try.ntmps11
      go_wp2_with (first
        | (go_at_call 32; refine (fields_eq (a := ⟨2, o, f, vs, s, l, n, ks⟩) hr.out hk.out (Rd.alloc hA.out _) (Rd.alloc hA2.out _)).mono ?_; rintro e w1 ⟨B, d, B2, d2, rfl, hB', hB2', hc1⟩; have hB := hid hB'; have hB2 := hid hB2'; have hv1 := hid (Rd.none_ (Rd.alloc hA.out _) hc1); have hw1 := hid (Rd.none_ (Rd.alloc hA2.out _) hc1); have hb1 := hid (hb0.out.none_ hc1); have hC1 := hid (((Chg.refl (fun _ => False) w).alloc _).trans_same hc1); obtain ⟨px0, px1, px2, px3, px4, px5, px6, px7, px8, px9, px10, px11, plt⟩ := ac_box hb1.out; clear hB' hB2' hc1)
        | (go_at_call 26; refine (own_same_eq (a := r) (b := AcB 2) (q := true) hq.out (Rd.alloc hB.out _) (Rd.alloc hB2.out _) (vs_nil _ none) (vs_nil _ none) (d := 0) (d2 := 0) hrl.out.1 hrl.out.2 (Nat.zero_le _) (Nat.zero_le _)).mono ?_; rintro e w2 ⟨rfl, hc2⟩; have hv2 := hid (Rd.none_ (Rd.alloc hv1.out _) hc2); have hw2 := hid (Rd.none_ (Rd.alloc hw1.out _) hc2); have hb2 := hid ((hb1.out.alloc _).none_ hc2); have hC2 := hid ((hC1.out.alloc _).trans_same hc2); obtain ⟨qx0, qx1, qx2, qx3, qx4, qx5, qx6, qx7, qx8, qx9, qx10, qx11, qlt⟩ := ac_box hb2.out; clear hc2)
        | (go_at_call 33; refine (wrong_any _ f hf.out).mono ?_; rintro e w3 ⟨rfl, hc3⟩; have hv3 := hid (Rd.none_ hv2.out hc3); have hw3 := hid (Rd.none_ hw2.out hc3); have hb3 := hid (hb2.out.none_ hc3); have hC3 := hid (hC2.out.trans_same hc3); obtain ⟨rx0, rx1, rx2, rx3, rx4, rx5, rx6, rx7, rx8, rx9, rx10, rx11, rlt⟩ := ac_box hb3.out; clear hc3)
        | (go_at_call 35; have _t := tok1; refine (contains_any _ A vs c hv3.out n1 hva.out).mono ?_; rintro e w4 ⟨rfl, hc4⟩; have hw4 := hid (Rd.none_ hw3.out hc4); have hb4 := hid (hb3.out.none_ hc4); have hC4 := hid (hC3.out.trans_same hc4); obtain ⟨sx0, sx1, sx2, sx3, sx4, sx5, sx6, sx7, sx8, sx9, sx10, sx11, slt⟩ := ac_box hb4.out; clear hc4 tok1))
      go_ret
      exact ⟨rfl, hC4.out⟩
    have hva := hid hva0
    have hka : Hid (ks.all vok = false) := hid (by rw [hf0, hva0] at c6; simpa using c6)
    clear hf0 hva0 c6
    have tok1 : True := trivial
    go_enter Try.func11, Try.ntmps11
    go_wp2_with (first
      | (go_at_call 32; refine (fields_eq (a := ⟨2, o, f, vs, s, l, n, ks⟩) hr.out hk.out (Rd.alloc hA.out _) (Rd.alloc hA2.out _)).mono ?_; rintro e w1 ⟨B, d, B2, d2, rfl, hB', hB2', hc1⟩; have hB := hid hB'; have hB2 := hid hB2'; have hv1 := hid (Rd.none_ (Rd.alloc hA.out _) hc1); have hw1 := hid (Rd.none_ (Rd.alloc hA2.out _) hc1); have hb1 := hid (hb0.out.none_ hc1); have hC1 := hid (((Chg.refl (fun _ => False) w).alloc _).trans_same hc1); obtain ⟨px0, px1, px2, px3, px4, px5, px6, px7, px8, px9, px10, px11, plt⟩ := ac_box hb1.out; clear hB' hB2' hc1)
      | (go_at_call 26; refine (own_same_eq (a := r) (b := AcB 2) (q := true) hq.out (Rd.alloc hB.out _) (Rd.alloc hB2.out _) (vs_nil _ none) (vs_nil _ none) (d := 0) (d2 := 0) hrl.out.1 hrl.out.2 (Nat.zero_le _) (Nat.zero_le _)).mono ?_; rintro e w2 ⟨rfl, hc2⟩; have hv2 := hid (Rd.none_ (Rd.alloc hv1.out _) hc2); have hw2 := hid (Rd.none_ (Rd.alloc hw1.out _) hc2); have hb2 := hid ((hb1.out.alloc _).none_ hc2); have hC2 := hid ((hC1.out.alloc _).trans_same hc2); obtain ⟨qx0, qx1, qx2, qx3, qx4, qx5, qx6, qx7, qx8, qx9, qx10, qx11, qlt⟩ := ac_box hb2.out; clear hc2)
      | (go_at_call 33; refine (wrong_any _ f hf.out).mono ?_; rintro e w3 ⟨rfl, hc3⟩; have hv3 := hid (Rd.none_ hv2.out hc3); have hw3 := hid (Rd.none_ hw2.out hc3); have hb3 := hid (hb2.out.none_ hc3); have hC3 := hid (hC2.out.trans_same hc3); obtain ⟨rx0, rx1, rx2, rx3, rx4, rx5, rx6, rx7, rx8, rx9, rx10, rx11, rlt⟩ := ac_box hb3.out; clear hc3)
      | (go_at_call 35; have _t := tok1; refine (contains_any _ A vs c hv3.out n1 hva.out).mono ?_; rintro e w4 ⟨rfl, hc4⟩; have hw4 := hid (Rd.none_ hw3.out hc4); have hb4 := hid (hb3.out.none_ hc4); have hC4 := hid (hC3.out.trans_same hc4); obtain ⟨sx0, sx1, sx2, sx3, sx4, sx5, sx6, sx7, sx8, sx9, sx10, sx11, slt⟩ := ac_box hb4.out; clear hc4 tok1)
      | (go_at_call 35; refine (contains_any _ A2 ks c2 hw4.out n2 hka.out).mono ?_; rintro e w5 ⟨rfl, hc5⟩; have hb5 := hid (hb4.out.none_ hc5); have hC5 := hid (hC4.out.trans_same hc5); obtain ⟨tx0, tx1, tx2, tx3, tx4, tx5, tx6, tx7, tx8, tx9, tx10, tx11, tlt⟩ := ac_box hb5.out; clear hc5))
    go_ret
    exact ⟨rfl, hC5.out⟩
  have hf : Hid (vok f = true) := hid (by simpa using fun h => c6 (.inl h))
  have hva : Hid (vs.all vok = true) := hid (by cases h : vs.all vok <;> first | rfl | exact absurd (.inr (.inl h)) c6)
  have hka : Hid (ks.all vok = true) := hid (by cases h : ks.all vok <;> first | rfl | exact absurd (.inr (.inr h)) c6)
  by_cases c7 : 65536 < s.size
  · rw [show chkA ⟨2, o, f, vs, s, l, n, ks⟩ = 14 by unfold chkA; rw [if_neg c1, if_neg c2', if_neg c3, if_neg c4, if_neg c5, if_neg c6, if_pos c7]]
    have d9 : decide ((65536 : Int) < s.size) = true := by simp; omega
    clear c1 c2' hl1 c3 c4 c5 c6 c7
    have tok1 : True := trivial
    go_enter Try.func11, Try.ntmps11
    go_wp2_with (first
      | (go_at_call 32; refine (fields_eq (a := ⟨2, o, f, vs, s, l, n, ks⟩) hr.out hk.out (Rd.alloc hA.out _) (Rd.alloc hA2.out _)).mono ?_; rintro e w1 ⟨B, d, B2, d2, rfl, hB', hB2', hc1⟩; have hB := hid hB'; have hB2 := hid hB2'; have hv1 := hid (Rd.none_ (Rd.alloc hA.out _) hc1); have hw1 := hid (Rd.none_ (Rd.alloc hA2.out _) hc1); have hb1 := hid (hb0.out.none_ hc1); have hC1 := hid (((Chg.refl (fun _ => False) w).alloc _).trans_same hc1); obtain ⟨px0, px1, px2, px3, px4, px5, px6, px7, px8, px9, px10, px11, plt⟩ := ac_box hb1.out; clear hB' hB2' hc1)
      | (go_at_call 26; refine (own_same_eq (a := r) (b := AcB 2) (q := true) hq.out (Rd.alloc hB.out _) (Rd.alloc hB2.out _) (vs_nil _ none) (vs_nil _ none) (d := 0) (d2 := 0) hrl.out.1 hrl.out.2 (Nat.zero_le _) (Nat.zero_le _)).mono ?_; rintro e w2 ⟨rfl, hc2⟩; have hv2 := hid (Rd.none_ (Rd.alloc hv1.out _) hc2); have hw2 := hid (Rd.none_ (Rd.alloc hw1.out _) hc2); have hb2 := hid ((hb1.out.alloc _).none_ hc2); have hC2 := hid ((hC1.out.alloc _).trans_same hc2); obtain ⟨qx0, qx1, qx2, qx3, qx4, qx5, qx6, qx7, qx8, qx9, qx10, qx11, qlt⟩ := ac_box hb2.out; clear hc2)
      | (go_at_call 33; refine (wrong_any _ f hf.out).mono ?_; rintro e w3 ⟨rfl, hc3⟩; have hv3 := hid (Rd.none_ hv2.out hc3); have hw3 := hid (Rd.none_ hw2.out hc3); have hb3 := hid (hb2.out.none_ hc3); have hC3 := hid (hC2.out.trans_same hc3); obtain ⟨rx0, rx1, rx2, rx3, rx4, rx5, rx6, rx7, rx8, rx9, rx10, rx11, rlt⟩ := ac_box hb3.out; clear hc3)
      | (go_at_call 35; have _t := tok1; refine (contains_any _ A vs c hv3.out n1 hva.out).mono ?_; rintro e w4 ⟨rfl, hc4⟩; have hw4 := hid (Rd.none_ hw3.out hc4); have hb4 := hid (hb3.out.none_ hc4); have hC4 := hid (hC3.out.trans_same hc4); obtain ⟨sx0, sx1, sx2, sx3, sx4, sx5, sx6, sx7, sx8, sx9, sx10, sx11, slt⟩ := ac_box hb4.out; clear hc4 tok1)
      | (go_at_call 35; refine (contains_any _ A2 ks c2 hw4.out n2 hka.out).mono ?_; rintro e w5 ⟨rfl, hc5⟩; have hb5 := hid (hb4.out.none_ hc5); have hC5 := hid (hC4.out.trans_same hc5); obtain ⟨tx0, tx1, tx2, tx3, tx4, tx5, tx6, tx7, tx8, tx9, tx10, tx11, tlt⟩ := ac_box hb5.out; clear hc5))
    go_ret
    exact ⟨rfl, hC5.out⟩
  · rw [show chkA ⟨2, o, f, vs, s, l, n, ks⟩ = 0 by unfold chkA; rw [if_neg c1, if_neg c2', if_neg c3, if_neg c4, if_neg c5, if_neg c6, if_neg c7]]
    have d9 : decide ((65536 : Int) < s.size) = false := by simp; omega
    clear c1 c2' hl1 c3 c4 c5 c6 c7
    have tok1 : True := trivial
    go_enter Try.func11, Try.ntmps11
    go_wp2_with (first
      | (go_at_call 32; refine (fields_eq (a := ⟨2, o, f, vs, s, l, n, ks⟩) hr.out hk.out (Rd.alloc hA.out _) (Rd.alloc hA2.out _)).mono ?_; rintro e w1 ⟨B, d, B2, d2, rfl, hB', hB2', hc1⟩; have hB := hid hB'; have hB2 := hid hB2'; have hv1 := hid (Rd.none_ (Rd.alloc hA.out _) hc1); have hw1 := hid (Rd.none_ (Rd.alloc hA2.out _) hc1); have hb1 := hid (hb0.out.none_ hc1); have hC1 := hid (((Chg.refl (fun _ => False) w).alloc _).trans_same hc1); obtain ⟨px0, px1, px2, px3, px4, px5, px6, px7, px8, px9, px10, px11, plt⟩ := ac_box hb1.out; clear hB' hB2' hc1)
      | (go_at_call 26; refine (own_same_eq (a := r) (b := AcB 2) (q := true) hq.out (Rd.alloc hB.out _) (Rd.alloc hB2.out _) (vs_nil _ none) (vs_nil _ none) (d := 0) (d2 := 0) hrl.out.1 hrl.out.2 (Nat.zero_le _) (Nat.zero_le _)).mono ?_; rintro e w2 ⟨rfl, hc2⟩; have hv2 := hid (Rd.none_ (Rd.alloc hv1.out _) hc2); have hw2 := hid (Rd.none_ (Rd.alloc hw1.out _) hc2); have hb2 := hid ((hb1.out.alloc _).none_ hc2); have hC2 := hid ((hC1.out.alloc _).trans_same hc2); obtain ⟨qx0, qx1, qx2, qx3, qx4, qx5, qx6, qx7, qx8, qx9, qx10, qx11, qlt⟩ := ac_box hb2.out; clear hc2)
      | (go_at_call 33; refine (wrong_any _ f hf.out).mono ?_; rintro e w3 ⟨rfl, hc3⟩; have hv3 := hid (Rd.none_ hv2.out hc3); have hw3 := hid (Rd.none_ hw2.out hc3); have hb3 := hid (hb2.out.none_ hc3); have hC3 := hid (hC2.out.trans_same hc3); obtain ⟨rx0, rx1, rx2, rx3, rx4, rx5, rx6, rx7, rx8, rx9, rx10, rx11, rlt⟩ := ac_box hb3.out; clear hc3)
      | (go_at_call 35; have _t := tok1; refine (contains_any _ A vs c hv3.out n1 hva.out).mono ?_; rintro e w4 ⟨rfl, hc4⟩; have hw4 := hid (Rd.none_ hw3.out hc4); have hb4 := hid (hb3.out.none_ hc4); have hC4 := hid (hC3.out.trans_same hc4); obtain ⟨sx0, sx1, sx2, sx3, sx4, sx5, sx6, sx7, sx8, sx9, sx10, sx11, slt⟩ := ac_box hb4.out; clear hc4 tok1)
      | (go_at_call 35; refine (contains_any _ A2 ks c2 hw4.out n2 hka.out).mono ?_; rintro e w5 ⟨rfl, hc5⟩; have hb5 := hid (hb4.out.none_ hc5); have hC5 := hid (hC4.out.trans_same hc5); obtain ⟨tx0, tx1, tx2, tx3, tx4, tx5, tx6, tx7, tx8, tx9, tx10, tx11, tlt⟩ := ac_box hb5.out; clear hc5))
    go_ret
    exact ⟨rfl, hC5.out⟩
end Go.Proofs.Ytkkocoalildgnaa
