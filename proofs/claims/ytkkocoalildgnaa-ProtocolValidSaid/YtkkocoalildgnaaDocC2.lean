/-
  Check of the document, case 2.
-/
import Derived.Test.YtkkocoalildgnaaDocC0
namespace Go.Proofs.Ytkkocoalildgnaa
open Go.RowKit

set_option maxRecDepth 100000 in
set_option maxHeartbeats 4000000 in
theorem doc_check2 (w : World) (o : Int) (f : V) (vs : List V) (s : ByteArray) (l n : Int) (ks : List V) (A : Option Addr) (c : Nat) (A2 : Option Addr) (c2 : Nat) (hA : Vs w A vs) (hA2 : Vs w A2 ks) (n1 : vs.length ≤ 1000) (n2 : ks.length ≤ 1000) (c1 : ¬ (kOk ⟨6, o, f, vs, s, l, n, ks⟩ = false ∨ restOf ⟨6, o, f, vs, s, l, n, ks⟩ ≠ AcB 6)) :
    Calls Try.prog 12 #[(.agg #[.int .i64 6, .int .i64 o, .int .i64 f.k, .int .i64 f.p, .int .i64 f.q, .string f.s, .int .i64 f.r, .slice A vs.length c, .string s, .int .i64 l, .int .i64 n, .slice A2 ks.length c2])] w fun e w' => e = .returned (.int .i64 (chkA ⟨6, o, f, vs, s, l, n, ks⟩)) ∧ Chg (fun _ => False) w w' := by
  have hA := hid (Rd.alloc hA (.cells (Ac.cs 6 o f (.slice A vs.length c) s l n (.slice A2 ks.length c2)).toArray 28))
  have hA2 := hid (Rd.alloc hA2 (.cells (Ac.cs 6 o f (.slice A vs.length c) s l n (.slice A2 ks.length c2)).toArray 28))
  have hb0 : Hid (Bk (w.alloc (.cells (Ac.cs 6 o f (.slice A vs.length c) s l n (.slice A2 ks.length c2)).toArray 28)) w.heap.size 28 (Ac.cs 6 o f (.slice A vs.length c) s l n (.slice A2 ks.length c2))) := hid (Bk.new w 28 _)
  have hq := hid (fldB_yes c1)
  have hk19 : (1 : Int) ≤ 6 ∧ (6 : Int) ≤ 9 := kOk_yes (by simpa using fun h => c1 (.inl h))
  obtain ⟨hk1, hk9⟩ := hk19
  have c2' : ¬ ((6 : Int) = 2 ∧ vs.length ≠ 1) := by omega
  by_cases c3 : l < 0 ∨ 255 < l ∨ n < 0 ∨ 255 < n
  · rw [show chkA ⟨6, o, f, vs, s, l, n, ks⟩ = 4 by unfold chkA; rw [if_neg c1, if_neg c2', if_pos c3]]
    clear c1 c2'
    by_cases e0 : l < 0
    · have d1 : decide (l < 0) = true := by simpa using e0
      clear c3 e0
      go_enter Try.func12, Try.ntmps12
      go_wp2_with (go_at_call 36; refine (doc_fields _ 6 o f vs s l n ks A c A2 c2 hk1 hk9 (b := true) hq.out).mono ?_; rintro e w1 ⟨rfl, hc1⟩; have hb1 := hid (hb0.out.none_ hc1); have hc1h := hid hc1; have hC1 := hid (((Chg.refl (fun _ => False) w).alloc _).trans_same hc1); obtain ⟨px0, px1, px2, px3, px4, px5, px6, px7, px8, px9, px10, px11, plt⟩ := ac_box hb1.out; clear hc1)
      go_ret
      exact ⟨rfl, hC1.out⟩
    have d1 : decide (l < 0) = false := by simpa using e0
    by_cases e1 : 255 < l
    · have d2 : decide (255 < l) = true := by simpa using e1
      clear c3 e1
      go_enter Try.func12, Try.ntmps12
      go_wp2_with (go_at_call 36; refine (doc_fields _ 6 o f vs s l n ks A c A2 c2 hk1 hk9 (b := true) hq.out).mono ?_; rintro e w1 ⟨rfl, hc1⟩; have hb1 := hid (hb0.out.none_ hc1); have hc1h := hid hc1; have hC1 := hid (((Chg.refl (fun _ => False) w).alloc _).trans_same hc1); obtain ⟨px0, px1, px2, px3, px4, px5, px6, px7, px8, px9, px10, px11, plt⟩ := ac_box hb1.out; clear hc1)
      go_ret
      exact ⟨rfl, hC1.out⟩
    have d2 : decide (255 < l) = false := by simpa using e1
    by_cases e2 : n < 0
    · have d3 : decide (n < 0) = true := by simpa using e2
      clear c3 e2
      go_enter Try.func12, Try.ntmps12
      go_wp2_with (go_at_call 36; refine (doc_fields _ 6 o f vs s l n ks A c A2 c2 hk1 hk9 (b := true) hq.out).mono ?_; rintro e w1 ⟨rfl, hc1⟩; have hb1 := hid (hb0.out.none_ hc1); have hc1h := hid hc1; have hC1 := hid (((Chg.refl (fun _ => False) w).alloc _).trans_same hc1); obtain ⟨px0, px1, px2, px3, px4, px5, px6, px7, px8, px9, px10, px11, plt⟩ := ac_box hb1.out; clear hc1)
      go_ret
      exact ⟨rfl, hC1.out⟩
    have d3 : decide (n < 0) = false := by simpa using e2
    have d4 : decide (255 < n) = true := by simp; omega
    clear c3 e0 e1 e2
    go_enter Try.func12, Try.ntmps12
    go_wp2_with (go_at_call 36; refine (doc_fields _ 6 o f vs s l n ks A c A2 c2 hk1 hk9 (b := true) hq.out).mono ?_; rintro e w1 ⟨rfl, hc1⟩; have hb1 := hid (hb0.out.none_ hc1); have hc1h := hid hc1; have hC1 := hid (((Chg.refl (fun _ => False) w).alloc _).trans_same hc1); obtain ⟨px0, px1, px2, px3, px4, px5, px6, px7, px8, px9, px10, px11, plt⟩ := ac_box hb1.out; clear hc1)
    go_ret
    exact ⟨rfl, hC1.out⟩
  have d1 : decide (l < 0) = false := by simp; omega
  have d2 : decide (255 < l) = false := by simp; omega
  have d3 : decide (n < 0) = false := by simp; omega
  have d4 : decide (255 < n) = false := by simp; omega
  by_cases c4 : (6 : Int) = 6 ∧ (o < 1 ∨ 7 < o)
  · rw [show chkA ⟨6, o, f, vs, s, l, n, ks⟩ = 4 by unfold chkA; rw [if_neg c1, if_neg c2', if_neg c3, if_pos c4]]
    clear c1 c2' c3
    by_cases e0 : o < 1
    · have d5 : decide (o < 1) = true := by simpa using e0
      clear c4 e0
      go_enter Try.func12, Try.ntmps12
      go_wp2_with (go_at_call 36; refine (doc_fields _ 6 o f vs s l n ks A c A2 c2 hk1 hk9 (b := true) hq.out).mono ?_; rintro e w1 ⟨rfl, hc1⟩; have hb1 := hid (hb0.out.none_ hc1); have hc1h := hid hc1; have hC1 := hid (((Chg.refl (fun _ => False) w).alloc _).trans_same hc1); obtain ⟨px0, px1, px2, px3, px4, px5, px6, px7, px8, px9, px10, px11, plt⟩ := ac_box hb1.out; clear hc1)
      go_ret
      exact ⟨rfl, hC1.out⟩
    have d5 : decide (o < 1) = false := by simpa using e0
    have d6 : decide (7 < o) = true := by simp; omega
    clear c4 e0
    go_enter Try.func12, Try.ntmps12
    go_wp2_with (go_at_call 36; refine (doc_fields _ 6 o f vs s l n ks A c A2 c2 hk1 hk9 (b := true) hq.out).mono ?_; rintro e w1 ⟨rfl, hc1⟩; have hb1 := hid (hb0.out.none_ hc1); have hc1h := hid hc1; have hC1 := hid (((Chg.refl (fun _ => False) w).alloc _).trans_same hc1); obtain ⟨px0, px1, px2, px3, px4, px5, px6, px7, px8, px9, px10, px11, plt⟩ := ac_box hb1.out; clear hc1)
    go_ret
    exact ⟨rfl, hC1.out⟩
  have d5 : decide (o < 1) = false := by simp; omega
  have d6 : decide (7 < o) = false := by simp; omega
  by_cases c5 : 200 < vs.length ∨ 32 < ks.length
  · rw [show chkA ⟨6, o, f, vs, s, l, n, ks⟩ = 3 by unfold chkA; rw [if_neg c1, if_neg c2', if_neg c3, if_neg c4, if_pos c5]]
    clear c1 c2' c3 c4
    by_cases e0 : 200 < vs.length
    · have d7 : decide ((200 : Int) < vs.length) = true := by simp; omega
      clear c5 e0
      go_enter Try.func12, Try.ntmps12
      go_wp2_with (go_at_call 36; refine (doc_fields _ 6 o f vs s l n ks A c A2 c2 hk1 hk9 (b := true) hq.out).mono ?_; rintro e w1 ⟨rfl, hc1⟩; have hb1 := hid (hb0.out.none_ hc1); have hc1h := hid hc1; have hC1 := hid (((Chg.refl (fun _ => False) w).alloc _).trans_same hc1); obtain ⟨px0, px1, px2, px3, px4, px5, px6, px7, px8, px9, px10, px11, plt⟩ := ac_box hb1.out; clear hc1)
      go_ret
      exact ⟨rfl, hC1.out⟩
    have d7 : decide ((200 : Int) < vs.length) = false := by simp; omega
    have d8 : decide ((32 : Int) < ks.length) = true := by simp; omega
    clear c5 e0
    go_enter Try.func12, Try.ntmps12
    go_wp2_with (go_at_call 36; refine (doc_fields _ 6 o f vs s l n ks A c A2 c2 hk1 hk9 (b := true) hq.out).mono ?_; rintro e w1 ⟨rfl, hc1⟩; have hb1 := hid (hb0.out.none_ hc1); have hc1h := hid hc1; have hC1 := hid (((Chg.refl (fun _ => False) w).alloc _).trans_same hc1); obtain ⟨px0, px1, px2, px3, px4, px5, px6, px7, px8, px9, px10, px11, plt⟩ := ac_box hb1.out; clear hc1)
    go_ret
    exact ⟨rfl, hC1.out⟩
  have d7 : decide ((200 : Int) < vs.length) = false := by simp; omega
  have d8 : decide ((32 : Int) < ks.length) = false := by simp; omega
  have r2 : (vok f = false ∨ vs.all vok = false ∨ ks.all vok = false) → chkA ⟨6, o, f, vs, s, l, n, ks⟩ = 2 := fun h => by unfold chkA; rw [if_neg c1, if_neg c2', if_neg c3, if_neg c4, if_neg c5, if_pos h]
  have r3 : ¬ (vok f = false ∨ vs.all vok = false ∨ ks.all vok = false) → chkA ⟨6, o, f, vs, s, l, n, ks⟩ = if 65536 < s.size then 14 else 0 := fun h => by unfold chkA; rw [if_neg c1, if_neg c2', if_neg c3, if_neg c4, if_neg c5, if_neg h]
  have r2 := hid r2
  have r3 := hid r3
  clear c1 c2' c3 c4 c5
  generalize hg : chkA ⟨6, o, f, vs, s, l, n, ks⟩ = g at r2 r3
  clear hg
  cases hf0 : vok f
  · have hf := hid hf0
    rw [show g = 2 from r2.out (.inl hf0)]
    clear hf0 r2 r3
    go_enter Try.func12, Try.ntmps12
    go_wp2_with (first
      | (go_at_call 36; refine (doc_fields _ 6 o f vs s l n ks A c A2 c2 hk1 hk9 (b := true) hq.out).mono ?_; rintro e w1 ⟨rfl, hc1⟩; have hb1 := hid (hb0.out.none_ hc1); have hc1h := hid hc1; have hC1 := hid (((Chg.refl (fun _ => False) w).alloc _).trans_same hc1); obtain ⟨px0, px1, px2, px3, px4, px5, px6, px7, px8, px9, px10, px11, plt⟩ := ac_box hb1.out; clear hc1)
      | (go_at_call 37; refine (doc_valid_eq hf.out).mono ?_; rintro e w2 ⟨rfl, hc2⟩; have hb2 := hid (hb1.out.none_ hc2); have hc2h := hid (hc1h.out.trans_same hc2); have hC2 := hid (hC1.out.trans_same hc2); obtain ⟨qx0, qx1, qx2, qx3, qx4, qx5, qx6, qx7, qx8, qx9, qx10, qx11, qlt⟩ := ac_box hb2.out; clear hc2))
    go_ret
    exact ⟨rfl, hC2.out⟩
  have hf := hid hf0
  clear hf0
  go_enter Try.func12, Try.ntmps12
  go_wp2_with (first
    | (go_at_call 36; refine (doc_fields _ 6 o f vs s l n ks A c A2 c2 hk1 hk9 (b := true) hq.out).mono ?_; rintro e w1 ⟨rfl, hc1⟩; have hb1 := hid (hb0.out.none_ hc1); have hc1h := hid hc1; have hC1 := hid (((Chg.refl (fun _ => False) w).alloc _).trans_same hc1); obtain ⟨px0, px1, px2, px3, px4, px5, px6, px7, px8, px9, px10, px11, plt⟩ := ac_box hb1.out; clear hc1)
    | (go_at_call 37; refine (doc_valid_eq hf.out).mono ?_; rintro e w2 ⟨rfl, hc2⟩; have hb2 := hid (hb1.out.none_ hc2); have hc2h := hid (hc1h.out.trans_same hc2); have hC2 := hid (hC1.out.trans_same hc2); obtain ⟨qx0, qx1, qx2, qx3, qx4, qx5, qx6, qx7, qx8, qx9, qx10, qx11, qlt⟩ := ac_box hb2.out; clear hc2))
  go_loopw [3] (fun i wr => ∃ j : Nat, j ≤ vs.length ∧ i = .int .i64 j ∧ Hid (Chg (fun _ => False) w2 wr) ∧ Hid (∀ i : Nat, i < j → vok (vAt vs i) = true)) (fun i _ => vs.length - (intOf i).toNat)
  case atStart => exact ⟨0, Nat.zero_le _, rfl, hid (Chg.refl _ _), hid fun i hi => absurd hi (by omega)⟩
  case round =>
    obtain ⟨j, hj, rfl, hC, hE⟩ := hrel
    have hbr := hid (hb2.out.none_ hC.out)
    obtain ⟨ux0, ux1, ux2, ux3, ux4, ux5, ux6, ux7, ux8, ux9, ux10, ux11, ult⟩ := ac_box hbr.out
    by_cases hlt : j < vs.length
    · obtain ⟨ba, oa, rfl, hba, y0, y1, y2, y3, y4⟩ := Vs.at_ (Rd.none_ hA.out (hc2h.out.trans_same hC.out)) hlt
      obtain ⟨b1, hb1'⟩ : ∃ b1, Hid (vok (vAt vs j) = b1) := ⟨_, hid rfl⟩
      cases b1
      · have hg2 := hid (r2.out (.inr (.inl (all_split hlt hb1'.out))))
        go_wp2_with (go_at_call 37; refine (doc_valid_eq hb1'.out).mono ?_; rintro e w3 ⟨rfl, hc⟩; have hC3 := hid ((hC2.out.trans_same hC.out).trans_same hc); clear hc)
        go_ret
        exact ⟨by rw [hg2.out]; rfl, hC3.out⟩
      · have hE' : Hid (∀ i : Nat, i < j + 1 → vok (vAt vs i) = true) := hid fun i hi => by
          by_cases e : i = j
          · subst e; exact hb1'.out
          · exact hE.out i (by omega)
        go_wp2_with (go_at_call 37; refine (doc_valid_eq hb1'.out).mono ?_; rintro e w3 ⟨rfl, hc⟩; have hC3 := hid (hC.out.trans_same hc); clear hc)
        go_roundw
        case rel => exact ⟨j + 1, by omega, by go_num, hC3, hE'⟩
        case measure => simp [intOf]; omega
    · obtain rfl : j = vs.length := by omega
      have hva := hid (all_full fun i hi => hE.out i hi)
      have hb3 := hbr
      have hc3h := hid (hc2h.out.trans_same hC.out)
      have hC3 := hid (hC2.out.trans_same hC.out)
      clear hE
      obtain ⟨w3, hw3⟩ : ∃ w3 : World, w3 = wr := ⟨_, rfl⟩
      subst hw3
      go_wp2
      go_loopw [4] (fun i wr => ∃ j : Nat, j ≤ ks.length ∧ i = .int .i64 j ∧ Hid (Chg (fun _ => False) w3 wr) ∧ Hid (∀ i : Nat, i < j → vok (vAt ks i) = true)) (fun i _ => ks.length - (intOf i).toNat)
      case atStart => exact ⟨0, Nat.zero_le _, rfl, hid (Chg.refl _ _), hid fun i hi => absurd hi (by omega)⟩
      case round =>
        obtain ⟨j, hj, rfl, hC, hE⟩ := hrel
        have hbr := hid (hb3.out.none_ hC.out)
        obtain ⟨vx0, vx1, vx2, vx3, vx4, vx5, vx6, vx7, vx8, vx9, vx10, vx11, vlt⟩ := ac_box hbr.out
        by_cases hlt : j < ks.length
        · obtain ⟨ba, oa, rfl, hba, y0, y1, y2, y3, y4⟩ := Vs.at_ (Rd.none_ hA2.out (hc3h.out.trans_same hC.out)) hlt
          obtain ⟨b1, hb1'⟩ : ∃ b1, Hid (vok (vAt ks j) = b1) := ⟨_, hid rfl⟩
          cases b1
          · have hg2 := hid (r2.out (.inr (.inr (all_split hlt hb1'.out))))
            go_wp2_with (go_at_call 37; refine (doc_valid_eq hb1'.out).mono ?_; rintro e w4 ⟨rfl, hc⟩; have hC4 := hid ((hC3.out.trans_same hC.out).trans_same hc); clear hc)
            go_ret
            exact ⟨by rw [hg2.out]; rfl, hC4.out⟩
          · have hE' : Hid (∀ i : Nat, i < j + 1 → vok (vAt ks i) = true) := hid fun i hi => by
              by_cases e : i = j
              · subst e; exact hb1'.out
              · exact hE.out i (by omega)
            go_wp2_with (go_at_call 37; refine (doc_valid_eq hb1'.out).mono ?_; rintro e w4 ⟨rfl, hc⟩; have hC4 := hid (hC.out.trans_same hc); clear hc)
            go_roundw
            case rel => exact ⟨j + 1, by omega, by go_num, hC4, hE'⟩
            case measure => simp [intOf]; omega
        · obtain rfl : j = ks.length := by omega
          have hka := all_full fun i hi => hE.out i hi
          have hr3 := r3.out (by rw [hf.out, hva.out, hka]; simp)
          by_cases c7 : 65536 < s.size
          · have hg : Hid (g = 14) := hid (by rw [hr3, if_pos c7])
            have d9 : decide ((65536 : Int) < s.size) = true := by simp; omega
            clear hka hr3 c7
            go_wp2
            go_ret
            exact ⟨by rw [hg.out]; rfl, hC3.out.trans_same hC.out⟩
          · have hg : Hid (g = 0) := hid (by rw [hr3, if_neg c7])
            have d9 : decide ((65536 : Int) < s.size) = false := by simp; omega
            clear hka hr3 c7
            go_wp2
            go_ret
            exact ⟨by rw [hg.out]; rfl, hC3.out.trans_same hC.out⟩
end Go.Proofs.Ytkkocoalildgnaa
