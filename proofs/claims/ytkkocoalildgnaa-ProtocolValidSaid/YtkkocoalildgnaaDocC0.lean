/-
  Check of the document.
-/
import Derived.Test.YtkkocoalildgnaaChkD
import Derived.Test.YtkkocoalildgnaaVld3
namespace Go.Proofs.Ytkkocoalildgnaa
open Go.RowKit

theorem fldB_no {a : Ac} (hk : kOk a = true) (h : kOk a = false ∨ restOf a ≠ AcB a.k) : fldB a = false := by
  unfold fldB
  rw [decide_eq_false_iff_not]
  rcases h with h | h
  · rw [hk] at h; cases h
  · exact h
theorem fldB_yes {a : Ac} (h : ¬ (kOk a = false ∨ restOf a ≠ AcB a.k)) : fldB a = true := by
  unfold fldB
  rw [decide_eq_true_iff]
  exact Classical.not_not.1 fun e => h (.inr e)
theorem kOk_yes {k o l n : Int} {f : V} {vs ks : List V} {s : ByteArray} (h : kOk ⟨k, o, f, vs, s, l, n, ks⟩ = true) : 1 ≤ k ∧ k ≤ 9 := by
  unfold kOk at h
  simpa using h
theorem doc_valid_eq {w : World} {v : V} {b : Bool} (hb : vok v = b) : Calls Try.prog 37 #[(.agg #[.int .i64 v.k, .int .i64 v.p, .int .i64 v.q, .string v.s, .int .i64 v.r])] w fun e w' => e = .returned (.bool b) ∧ Chg (fun _ => False) w w' := by subst hb; exact doc_valid w v
set_option maxRecDepth 100000 in
set_option maxHeartbeats 4000000 in
theorem doc_check0 (w : World) (k o : Int) (f : V) (vs : List V) (s : ByteArray) (l n : Int) (ks : List V) (A : Option Addr) (c : Nat) (A2 : Option Addr) (c2 : Nat) (hA : Vs w A vs) (hA2 : Vs w A2 ks) (_n1 : vs.length ≤ 1000) (_n2 : ks.length ≤ 1000) (hbad : (kOk ⟨k, o, f, vs, s, l, n, ks⟩ = false ∨ restOf ⟨k, o, f, vs, s, l, n, ks⟩ ≠ AcB k) ∨ (k = 2 ∧ vs.length ≠ 1)) :
    Calls Try.prog 12 #[(.agg #[.int .i64 k, .int .i64 o, .int .i64 f.k, .int .i64 f.p, .int .i64 f.q, .string f.s, .int .i64 f.r, .slice A vs.length c, .string s, .int .i64 l, .int .i64 n, .slice A2 ks.length c2])] w fun e w' => e = .returned (.int .i64 (chkA ⟨k, o, f, vs, s, l, n, ks⟩)) ∧ Chg (fun _ => False) w w' := by
  have hA := hid (Rd.alloc hA (.cells (Ac.cs k o f (.slice A vs.length c) s l n (.slice A2 ks.length c2)).toArray 28))
  have hA2 := hid (Rd.alloc hA2 (.cells (Ac.cs k o f (.slice A vs.length c) s l n (.slice A2 ks.length c2)).toArray 28))
  have hb0 : Hid (Bk (w.alloc (.cells (Ac.cs k o f (.slice A vs.length c) s l n (.slice A2 ks.length c2)).toArray 28)) w.heap.size 28 (Ac.cs k o f (.slice A vs.length c) s l n (.slice A2 ks.length c2))) := hid (Bk.new w 28 _)
  by_cases c1 : kOk ⟨k, o, f, vs, s, l, n, ks⟩ = false ∨ restOf ⟨k, o, f, vs, s, l, n, ks⟩ ≠ AcB k
  · rw [show chkA ⟨k, o, f, vs, s, l, n, ks⟩ = 4 by unfold chkA; rw [if_pos c1]]
    clear hbad
    cases hk0 : kOk ⟨k, o, f, vs, s, l, n, ks⟩
    · by_cases e0 : k < 1
      · have d1 : decide (k < 1) = true := by simpa using e0
        clear hk0 c1 e0
        go_enter Try.func12, Try.ntmps12
        go_wp2
        go_ret
        exact ⟨rfl, (Chg.refl _ w).alloc _⟩
      · have d1 : decide (k < 1) = false := by simpa using e0
        have d2 : decide (9 < k) = true := by
          have h : ¬ (1 ≤ k ∧ k ≤ 9) := by unfold kOk at hk0; simpa using hk0
          simp; omega
        clear hk0 c1 e0
        go_enter Try.func12, Try.ntmps12
        go_wp2
        go_ret
        exact ⟨rfl, (Chg.refl _ w).alloc _⟩
    · have hq := hid (fldB_no hk0 c1)
      obtain ⟨hk1, hk9⟩ := kOk_yes hk0
      have d1 : decide (k < 1) = false := by simp; omega
      have d2 : decide (9 < k) = false := by simp; omega
      clear hk0 c1
      go_enter Try.func12, Try.ntmps12
      go_wp2_with (go_at_call 36; refine (doc_fields _ k o f vs s l n ks A c A2 c2 hk1 hk9 (b := false) hq.out).mono ?_; rintro e w1 ⟨rfl, hc1⟩; have hb1 := hid (hb0.out.none_ hc1); have hc1h := hid hc1; have hC1 := hid (((Chg.refl (fun _ => False) w).alloc _).trans_same hc1); obtain ⟨px0, px1, px2, px3, px4, px5, px6, px7, px8, px9, px10, px11, plt⟩ := ac_box hb1.out; clear hc1)
      go_ret
      exact ⟨rfl, hC1.out⟩
  · obtain ⟨rfl, hl1⟩ : k = 2 ∧ vs.length ≠ 1 := hbad.resolve_left c1
    rw [show chkA ⟨2, o, f, vs, s, l, n, ks⟩ = 4 by unfold chkA; rw [if_neg c1, if_pos ⟨rfl, hl1⟩]]
    have hq := hid (fldB_yes c1)
    have hk1 : (1 : Int) ≤ 2 := by omega
    have hk9 : (2 : Int) ≤ 9 := by omega
    have hl2 : ((vs.length : Int) != 1) = true := by rw [bne_iff_ne]; omega
    clear hbad c1 hl1
    go_enter Try.func12, Try.ntmps12
    go_wp2_with (go_at_call 36; refine (doc_fields _ 2 o f vs s l n ks A c A2 c2 hk1 hk9 (b := true) hq.out).mono ?_; rintro e w1 ⟨rfl, hc1⟩; have hb1 := hid (hb0.out.none_ hc1); have hc1h := hid hc1; have hC1 := hid (((Chg.refl (fun _ => False) w).alloc _).trans_same hc1); obtain ⟨px0, px1, px2, px3, px4, px5, px6, px7, px8, px9, px10, px11, plt⟩ := ac_box hb1.out; clear hc1)
    go_ret
    exact ⟨rfl, hC1.out⟩
end Go.Proofs.Ytkkocoalildgnaa
