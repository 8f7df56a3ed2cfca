/-
  The document's Valid of a value.
-/
import Derived.Test.YtoelgnjnbelokaaVld
namespace Go.Proofs.Ytoelgnjnbelokaa
open Go.RowKit

set_option maxRecDepth 100000 in
set_option maxHeartbeats 4000000 in
theorem doc_valid (w : World) (v : V) : Calls Try.prog 23 #[(.agg #[.int .i64 v.k, .int .i64 v.p, .int .i64 v.q, .string v.s, .int .i64 v.r])] w fun e w' => e = .returned (.bool (vok v)) ∧ Chg (fun _ => False) w w' := by
  obtain ⟨k, p, q, s, r⟩ := v
  by_cases hk2 : k = 2
  · subst hk2
    rcases Bool.eq_false_or_eq_true (numOk p q) with hb | hb
    all_goals
      have hB := hid hb
      by_cases hs : s.toList = []
      · by_cases hr : r = 0
        · subst hr
          go_enter Try.func23, Try.ntmps23
          go_wp2_with (go_at_call 39; refine (ref_valid _ p q).mono ?_; rintro e w1 ⟨rfl, hc⟩; rw [hB.out]; have hC := hid (((Chg.refl (fun _ => False) w).alloc _).trans_same hc); clear hc)
          go_ret
          exact ⟨by simp [vok, *], hC.out⟩
        · have hr' : (r == 0) = false := by simpa using hr
          go_enter Try.func23, Try.ntmps23
          go_wp2
          go_ret
          exact ⟨by simp [vok, hr], (Chg.refl _ w).alloc _⟩
      · go_enter Try.func23, Try.ntmps23
        go_wp2
        go_ret
        exact ⟨by simp [vok, hs], (Chg.refl _ w).alloc _⟩
  by_cases hk0 : k = 0
  · subst hk0
    clear hk2
    go_enter Try.func23, Try.ntmps23
    go_wp2
    all_goals (go_ret; exact ⟨by simp [vok, *], (Chg.refl _ w).alloc _⟩)
  by_cases hk1 : k = 1
  · subst hk1
    clear hk2 hk0
    by_cases h0 : r = 0
    · subst h0
      go_enter Try.func23, Try.ntmps23
      go_wp2
      all_goals (go_ret; exact ⟨by simp [vok, *], (Chg.refl _ w).alloc _⟩)
    by_cases h1 : r = 1
    · subst h1
      clear h0
      go_enter Try.func23, Try.ntmps23
      go_wp2
      all_goals (go_ret; exact ⟨by simp [vok, *], (Chg.refl _ w).alloc _⟩)
    · have g0 : (r == 0) = false := by simpa using h0
      have g1 : (r == 1) = false := by simpa using h1
      go_enter Try.func23, Try.ntmps23
      go_wp2
      all_goals (go_ret; exact ⟨by simp [vok, *], (Chg.refl _ w).alloc _⟩)
  by_cases hk3 : k = 3
  · subst hk3
    clear hk2 hk0 hk1
    by_cases h0 : s.size ≤ 4096
    · have g0 : decide ((s.size : Int) ≤ 4096) = true := by simp; omega
      go_enter Try.func23, Try.ntmps23
      go_wp2
      all_goals (go_ret; exact ⟨by simp [vok, *], (Chg.refl _ w).alloc _⟩)
    · have g0 : decide ((s.size : Int) ≤ 4096) = false := by simp; omega
      go_enter Try.func23, Try.ntmps23
      go_wp2
      all_goals (go_ret; exact ⟨by simp [vok, *], (Chg.refl _ w).alloc _⟩)
  by_cases hk6 : k = 6
  · subst hk6
    clear hk2 hk0 hk1 hk3
    by_cases h1 : 1 ≤ s.size
    by_cases h0 : s.size ≤ 4096
    · have g0 : decide ((s.size : Int) ≤ 4096) = true := by simp; omega
      have g1 : decide ((1 : Int) ≤ s.size) = true := by simp; omega
      go_enter Try.func23, Try.ntmps23
      go_wp2
      all_goals (go_ret; exact ⟨by simp [vok, *], (Chg.refl _ w).alloc _⟩)
    · have g0 : decide ((s.size : Int) ≤ 4096) = false := by simp; omega
      have g1 : decide ((1 : Int) ≤ s.size) = true := by simp; omega
      go_enter Try.func23, Try.ntmps23
      go_wp2
      all_goals (go_ret; exact ⟨by simp [vok, *], (Chg.refl _ w).alloc _⟩)
    · have g1 : decide ((1 : Int) ≤ s.size) = false := by simp; omega
      go_enter Try.func23, Try.ntmps23
      go_wp2
      all_goals (go_ret; exact ⟨by simp [vok, *], (Chg.refl _ w).alloc _⟩)
  by_cases hko : k = 4 ∨ k = 5 ∨ k = 7 ∨ k = 8
  · by_cases h0 : 1 ≤ r
    · have g0 : decide (1 ≤ r) = true := by simpa using h0
      clear hk2 hk0 hk1 hk3 hk6
      rcases hko with rfl | rfl | rfl | rfl
      all_goals
        go_enter Try.func23, Try.ntmps23
        go_wp2
        all_goals (go_ret; exact ⟨by simp [vok, *], (Chg.refl _ w).alloc _⟩)
    · have g0 : decide (1 ≤ r) = false := by simpa using h0
      clear hk2 hk0 hk1 hk3 hk6
      rcases hko with rfl | rfl | rfl | rfl
      all_goals
        go_enter Try.func23, Try.ntmps23
        go_wp2
        all_goals (go_ret; exact ⟨by simp [vok, *], (Chg.refl _ w).alloc _⟩)
  · have k0 : (k == 0) = false := by simpa using hk0
    have k1 : (k == 1) = false := by simpa using hk1
    have k2 : (k == 2) = false := by simpa using hk2
    have k3 : (k == 3) = false := by simpa using hk3
    have k4 : (k == 4) = false := by rw [beq_eq_false_iff_ne]; omega
    have k5 : (k == 5) = false := by rw [beq_eq_false_iff_ne]; omega
    have k6 : (k == 6) = false := by simpa using hk6
    have k7 : (k == 7) = false := by rw [beq_eq_false_iff_ne]; omega
    have k8 : (k == 8) = false := by rw [beq_eq_false_iff_ne]; omega
    have hv : vok ⟨k, p, q, s, r⟩ = false := by unfold vok; simp only [if_neg hk0, if_neg hk1, if_neg hk2, if_neg hk3, if_neg hk6, if_neg hko]
    rw [hv]
    clear hv hk0 hk1 hk2 hk3 hk6 hko
    go_enter Try.func23, Try.ntmps23
    go_wp2
    all_goals (go_ret; exact ⟨rfl, (Chg.refl _ w).alloc _⟩)
end Go.Proofs.Ytoelgnjnbelokaa
