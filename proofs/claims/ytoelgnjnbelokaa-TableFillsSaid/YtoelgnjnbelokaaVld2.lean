/-
  Valid of a value, the program's and the document's.
-/
import Derived.Test.YtoelgnjnbelokaaVld
namespace Go.Proofs.Ytoelgnjnbelokaa
open Go.RowKit

theorem run_eqV (w : World) (a b : V) : (binOp .eql 26 (.agg #[.int .i64 a.k, .int .i64 a.p, .int .i64 a.q, .string a.s, .int .i64 a.r]) (.agg #[.int .i64 b.k, .int .i64 b.p, .int .i64 b.q, .string b.s, .int .i64 b.r])).run Try.prog w = .ok (.bool (decide (a = b))) w := by
  obtain ⟨a1, a2, a3, a4, a5⟩ := a
  obtain ⟨b1, b2, b3, b4, b5⟩ := b
  have hs : (a4.toList = b4.toList) = (a4 = b4) := propext ⟨fun h => by
    rw [ByteArray.toList_eq, ByteArray.toList_eq] at h
    obtain ⟨⟨x⟩⟩ := a4
    obtain ⟨⟨y⟩⟩ := b4
    simpa using h, fun h => by rw [h]⟩
  go_simp
  by_cases h1 : a1 = b1 <;> by_cases h2 : a2 = b2 <;> by_cases h3 : a3 = b3 <;> by_cases h4 : a4 = b4 <;> by_cases h5 : a5 = b5 <;> simp [h1, h2, h3, h4, h5]
theorem run_neV (w : World) (a b : V) : (binOp .neq 26 (.agg #[.int .i64 a.k, .int .i64 a.p, .int .i64 a.q, .string a.s, .int .i64 a.r]) (.agg #[.int .i64 b.k, .int .i64 b.p, .int .i64 b.q, .string b.s, .int .i64 b.r])).run Try.prog w = .ok (.bool (decide (a ≠ b))) w := by
  have h := run_eqV w a b
  rw [run_eql_struct] at h
  rw [run_neq_struct]
  generalize (Op.equalIn 10000 26 (.agg #[.int .i64 a.k, .int .i64 a.p, .int .i64 a.q, .string a.s, .int .i64 a.r]) (.agg #[.int .i64 b.k, .int .i64 b.p, .int .i64 b.q, .string b.s, .int .i64 b.r])).run Try.prog w = r at h ⊢
  cases r with
  | ok x w' =>
    simp only [Result.andThen_ok] at h ⊢
    injection h with h1 h2
    injection h1 with h1
    subst h1; subst h2
    simp
  | halt x w' => simp [Result.andThen] at h
set_option maxRecDepth 100000 in
set_option maxHeartbeats 4000000 in
theorem val_valid (w : World) (v : V) : Calls Try.prog 29 #[(.agg #[.int .i64 v.k, .int .i64 v.p, .int .i64 v.q, .string v.s, .int .i64 v.r])] w fun e w' => e = .returned (.bool (vok v)) ∧ Chg (fun _ => False) w w' := by
  obtain ⟨k, p, q, s, r⟩ := v
  by_cases hk2 : k = 2
  · subst hk2
    rcases Bool.eq_false_or_eq_true (numOk p q) with hb | hb
    all_goals
      have hB := hid hb
      go_enter Try.func29, Try.ntmps29
      go_wp2_with (go_at_call 40; refine (rat_valid _ p q).mono ?_; rintro e w1 ⟨rfl, hc⟩; rw [hB.out]; have hl0 : w.heap.size < w1.heap.size := (by have := hc.size; simp at this; omega); have hl1 : w.heap.size + 1 < w1.heap.size := (by have := hc.size; simp at this; omega); obtain ⟨a0, a1, a2, a3, a4⟩ := V.box (v := ⟨2, p, q, s, r⟩) (((Bk.new w 26 (V.cs ⟨2, p, q, s, r⟩)).alloc _).chg hc (fun h => h)); obtain ⟨b0, b1, b2, b3, b4⟩ := V.box (v := ⟨2, p, q, ⟨#[]⟩, 0⟩) ((Bk.new_at _ 26 (V.cs ⟨2, p, q, ⟨#[]⟩, 0⟩).toArray (w.heap.size + 1) (by simp)).chg hc (fun h => h)); have hC := hid ((((Chg.refl (fun _ => False) w).alloc _).alloc _).trans_same hc); clear hc)
      all_goals
        go_ret
        exact ⟨by simp [vok, *], hC.out⟩
  by_cases hk0 : k = 0
  · subst hk0
    clear hk2
    go_enter Try.func29, Try.ntmps29
    go_wp2
    all_goals (go_ret; exact ⟨by simp [vok, *], ((Chg.refl _ w).alloc _).alloc _⟩)
  by_cases hk1 : k = 1
  · subst hk1
    clear hk2 hk0
    by_cases h0 : r = 0
    · subst h0
      go_enter Try.func29, Try.ntmps29
      go_wp2
      all_goals (go_ret; exact ⟨by simp [vok, *], ((Chg.refl _ w).alloc _).alloc _⟩)
    by_cases h1 : r = 1
    · subst h1
      clear h0
      go_enter Try.func29, Try.ntmps29
      go_wp2
      all_goals (go_ret; exact ⟨by simp [vok, *], ((Chg.refl _ w).alloc _).alloc _⟩)
    · have g0 : (r == 0) = false := by simpa using h0
      have g1 : (r == 1) = false := by simpa using h1
      go_enter Try.func29, Try.ntmps29
      go_wp2
      all_goals (go_ret; exact ⟨by simp [vok, *], ((Chg.refl _ w).alloc _).alloc _⟩)
  by_cases hk3 : k = 3
  · subst hk3
    clear hk2 hk0 hk1
    by_cases h0 : s.size ≤ 4096
    · have g0 : decide ((s.size : Int) ≤ 4096) = true := by simp; omega
      go_enter Try.func29, Try.ntmps29
      go_wp2
      all_goals (go_ret; exact ⟨by simp [vok, *], ((Chg.refl _ w).alloc _).alloc _⟩)
    · have g0 : decide ((s.size : Int) ≤ 4096) = false := by simp; omega
      go_enter Try.func29, Try.ntmps29
      go_wp2
      all_goals (go_ret; exact ⟨by simp [vok, *], ((Chg.refl _ w).alloc _).alloc _⟩)
  by_cases hk6 : k = 6
  · subst hk6
    clear hk2 hk0 hk1 hk3
    by_cases h1 : 1 ≤ s.size
    by_cases h0 : s.size ≤ 4096
    · have g0 : decide ((s.size : Int) ≤ 4096) = true := by simp; omega
      have g1 : decide ((1 : Int) ≤ s.size) = true := by simp; omega
      go_enter Try.func29, Try.ntmps29
      go_wp2
      all_goals (go_ret; exact ⟨by simp [vok, *], ((Chg.refl _ w).alloc _).alloc _⟩)
    · have g0 : decide ((s.size : Int) ≤ 4096) = false := by simp; omega
      have g1 : decide ((1 : Int) ≤ s.size) = true := by simp; omega
      go_enter Try.func29, Try.ntmps29
      go_wp2
      all_goals (go_ret; exact ⟨by simp [vok, *], ((Chg.refl _ w).alloc _).alloc _⟩)
    · have g1 : decide ((1 : Int) ≤ s.size) = false := by simp; omega
      go_enter Try.func29, Try.ntmps29
      go_wp2
      all_goals (go_ret; exact ⟨by simp [vok, *], ((Chg.refl _ w).alloc _).alloc _⟩)
  by_cases hko : k = 4 ∨ k = 5 ∨ k = 7 ∨ k = 8
  · by_cases h0 : 1 ≤ r
    · have g0 : decide (1 ≤ r) = true := by simpa using h0
      clear hk2 hk0 hk1 hk3 hk6
      rcases hko with rfl | rfl | rfl | rfl
      all_goals
        go_enter Try.func29, Try.ntmps29
        go_wp2
        all_goals (go_ret; exact ⟨by simp [vok, *], ((Chg.refl _ w).alloc _).alloc _⟩)
    · have g0 : decide (1 ≤ r) = false := by simpa using h0
      clear hk2 hk0 hk1 hk3 hk6
      rcases hko with rfl | rfl | rfl | rfl
      all_goals
        go_enter Try.func29, Try.ntmps29
        go_wp2
        all_goals (go_ret; exact ⟨by simp [vok, *], ((Chg.refl _ w).alloc _).alloc _⟩)
  · have k0 : (k == 0) = false := by simpa using hk0
    have k1 : (k == 1) = false := by simpa using hk1
    have k2 : (k == 2) = false := by simpa using hk2
    have k3 : (k == 3) = false := by simpa using hk3
    have k4 : (k == 4) = false := by rw [beq_eq_false_iff_ne]; omega
    have k5 : (k == 5) = false := by rw [beq_eq_false_iff_ne]; omega
    have k6 : (k == 6) = false := by simpa using hk6
    have k7 : (k == 7) = false := by rw [beq_eq_false_iff_ne]; omega
    have k8 : (k == 8) = false := by rw [beq_eq_false_iff_ne]; omega
    have hv : vok ⟨k, p, q, s, r⟩ = false := by unfold vok; simp only [if_neg hk0, if_neg hk1, if_neg hk2, if_neg hk3, if_neg hk6, if_neg hko]
    rw [hv]
    clear hv hk0 hk1 hk2 hk3 hk6 hko
    go_enter Try.func29, Try.ntmps29
    go_wp2
    all_goals (go_ret; exact ⟨rfl, ((Chg.refl _ w).alloc _).alloc _⟩)
end Go.Proofs.Ytoelgnjnbelokaa
