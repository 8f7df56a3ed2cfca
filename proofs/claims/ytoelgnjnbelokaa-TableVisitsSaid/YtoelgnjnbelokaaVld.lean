/-
  Valid of the program and of the document: both say of a value whether it is well-formed.
  Valid of a value, the program's and the document's.
  The document's Valid of a value.
-/
import Derived.Test.YtoelgnjnbelokaaRegion
import Derived.Test.YtoelgnjnbelokaaProg
namespace Go.Proofs.Ytoelgnjnbelokaa
open Go.RowKit

def numOk (p q : Int) : Bool := decide (1 ≤ q) && decide (q ≤ 2147483647) && decide (-2147483647 ≤ p) && decide (p ≤ 2147483647) && decide (Nat.gcd p.natAbs q.toNat = 1)
def vok (v : V) : Bool :=
  if v.k = 0 then decide (v.p = 0) && decide (v.q = 0) && decide (v.s.toList = []) && decide (v.r = 0)
  else if v.k = 1 then (decide (v.r = 0) || decide (v.r = 1)) && decide (v.p = 0) && decide (v.q = 0) && decide (v.s.toList = [])
  else if v.k = 2 then numOk v.p v.q && decide (v.s.toList = []) && decide (v.r = 0)
  else if v.k = 3 then decide (v.s.size ≤ 4096) && decide (v.p = 0) && decide (v.q = 0) && decide (v.r = 0)
  else if v.k = 4 ∨ v.k = 5 ∨ v.k = 7 ∨ v.k = 8 then decide (1 ≤ v.r) && decide (v.p = 0) && decide (v.q = 0) && decide (v.s.toList = [])
  else if v.k = 6 then decide (1 ≤ v.s.size) && decide (v.s.size ≤ 4096) && decide (v.p = 0) && decide (v.q = 0) && decide (v.r = 0)
  else false

theorem rat_gcd (w : World) (a b : Nat) (ha : a ≤ 2147483647) (hb : b ≤ 2147483647) :
    Calls Try.prog 50 #[.int .i64 a, .int .i64 b] w fun e w' => e = .returned (.int .i64 (Nat.gcd a b : Nat)) ∧ Chg (fun _ => False) w w' := by
  go_enter Try.func50, Try.ntmps50
  go_wp2
  go_loopw [0, 1] (fun p q wr => ∃ x y : Nat, x ≤ 2147483647 ∧ y ≤ 2147483647 ∧ p = .int .i64 x ∧ q = .int .i64 y ∧ Hid (Nat.gcd x y = Nat.gcd a b) ∧ Hid (Chg (fun _ => False) w wr)) (fun _ q _ => (intOf q).toNat)
  case atStart => exact ⟨a, b, ha, hb, rfl, rfl, hid rfl, hid (Chg.refl _ w)⟩
  case round =>
    obtain ⟨x, y, hx, hy, rfl, rfl, hg, hC⟩ := hrel
    by_cases h0 : y = 0
    · have hz : ((y : Int) != 0) = false := by simp [h0]
      have H0 := hid h0
      clear h0
      go_wp2
      go_ret
      have hx : Nat.gcd a b = x := by rw [← hg.out, H0.out, Nat.gcd_zero_right]
      exact ⟨by rw [hx]; rfl, hC.out⟩
    · have hpos : 0 < y := by omega
      have hne : ((y : Int) == 0) = false := by rw [beq_eq_false_iff_ne]; omega
      have hne' : ((y : Int) != 0) = true := by rw [bne_iff_ne]; omega
      have htm : (x : Int).tmod (y : Int) = ((x % y : Nat) : Int) := by rw [Int.tmod_eq_emod_of_nonneg (by omega)]; omega
      go_wp2
      (refine wp_region_rc (id := 2) [.rd [0, 1, 2, 3, 4, 5]] [] [] (fun w' => w' = _) (by kernel_rfl) 12 rfl (by kernel_rfl) (fun _ _ _ _ _ h => h) rfl ?_; refine steps_rdW ?_; apply Exists.intro; refine ⟨?_, ?_⟩; (focus (rintro w' rfl; (iterate 6 (refine stW_step rfl (fun K hK => ?_); go_simp; refine hK _ ?_; clear hK K)); exact stW_nil rfl)); refine steps_end rfl ?_)
      go_wp2
      go_roundw
      case rel => exact ⟨y, x % y, hy, by have := Nat.mod_lt x hpos; omega, rfl, by go_num, hid (by rw [← hg.out, Nat.gcd_comm x y, Nat.gcd_rec y x, Nat.gcd_comm]), hid hC.out.drew⟩
      case measure =>
        have := Nat.mod_lt x hpos
        simp [intOf]
        omega
theorem ref_gcd (w : World) (a b : Nat) (ha : a ≤ 2147483647) (hb : b ≤ 2147483647) :
    Calls Try.prog 48 #[.int .i64 a, .int .i64 b] w fun e w' => e = .returned (.int .i64 (Nat.gcd a b : Nat)) ∧ Chg (fun _ => False) w w' := by
  go_enter Try.func48, Try.ntmps48
  go_wp2
  go_loopw [0, 1] (fun p q wr => ∃ x y : Nat, x ≤ 2147483647 ∧ y ≤ 2147483647 ∧ p = .int .i64 x ∧ q = .int .i64 y ∧ Hid (Nat.gcd x y = Nat.gcd a b) ∧ Hid (Chg (fun _ => False) w wr)) (fun _ q _ => (intOf q).toNat)
  case atStart => exact ⟨a, b, ha, hb, rfl, rfl, hid rfl, hid (Chg.refl _ w)⟩
  case round =>
    obtain ⟨x, y, hx, hy, rfl, rfl, hg, hC⟩ := hrel
    by_cases h0 : y = 0
    · have hz : ((y : Int) != 0) = false := by simp [h0]
      have H0 := hid h0
      clear h0
      go_wp2
      go_ret
      have hx : Nat.gcd a b = x := by rw [← hg.out, H0.out, Nat.gcd_zero_right]
      exact ⟨by rw [hx]; rfl, hC.out⟩
    · have hpos : 0 < y := by omega
      have hne : ((y : Int) == 0) = false := by rw [beq_eq_false_iff_ne]; omega
      have hne' : ((y : Int) != 0) = true := by rw [bne_iff_ne]; omega
      have htm : (x : Int).tmod (y : Int) = ((x % y : Nat) : Int) := by rw [Int.tmod_eq_emod_of_nonneg (by omega)]; omega
      go_wp2
      (refine wp_region_rc (id := 2) [.rd [0, 1, 2, 3, 4, 5]] [] [] (fun w' => w' = _) (by kernel_rfl) 12 rfl (by kernel_rfl) (fun _ _ _ _ _ h => h) rfl ?_; refine steps_rdW ?_; apply Exists.intro; refine ⟨?_, ?_⟩; (focus (rintro w' rfl; (iterate 6 (refine stW_step rfl (fun K hK => ?_); go_simp; refine hK _ ?_; clear hK K)); exact stW_nil rfl)); refine steps_end rfl ?_)
      go_wp2
      go_roundw
      case rel => exact ⟨y, x % y, hy, by have := Nat.mod_lt x hpos; omega, rfl, by go_num, hid (by rw [← hg.out, Nat.gcd_comm x y, Nat.gcd_rec y x, Nat.gcd_comm]), hid hC.out.drew⟩
      case measure =>
        have := Nat.mod_lt x hpos
        simp [intOf]
        omega

theorem numOk_of {p q : Int} {P Q g : Nat} (hg : Nat.gcd P Q = g) (hq : q = Q) (hp : p = P ∨ p = -P) (h1 : 1 ≤ q) (h2 : q ≤ 2147483647) (h3 : -2147483647 ≤ p) (h4 : p ≤ 2147483647) : numOk p q = decide (g = 1) := by
  subst hg
  have e1 : p.natAbs = P := by omega
  have e2 : q.toNat = Q := by omega
  unfold numOk
  rw [e1, e2]
  simp [h1, h2, h3, h4]
theorem rat_gcd_eq {w : World} {a b g : Nat} (h : Nat.gcd a b = g) (ha : a ≤ 2147483647) (hb : b ≤ 2147483647) :
    Calls Try.prog 50 #[.int .i64 a, .int .i64 b] w fun e w' => e = .returned (.int .i64 g) ∧ Chg (fun _ => False) w w' := by subst h; exact rat_gcd w a b ha hb
theorem ref_gcd_eq {w : World} {a b g : Nat} (h : Nat.gcd a b = g) (ha : a ≤ 2147483647) (hb : b ≤ 2147483647) :
    Calls Try.prog 48 #[.int .i64 a, .int .i64 b] w fun e w' => e = .returned (.int .i64 g) ∧ Chg (fun _ => False) w w' := by subst h; exact ref_gcd w a b ha hb
theorem numOk_no {p q : Int} (h : ¬ (1 ≤ q ∧ q ≤ 2147483647 ∧ -2147483647 ≤ p ∧ p ≤ 2147483647)) : numOk p q = false := by
  unfold numOk
  by_cases h1 : 1 ≤ q <;> by_cases h2 : q ≤ 2147483647 <;> by_cases h3 : -2147483647 ≤ p <;> by_cases h4 : p ≤ 2147483647 <;> simp [h1, h2, h3, h4] at h ⊢
theorem one_eq {g : Nat} {b : Bool} (h : decide (g = 1) = b) : ((g : Int) == 1) = b := by
  subst h
  rw [Bool.eq_iff_iff, beq_iff_eq, decide_eq_true_iff]
  omega
set_option maxRecDepth 100000 in
set_option maxHeartbeats 1000000 in
theorem rat_valid (w : World) (p q : Int) : Calls Try.prog 40 #[.agg #[.int .i64 p, .int .i64 q]] w fun e w' => e = .returned (.bool (numOk p q)) ∧ Chg (fun _ => False) w w' := by
  by_cases hall : 1 ≤ q ∧ q ≤ 2147483647 ∧ -2147483647 ≤ p ∧ p ≤ 2147483647
  · obtain ⟨h1, h2, h3, h4⟩ := hall
    obtain ⟨Q, rfl⟩ := Int.eq_ofNat_of_zero_le (show 0 ≤ q by omega)
    obtain ⟨P, hP⟩ : ∃ P : Nat, p = P ∨ p = -P ∧ 0 < P := ⟨p.natAbs, by omega⟩
    obtain ⟨g, hg⟩ : ∃ g, Hid (Nat.gcd P Q = g) := ⟨_, hid rfl⟩
    rw [numOk_of hg.out rfl (hP.imp id And.left) h1 h2 h3 h4]
    rcases hP with rfl | ⟨rfl, hpos⟩ <;> rcases Bool.eq_false_or_eq_true (decide (g = 1)) with hb | hb
    all_goals
      rw [hb]
      have hge := one_eq hb
      clear hb
      have hn1 : ¬ ((P : Int) < -P) := by omega
      have hn2 : -(P : Int) ≤ P := by omega
      go_enter Try.func40, Try.ntmps40
      go_wp2_with (go_at_call 50; refine (rat_gcd_eq hg.out (by omega) (by omega)).mono ?_; rintro e w' ⟨rfl, hc⟩; have hc := hid hc)
      go_ret
      exact ⟨rfl, (((Chg.refl _ w).alloc _).trans_same hc.out)⟩
  · rw [numOk_no hall]
    by_cases h1 : 1 ≤ q
    by_cases h2 : q ≤ 2147483647
    by_cases h3 : -2147483647 ≤ p
    by_cases h4 : p ≤ 2147483647
    · exact absurd ⟨h1, h2, h3, h4⟩ hall
    all_goals
      clear hall
      go_enter Try.func40, Try.ntmps40
      go_wp2
      go_ret
      exact ⟨rfl, (Chg.refl _ w).alloc _⟩

/-! ### The document's -/
theorem ref_abs (w : World) (p : Int) (h : -2147483647 ≤ p) (h' : p ≤ 2147483647) {P : Nat} (hP : p = P ∨ p = -P) : Calls Try.prog 49 #[.int .i64 p] w fun e w' => e = .returned (.int .i64 P) ∧ w = w' := by
  by_cases h0 : p < 0
  · have hv : Hid ((P : Int) = -p) := hid (by omega)
    clear hP
    go_enter Try.func49, Try.ntmps49
    go_wp2
    go_ret
    exact ⟨by rw [hv.out]; rfl, rfl⟩
  · have hv : Hid ((P : Int) = p) := hid (by omega)
    clear hP
    go_enter Try.func49, Try.ntmps49
    go_wp2
    go_ret
    exact ⟨by rw [hv.out]; rfl, rfl⟩
set_option maxRecDepth 100000 in
set_option maxHeartbeats 1000000 in
theorem ref_valid (w : World) (p q : Int) : Calls Try.prog 39 #[.agg #[.int .i64 p, .int .i64 q]] w fun e w' => e = .returned (.bool (numOk p q)) ∧ Chg (fun _ => False) w w' := by
  by_cases hall : 1 ≤ q ∧ q ≤ 2147483647 ∧ -2147483647 ≤ p ∧ p ≤ 2147483647
  · obtain ⟨h1, h2, h3, h4⟩ := hall
    obtain ⟨Q, rfl⟩ := Int.eq_ofNat_of_zero_le (show 0 ≤ q by omega)
    obtain ⟨P, hP⟩ : ∃ P : Nat, p = P ∨ p = -P := ⟨p.natAbs, by omega⟩
    obtain ⟨g, hg⟩ : ∃ g, Hid (Nat.gcd P Q = g) := ⟨_, hid rfl⟩
    rw [numOk_of hg.out rfl hP h1 h2 h3 h4]
    have hPP : P ≤ 2147483647 := by omega
    have hP := hid hP
    have hab := hid (ref_abs ((w.alloc (.cells #[.int .i64 p, .int .i64 Q] 24)).drew) p h3 h4 hP.out)
    rcases Bool.eq_false_or_eq_true (decide (g = 1)) with hb | hb
    all_goals
      rw [hb]
      have hge := one_eq hb
      clear hb
      go_enter Try.func39, Try.ntmps39
      go_wp2
      refine wp_region_rc (id := 1) [.rd [0, 1, 2, 3, 4, 5, 6, 7, 8, 9, 10, 11, 12, 13, 14, 15, 16, 17, 18, 19, 20, 22, 23], .act 21] [24, 25, 26, 27] [] (fun w' => w' = _) (by kernel_rfl) 30 rfl (by kernel_rfl) (fun _ _ _ _ _ h => h) rfl ?_
      refine steps_rdW ?_
      apply Exists.intro
      refine ⟨?_, ?_⟩
      focus (rintro w' rfl; (iterate 23 (refine stW_step rfl (fun K hK => ?_); go_simp; refine hK _ ?_; clear hK K)); exact stW_nil rfl)
      refine steps_act (o := ⟨_, _, _, _, _, _⟩) rfl (fun K2 hK2 => ?_)
      go_wp2_with (go_at_call 49; refine hab.out.mono ?_; rintro e w' ⟨rfl, rfl⟩)
      refine hK2 _ _ rfl rfl ?_
      clear hK2 K2
      refine steps_nil (l := [⟨_, _, _, _, _, _⟩, ⟨_, _, _, _, _, _⟩, ⟨_, _, _, _, _, _⟩, ⟨_, _, _, _, _, _⟩]) rfl (fun K2 hK2 => ?_)
      go_wp2_with (go_at_call 48; refine (ref_gcd_eq hg.out (by omega) (by omega)).mono ?_; rintro e w' ⟨rfl, hc⟩; have hc := hid hc)
      refine hK2 _ _ rfl ?_
      clear hK2 K2
      refine stI_nil ?_
      go_wp2
      go_ret
      exact ⟨rfl, ((Chg.refl _ w).alloc _).drew.trans_same hc.out⟩
  · rw [numOk_no hall]
    by_cases h1 : 1 ≤ q
    by_cases h2 : q ≤ 2147483647
    by_cases h4 : p ≤ 2147483647
    by_cases h3 : -2147483647 ≤ p
    · exact absurd ⟨h1, h2, h3, h4⟩ hall
    all_goals
      clear hall
      first | have hd := decide_eq_false h3 | have hd := decide_eq_false h4 | have hd := decide_eq_false h2 | have hd := decide_eq_false h1
      go_enter Try.func39, Try.ntmps39
      go_wp2
      refine wp_region_rc (id := 1) [.rd [0, 1, 2, 3, 4, 5, 6, 7, 8, 9, 10, 11, 12, 13, 14, 15, 16, 17, 18, 19, 20, 22, 23], .act 21] [24, 25, 26, 27] [] (fun w' => w' = _) (by kernel_rfl) 30 rfl (by kernel_rfl) (fun _ _ _ _ _ h => h) rfl ?_
      refine steps_rdW ?_
      apply Exists.intro
      refine ⟨?_, ?_⟩
      focus (rintro w' rfl; (iterate 23 (refine stW_step rfl (fun K hK => ?_); go_simp; refine hK _ ?_; clear hK K)); exact stW_nil rfl)
      refine steps_act (o := ⟨_, _, _, _, _, _⟩) rfl (fun K2 hK2 => ?_)
      go_wp2
      refine hK2 _ _ rfl rfl ?_
      clear hK2 K2
      refine steps_nil (l := [⟨_, _, _, _, _, _⟩, ⟨_, _, _, _, _, _⟩, ⟨_, _, _, _, _, _⟩, ⟨_, _, _, _, _, _⟩]) rfl (fun K2 hK2 => ?_)
      go_wp2
      refine hK2 _ _ rfl ?_
      clear hK2 K2
      refine stI_nil ?_
      go_wp2
      go_ret
      exact ⟨rfl, ((Chg.refl _ w).alloc _).drew⟩
end Go.Proofs.Ytoelgnjnbelokaa

namespace Go.Proofs.Ytoelgnjnbelokaa
open Go.RowKit

theorem run_eqV (w : World) (a b : V) : (binOp .eql 26 (.agg #[.int .i64 a.k, .int .i64 a.p, .int .i64 a.q, .string a.s, .int .i64 a.r]) (.agg #[.int .i64 b.k, .int .i64 b.p, .int .i64 b.q, .string b.s, .int .i64 b.r])).run Try.prog w = .ok (.bool (decide (a = b))) w := by
  obtain ⟨a1, a2, a3, a4, a5⟩ := a
  obtain ⟨b1, b2, b3, b4, b5⟩ := b
  have hs : (a4.toList = b4.toList) = (a4 = b4) := propext ⟨fun h => by
    rw [ByteArray.toList_eq, ByteArray.toList_eq] at h
    obtain ⟨⟨x⟩⟩ := a4
    obtain ⟨⟨y⟩⟩ := b4
    simpa using h, fun h => by rw [h]⟩
  go_simp
  by_cases h1 : a1 = b1 <;> by_cases h2 : a2 = b2 <;> by_cases h3 : a3 = b3 <;> by_cases h4 : a4 = b4 <;> by_cases h5 : a5 = b5 <;> simp [h1, h2, h3, h4, h5]
theorem run_neV (w : World) (a b : V) : (binOp .neq 26 (.agg #[.int .i64 a.k, .int .i64 a.p, .int .i64 a.q, .string a.s, .int .i64 a.r]) (.agg #[.int .i64 b.k, .int .i64 b.p, .int .i64 b.q, .string b.s, .int .i64 b.r])).run Try.prog w = .ok (.bool (decide (a ≠ b))) w := by
  have h := run_eqV w a b
  rw [run_eql_struct] at h
  rw [run_neq_struct]
  generalize (Op.equalIn 10000 26 (.agg #[.int .i64 a.k, .int .i64 a.p, .int .i64 a.q, .string a.s, .int .i64 a.r]) (.agg #[.int .i64 b.k, .int .i64 b.p, .int .i64 b.q, .string b.s, .int .i64 b.r])).run Try.prog w = r at h ⊢
  cases r with
  | ok x w' =>
    simp only [Result.andThen_ok] at h ⊢
    injection h with h1 h2
    injection h1 with h1
    subst h1; subst h2
    simp
  | halt x w' => simp [Result.andThen] at h
set_option maxRecDepth 100000 in
set_option maxHeartbeats 4000000 in
theorem val_valid (w : World) (v : V) : Calls Try.prog 29 #[(.agg #[.int .i64 v.k, .int .i64 v.p, .int .i64 v.q, .string v.s, .int .i64 v.r])] w fun e w' => e = .returned (.bool (vok v)) ∧ Chg (fun _ => False) w w' := by
  obtain ⟨k, p, q, s, r⟩ := v
  by_cases hk2 : k = 2
  · subst hk2
    rcases Bool.eq_false_or_eq_true (numOk p q) with hb | hb
    all_goals
      have hB := hid hb
      go_enter Try.func29, Try.ntmps29
      go_wp2_with (go_at_call 40; refine (rat_valid _ p q).mono ?_; rintro e w1 ⟨rfl, hc⟩; rw [hB.out]; have hl0 : w.heap.size < w1.heap.size := (by have := hc.size; simp at this; omega); have hl1 : w.heap.size + 1 < w1.heap.size := (by have := hc.size; simp at this; omega); obtain ⟨a0, a1, a2, a3, a4⟩ := V.box (v := ⟨2, p, q, s, r⟩) (((Bk.new w 26 (V.cs ⟨2, p, q, s, r⟩)).alloc _).chg hc (fun h => h)); obtain ⟨b0, b1, b2, b3, b4⟩ := V.box (v := ⟨2, p, q, ⟨#[]⟩, 0⟩) ((Bk.new_at _ 26 (V.cs ⟨2, p, q, ⟨#[]⟩, 0⟩).toArray (w.heap.size + 1) (by simp)).chg hc (fun h => h)); have hC := hid ((((Chg.refl (fun _ => False) w).alloc _).alloc _).trans_same hc); clear hc)
      all_goals
        go_ret
        exact ⟨by simp [vok, *], hC.out⟩
  by_cases hk0 : k = 0
  · subst hk0
    clear hk2
    go_enter Try.func29, Try.ntmps29
    go_wp2
    all_goals (go_ret; exact ⟨by simp [vok, *], ((Chg.refl _ w).alloc _).alloc _⟩)
  by_cases hk1 : k = 1
  · subst hk1
    clear hk2 hk0
    by_cases h0 : r = 0
    · subst h0
      go_enter Try.func29, Try.ntmps29
      go_wp2
      all_goals (go_ret; exact ⟨by simp [vok, *], ((Chg.refl _ w).alloc _).alloc _⟩)
    by_cases h1 : r = 1
    · subst h1
      clear h0
      go_enter Try.func29, Try.ntmps29
      go_wp2
      all_goals (go_ret; exact ⟨by simp [vok, *], ((Chg.refl _ w).alloc _).alloc _⟩)
    · have g0 : (r == 0) = false := by simpa using h0
      have g1 : (r == 1) = false := by simpa using h1
      go_enter Try.func29, Try.ntmps29
      go_wp2
      all_goals (go_ret; exact ⟨by simp [vok, *], ((Chg.refl _ w).alloc _).alloc _⟩)
  by_cases hk3 : k = 3
  · subst hk3
    clear hk2 hk0 hk1
    by_cases h0 : s.size ≤ 4096
    · have g0 : decide ((s.size : Int) ≤ 4096) = true := by simp; omega
      go_enter Try.func29, Try.ntmps29
      go_wp2
      all_goals (go_ret; exact ⟨by simp [vok, *], ((Chg.refl _ w).alloc _).alloc _⟩)
    · have g0 : decide ((s.size : Int) ≤ 4096) = false := by simp; omega
      go_enter Try.func29, Try.ntmps29
      go_wp2
      all_goals (go_ret; exact ⟨by simp [vok, *], ((Chg.refl _ w).alloc _).alloc _⟩)
  by_cases hk6 : k = 6
  · subst hk6
    clear hk2 hk0 hk1 hk3
    by_cases h1 : 1 ≤ s.size
    by_cases h0 : s.size ≤ 4096
    · have g0 : decide ((s.size : Int) ≤ 4096) = true := by simp; omega
      have g1 : decide ((1 : Int) ≤ s.size) = true := by simp; omega
      go_enter Try.func29, Try.ntmps29
      go_wp2
      all_goals (go_ret; exact ⟨by simp [vok, *], ((Chg.refl _ w).alloc _).alloc _⟩)
    · have g0 : decide ((s.size : Int) ≤ 4096) = false := by simp; omega
      have g1 : decide ((1 : Int) ≤ s.size) = true := by simp; omega
      go_enter Try.func29, Try.ntmps29
      go_wp2
      all_goals (go_ret; exact ⟨by simp [vok, *], ((Chg.refl _ w).alloc _).alloc _⟩)
    · have g1 : decide ((1 : Int) ≤ s.size) = false := by simp; omega
      go_enter Try.func29, Try.ntmps29
      go_wp2
      all_goals (go_ret; exact ⟨by simp [vok, *], ((Chg.refl _ w).alloc _).alloc _⟩)
  by_cases hko : k = 4 ∨ k = 5 ∨ k = 7 ∨ k = 8
  · by_cases h0 : 1 ≤ r
    · have g0 : decide (1 ≤ r) = true := by simpa using h0
      clear hk2 hk0 hk1 hk3 hk6
      rcases hko with rfl | rfl | rfl | rfl
      all_goals
        go_enter Try.func29, Try.ntmps29
        go_wp2
        all_goals (go_ret; exact ⟨by simp [vok, *], ((Chg.refl _ w).alloc _).alloc _⟩)
    · have g0 : decide (1 ≤ r) = false := by simpa using h0
      clear hk2 hk0 hk1 hk3 hk6
      rcases hko with rfl | rfl | rfl | rfl
      all_goals
        go_enter Try.func29, Try.ntmps29
        go_wp2
        all_goals (go_ret; exact ⟨by simp [vok, *], ((Chg.refl _ w).alloc _).alloc _⟩)
  · have k0 : (k == 0) = false := by simpa using hk0
    have k1 : (k == 1) = false := by simpa using hk1
    have k2 : (k == 2) = false := by simpa using hk2
    have k3 : (k == 3) = false := by simpa using hk3
    have k4 : (k == 4) = false := by rw [beq_eq_false_iff_ne]; omega
    have k5 : (k == 5) = false := by rw [beq_eq_false_iff_ne]; omega
    have k6 : (k == 6) = false := by simpa using hk6
    have k7 : (k == 7) = false := by rw [beq_eq_false_iff_ne]; omega
    have k8 : (k == 8) = false := by rw [beq_eq_false_iff_ne]; omega
    have hv : vok ⟨k, p, q, s, r⟩ = false := by unfold vok; simp only [if_neg hk0, if_neg hk1, if_neg hk2, if_neg hk3, if_neg hk6, if_neg hko]
    rw [hv]
    clear hv hk0 hk1 hk2 hk3 hk6 hko
    go_enter Try.func29, Try.ntmps29
    go_wp2
    all_goals (go_ret; exact ⟨rfl, ((Chg.refl _ w).alloc _).alloc _⟩)
end Go.Proofs.Ytoelgnjnbelokaa

namespace Go.Proofs.Ytoelgnjnbelokaa
open Go.RowKit

set_option maxRecDepth 100000 in
set_option maxHeartbeats 4000000 in
theorem doc_valid (w : World) (v : V) : Calls Try.prog 23 #[(.agg #[.int .i64 v.k, .int .i64 v.p, .int .i64 v.q, .string v.s, .int .i64 v.r])] w fun e w' => e = .returned (.bool (vok v)) ∧ Chg (fun _ => False) w w' := by
  obtain ⟨k, p, q, s, r⟩ := v
  by_cases hk2 : k = 2
  · subst hk2
    rcases Bool.eq_false_or_eq_true (numOk p q) with hb | hb
    all_goals
      have hB := hid hb
      by_cases hs : s.toList = []
      · by_cases hr : r = 0
        · subst hr
          go_enter Try.func23, Try.ntmps23
          go_wp2_with (go_at_call 39; refine (ref_valid _ p q).mono ?_; rintro e w1 ⟨rfl, hc⟩; rw [hB.out]; have hC := hid (((Chg.refl (fun _ => False) w).alloc _).trans_same hc); clear hc)
          go_ret
          exact ⟨by simp [vok, *], hC.out⟩
        · have hr' : (r == 0) = false := by simpa using hr
          go_enter Try.func23, Try.ntmps23
          go_wp2
          go_ret
          exact ⟨by simp [vok, hr], (Chg.refl _ w).alloc _⟩
      · go_enter Try.func23, Try.ntmps23
        go_wp2
        go_ret
        exact ⟨by simp [vok, hs], (Chg.refl _ w).alloc _⟩
  by_cases hk0 : k = 0
  · subst hk0
    clear hk2
    go_enter Try.func23, Try.ntmps23
    go_wp2
    all_goals (go_ret; exact ⟨by simp [vok, *], (Chg.refl _ w).alloc _⟩)
  by_cases hk1 : k = 1
  · subst hk1
    clear hk2 hk0
    by_cases h0 : r = 0
    · subst h0
      go_enter Try.func23, Try.ntmps23
      go_wp2
      all_goals (go_ret; exact ⟨by simp [vok, *], (Chg.refl _ w).alloc _⟩)
    by_cases h1 : r = 1
    · subst h1
      clear h0
      go_enter Try.func23, Try.ntmps23
      go_wp2
      all_goals (go_ret; exact ⟨by simp [vok, *], (Chg.refl _ w).alloc _⟩)
    · have g0 : (r == 0) = false := by simpa using h0
      have g1 : (r == 1) = false := by simpa using h1
      go_enter Try.func23, Try.ntmps23
      go_wp2
      all_goals (go_ret; exact ⟨by simp [vok, *], (Chg.refl _ w).alloc _⟩)
  by_cases hk3 : k = 3
  · subst hk3
    clear hk2 hk0 hk1
    by_cases h0 : s.size ≤ 4096
    · have g0 : decide ((s.size : Int) ≤ 4096) = true := by simp; omega
      go_enter Try.func23, Try.ntmps23
      go_wp2
      all_goals (go_ret; exact ⟨by simp [vok, *], (Chg.refl _ w).alloc _⟩)
    · have g0 : decide ((s.size : Int) ≤ 4096) = false := by simp; omega
      go_enter Try.func23, Try.ntmps23
      go_wp2
      all_goals (go_ret; exact ⟨by simp [vok, *], (Chg.refl _ w).alloc _⟩)
  by_cases hk6 : k = 6
  · subst hk6
    clear hk2 hk0 hk1 hk3
    by_cases h1 : 1 ≤ s.size
    by_cases h0 : s.size ≤ 4096
    · have g0 : decide ((s.size : Int) ≤ 4096) = true := by simp; omega
      have g1 : decide ((1 : Int) ≤ s.size) = true := by simp; omega
      go_enter Try.func23, Try.ntmps23
      go_wp2
      all_goals (go_ret; exact ⟨by simp [vok, *], (Chg.refl _ w).alloc _⟩)
    · have g0 : decide ((s.size : Int) ≤ 4096) = false := by simp; omega
      have g1 : decide ((1 : Int) ≤ s.size) = true := by simp; omega
      go_enter Try.func23, Try.ntmps23
      go_wp2
      all_goals (go_ret; exact ⟨by simp [vok, *], (Chg.refl _ w).alloc _⟩)
    · have g1 : decide ((1 : Int) ≤ s.size) = false := by simp; omega
      go_enter Try.func23, Try.ntmps23
      go_wp2
      all_goals (go_ret; exact ⟨by simp [vok, *], (Chg.refl _ w).alloc _⟩)
  by_cases hko : k = 4 ∨ k = 5 ∨ k = 7 ∨ k = 8
  · by_cases h0 : 1 ≤ r
    · have g0 : decide (1 ≤ r) = true := by simpa using h0
      clear hk2 hk0 hk1 hk3 hk6
      rcases hko with rfl | rfl | rfl | rfl
      all_goals
        go_enter Try.func23, Try.ntmps23
        go_wp2
        all_goals (go_ret; exact ⟨by simp [vok, *], (Chg.refl _ w).alloc _⟩)
    · have g0 : decide (1 ≤ r) = false := by simpa using h0
      clear hk2 hk0 hk1 hk3 hk6
      rcases hko with rfl | rfl | rfl | rfl
      all_goals
        go_enter Try.func23, Try.ntmps23
        go_wp2
        all_goals (go_ret; exact ⟨by simp [vok, *], (Chg.refl _ w).alloc _⟩)
  · have k0 : (k == 0) = false := by simpa using hk0
    have k1 : (k == 1) = false := by simpa using hk1
    have k2 : (k == 2) = false := by simpa using hk2
    have k3 : (k == 3) = false := by simpa using hk3
    have k4 : (k == 4) = false := by rw [beq_eq_false_iff_ne]; omega
    have k5 : (k == 5) = false := by rw [beq_eq_false_iff_ne]; omega
    have k6 : (k == 6) = false := by simpa using hk6
    have k7 : (k == 7) = false := by rw [beq_eq_false_iff_ne]; omega
    have k8 : (k == 8) = false := by rw [beq_eq_false_iff_ne]; omega
    have hv : vok ⟨k, p, q, s, r⟩ = false := by unfold vok; simp only [if_neg hk0, if_neg hk1, if_neg hk2, if_neg hk3, if_neg hk6, if_neg hko]
    rw [hv]
    clear hv hk0 hk1 hk2 hk3 hk6 hko
    go_enter Try.func23, Try.ntmps23
    go_wp2
    all_goals (go_ret; exact ⟨rfl, (Chg.refl _ w).alloc _⟩)
end Go.Proofs.Ytoelgnjnbelokaa
