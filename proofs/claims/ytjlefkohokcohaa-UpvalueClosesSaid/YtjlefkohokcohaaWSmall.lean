/-
  The walks of the calls that only look at the cells: check, Get, Register, Count; the same for the program and for the document's cells.
-/
import Derived.Test.YtjlefkohokcohaaModel
import Derived.Test.YtjlefkohokcohaaProg
namespace Go.Proofs.Ytjlefkohokcohaa
open Go.RowKit

theorem up_count_nil (w : World) : Calls Try.prog 15 #[.pointer none] w fun e w' => e = .returned (.int .i64 0) ∧ w = w' := by
  go_enter Try.func15, Try.ntmps15
  go_wp2
  go_ret
  exact ⟨rfl, rfl⟩
theorem up_count (w : World) (c : Nat) (A : Option Addr) (n cap : Nat) (h : w.cell? ⟨c, 0, none⟩ = some (.slice A n cap)) :
    Calls Try.prog 15 #[.pointer (some ⟨c, 0, none⟩)] w fun e w' => e = .returned (.int .i64 n) ∧ w = w' := by
  go_enter Try.func15, Try.ntmps15
  go_wp2
  go_ret
  exact ⟨rfl, rfl⟩
theorem up_check_nil (w : World) (n : Int) (A : Option Addr) (m k : Nat) : Calls Try.prog 28 #[.pointer none, .int .i64 n, .slice A m k] w fun e w' => e = .returned (.int .i64 1) ∧ w = w' := by
  go_enter Try.func28, Try.ntmps28
  go_wp2
  go_ret
  exact ⟨rfl, rfl⟩
theorem up_check (w : World) (c : Nat) (va : Value) (L : List Cl) (n : Int) (A : Option Addr) (m k : Nat) (h : w.cell? ⟨c, 0, none⟩ = some va) (hr : w.ownsRow 0 68 7 va L.length (L.flatMap Cl.cs)) :
    Calls Try.prog 28 #[.pointer (some ⟨c, 0, none⟩), .int .i64 n, .slice A m k] w fun e w' => e = .returned (.int .i64 (chk L n m)) ∧ w = w' := by
  obtain ⟨B, cap, rfl, hl, hl', hB, -⟩ := own_form hr
  by_cases h0 : n < 0
  · have hc : chk L n m = 6 := by unfold chk; rw [if_pos (by omega)]
    rw [hc]
    clear hc
    go_enter Try.func28, Try.ntmps28
    go_wp2
    go_ret
    exact ⟨rfl, rfl⟩
  by_cases h1 : (L.length : Int) ≤ n
  · have hc : chk L n m = 6 := by unfold chk; rw [if_pos (by omega)]
    rw [hc]
    clear hc
    go_enter Try.func28, Try.ntmps28
    go_wp2
    go_ret
    exact ⟨rfl, rfl⟩
  obtain ⟨i, rfl⟩ := Int.eq_ofNat_of_zero_le (Int.not_lt.1 h0)
  obtain ⟨g, rfl⟩ := hB (by omega)
  obtain ⟨f0, f1, -⟩ := cell_at hr (i := i) (by omega)
  have hi : i < L.length := by omega
  clear hB hr h0 h1
  cases ho : (at_ L i).o
  · have hc : chk L i m = 0 := by unfold chk; rw [if_neg (by omega), if_neg (by simp [ho])]
    rw [hc]
    rw [ho] at f0
    clear hc ho
    go_enter Try.func28, Try.ntmps28
    go_wp2
    go_ret
    exact ⟨rfl, rfl⟩
  · rw [ho] at f0
    by_cases h2 : (m : Int) ≤ (at_ L i).reg
    · have hc : chk L i m = 19 := by unfold chk; rw [if_neg (by omega), if_pos ⟨by simpa using ho, by simpa using h2⟩]
      rw [hc]
      clear hc ho
      go_enter Try.func28, Try.ntmps28
      go_wp2
      go_ret
      exact ⟨rfl, rfl⟩
    · have hc : chk L i m = 0 := by unfold chk; rw [if_neg (by omega), if_neg (by simp; intro _; omega)]
      rw [hc]
      clear hc ho
      go_enter Try.func28, Try.ntmps28
      go_wp2
      go_ret
      exact ⟨rfl, rfl⟩
theorem up_register_nil (w : World) (n : Int) : Calls Try.prog 17 #[.pointer none, .int .i64 n] w fun e w' => e = .returned (.tuple #[.int .i64 0, .bool false]) ∧ w = w' := by
  go_enter Try.func17, Try.ntmps17
  go_wp2
  go_ret2
  exact ⟨rfl, rfl⟩
theorem up_register (w : World) (c : Nat) (va : Value) (L : List Cl) (n : Int) (h : w.cell? ⟨c, 0, none⟩ = some va) (hr : w.ownsRow 0 68 7 va L.length (L.flatMap Cl.cs)) :
    Calls Try.prog 17 #[.pointer (some ⟨c, 0, none⟩), .int .i64 n] w fun e w' => e = .returned (.tuple #[.int .i64 (regOf L n), .bool (isOpen L n)]) ∧ w = w' := by
  obtain ⟨B, cap, rfl, hl, hl', hB, -⟩ := own_form hr
  by_cases h0 : n < 0
  · have hc : regOf L n = 0 ∧ isOpen L n = false := by unfold regOf isOpen; rw [if_pos (by omega), if_pos (by omega)]; exact ⟨rfl, rfl⟩
    rw [hc.1, hc.2]
    clear hc
    go_enter Try.func17, Try.ntmps17
    go_wp2
    go_ret2
    exact ⟨rfl, rfl⟩
  by_cases h1 : (L.length : Int) ≤ n
  · have hc : regOf L n = 0 ∧ isOpen L n = false := by unfold regOf isOpen; rw [if_pos (by omega), if_pos (by omega)]; exact ⟨rfl, rfl⟩
    rw [hc.1, hc.2]
    clear hc
    go_enter Try.func17, Try.ntmps17
    go_wp2
    go_ret2
    exact ⟨rfl, rfl⟩
  obtain ⟨i, rfl⟩ := Int.eq_ofNat_of_zero_le (Int.not_lt.1 h0)
  obtain ⟨g, rfl⟩ := hB (by omega)
  obtain ⟨f0, f1, -⟩ := cell_at hr (i := i) (by omega)
  have hi : i < L.length := by omega
  clear hB hr h0 h1
  cases ho : (at_ L i).o
  · have hc : regOf L i = 0 ∧ isOpen L i = false := by have := regOf_in hi; simpa [ho] using this
    rw [hc.1, hc.2]
    rw [ho] at f0
    clear hc ho
    go_enter Try.func17, Try.ntmps17
    go_wp2
    go_ret2
    exact ⟨rfl, rfl⟩
  · have hc : regOf L i = (at_ L i).reg ∧ isOpen L i = true := by have := regOf_in hi; simpa [ho] using this
    rw [hc.1, hc.2]
    rw [ho] at f0
    clear hc ho
    go_enter Try.func17, Try.ntmps17
    go_wp2
    go_ret2
    exact ⟨rfl, rfl⟩
theorem rf_count_nil (w : World) : Calls Try.prog 27 #[.pointer none] w fun e w' => e = .returned (.int .i64 0) ∧ w = w' := by
  go_enter Try.func27, Try.ntmps27
  go_wp2
  go_ret
  exact ⟨rfl, rfl⟩
theorem rf_count (w : World) (c : Nat) (A : Option Addr) (n cap : Nat) (h : w.cell? ⟨c, 0, none⟩ = some (.slice A n cap)) :
    Calls Try.prog 27 #[.pointer (some ⟨c, 0, none⟩)] w fun e w' => e = .returned (.int .i64 n) ∧ w = w' := by
  go_enter Try.func27, Try.ntmps27
  go_wp2
  go_ret
  exact ⟨rfl, rfl⟩
theorem rf_check_nil (w : World) (n : Int) (A : Option Addr) (m k : Nat) : Calls Try.prog 29 #[.pointer none, .int .i64 n, .slice A m k] w fun e w' => e = .returned (.int .i64 1) ∧ w = w' := by
  go_enter Try.func29, Try.ntmps29
  go_wp2
  go_ret
  exact ⟨rfl, rfl⟩
theorem rf_check (w : World) (c : Nat) (va : Value) (L : List Cl) (n : Int) (A : Option Addr) (m k : Nat) (h : w.cell? ⟨c, 0, none⟩ = some va) (hr : w.ownsRow 0 72 7 va L.length (L.flatMap Cl.cs)) :
    Calls Try.prog 29 #[.pointer (some ⟨c, 0, none⟩), .int .i64 n, .slice A m k] w fun e w' => e = .returned (.int .i64 (chk L n m)) ∧ w = w' := by
  obtain ⟨B, cap, rfl, hl, hl', hB, -⟩ := own_form hr
  by_cases h0 : n < 0
  · have hc : chk L n m = 6 := by unfold chk; rw [if_pos (by omega)]
    rw [hc]
    clear hc
    go_enter Try.func29, Try.ntmps29
    go_wp2
    go_ret
    exact ⟨rfl, rfl⟩
  by_cases h1 : (L.length : Int) ≤ n
  · have hc : chk L n m = 6 := by unfold chk; rw [if_pos (by omega)]
    rw [hc]
    clear hc
    go_enter Try.func29, Try.ntmps29
    go_wp2
    go_ret
    exact ⟨rfl, rfl⟩
  obtain ⟨i, rfl⟩ := Int.eq_ofNat_of_zero_le (Int.not_lt.1 h0)
  obtain ⟨g, rfl⟩ := hB (by omega)
  obtain ⟨f0, f1, -⟩ := cell_at hr (i := i) (by omega)
  have hi : i < L.length := by omega
  clear hB hr h0 h1
  cases ho : (at_ L i).o
  · have hc : chk L i m = 0 := by unfold chk; rw [if_neg (by omega), if_neg (by simp [ho])]
    rw [hc]
    rw [ho] at f0
    clear hc ho
    go_enter Try.func29, Try.ntmps29
    go_wp2
    go_ret
    exact ⟨rfl, rfl⟩
  · rw [ho] at f0
    by_cases h2 : (m : Int) ≤ (at_ L i).reg
    · have hc : chk L i m = 19 := by unfold chk; rw [if_neg (by omega), if_pos ⟨by simpa using ho, by simpa using h2⟩]
      rw [hc]
      clear hc ho
      go_enter Try.func29, Try.ntmps29
      go_wp2
      go_ret
      exact ⟨rfl, rfl⟩
    · have hc : chk L i m = 0 := by unfold chk; rw [if_neg (by omega), if_neg (by simp; intro _; omega)]
      rw [hc]
      clear hc ho
      go_enter Try.func29, Try.ntmps29
      go_wp2
      go_ret
      exact ⟨rfl, rfl⟩
theorem rf_register_nil (w : World) (n : Int) : Calls Try.prog 26 #[.pointer none, .int .i64 n] w fun e w' => e = .returned (.tuple #[.int .i64 0, .bool false]) ∧ w = w' := by
  go_enter Try.func26, Try.ntmps26
  go_wp2
  go_ret2
  exact ⟨rfl, rfl⟩
theorem rf_register (w : World) (c : Nat) (va : Value) (L : List Cl) (n : Int) (h : w.cell? ⟨c, 0, none⟩ = some va) (hr : w.ownsRow 0 72 7 va L.length (L.flatMap Cl.cs)) :
    Calls Try.prog 26 #[.pointer (some ⟨c, 0, none⟩), .int .i64 n] w fun e w' => e = .returned (.tuple #[.int .i64 (regOf L n), .bool (isOpen L n)]) ∧ w = w' := by
  obtain ⟨B, cap, rfl, hl, hl', hB, -⟩ := own_form hr
  by_cases h0 : n < 0
  · have hc : regOf L n = 0 ∧ isOpen L n = false := by unfold regOf isOpen; rw [if_pos (by omega), if_pos (by omega)]; exact ⟨rfl, rfl⟩
    rw [hc.1, hc.2]
    clear hc
    go_enter Try.func26, Try.ntmps26
    go_wp2
    go_ret2
    exact ⟨rfl, rfl⟩
  by_cases h1 : (L.length : Int) ≤ n
  · have hc : regOf L n = 0 ∧ isOpen L n = false := by unfold regOf isOpen; rw [if_pos (by omega), if_pos (by omega)]; exact ⟨rfl, rfl⟩
    rw [hc.1, hc.2]
    clear hc
    go_enter Try.func26, Try.ntmps26
    go_wp2
    go_ret2
    exact ⟨rfl, rfl⟩
  obtain ⟨i, rfl⟩ := Int.eq_ofNat_of_zero_le (Int.not_lt.1 h0)
  obtain ⟨g, rfl⟩ := hB (by omega)
  obtain ⟨f0, f1, -⟩ := cell_at hr (i := i) (by omega)
  have hi : i < L.length := by omega
  clear hB hr h0 h1
  cases ho : (at_ L i).o
  · have hc : regOf L i = 0 ∧ isOpen L i = false := by have := regOf_in hi; simpa [ho] using this
    rw [hc.1, hc.2]
    rw [ho] at f0
    clear hc ho
    go_enter Try.func26, Try.ntmps26
    go_wp2
    go_ret2
    exact ⟨rfl, rfl⟩
  · have hc : regOf L i = (at_ L i).reg ∧ isOpen L i = true := by have := regOf_in hi; simpa [ho] using this
    rw [hc.1, hc.2]
    rw [ho] at f0
    clear hc ho
    go_enter Try.func26, Try.ntmps26
    go_wp2
    go_ret2
    exact ⟨rfl, rfl⟩
end Go.Proofs.Ytjlefkohokcohaa
