/-
  The script's own small functions: a number, a string, too long a script.
-/
import Derived.Test.YtoelgnjnbelokaaWTIns2
import Derived.Test.YtoelgnjnbelokaaWTNext
namespace Go.Proofs.Ytoelgnjnbelokaa
open Go.RowKit Go.Maps

def kS (s : ByteArray) : V := ⟨3, 0, 0, s, 0⟩
section
variable {w w' : World}
theorem t_num (w : World) (n : Int) : Calls Try.prog 22 #[.int .i64 n] w fun e w' => e = .returned (.agg #[.int .i64 ((kI n)).k, .int .i64 ((kI n)).p, .int .i64 ((kI n)).q, .string ((kI n)).s, .int .i64 ((kI n)).r]) ∧ Chg (fun _ => False) w w' := by
  have hB := hid (Bk.new w 26 (kI n).cs)
  have hC := hid ((Chg.refl (fun _ => False) w).alloc (.cells (kI n).cs.toArray 26))
  go_enter Try.func22, Try.ntmps22
  go_wp2_with fail
  exact ret_val (t := 2) (b := w.heap.size) (x := kI n) rfl rfl rfl hB.out ⟨rfl, hC.out⟩
theorem t_str (w : World) (s : ByteArray) : Calls Try.prog 24 #[.string s] w fun e w' => e = .returned (.agg #[.int .i64 ((kS s)).k, .int .i64 ((kS s)).p, .int .i64 ((kS s)).q, .string ((kS s)).s, .int .i64 ((kS s)).r]) ∧ Chg (fun _ => False) w w' := by
  have hB := hid (Bk.new w 26 (kS s).cs)
  have hC := hid ((Chg.refl (fun _ => False) w).alloc (.cells (kS s).cs.toArray 26))
  go_enter Try.func24, Try.ntmps24
  go_wp2_with fail
  exact ret_val (t := 2) (b := w.heap.size) (x := kS s) rfl rfl rfl hB.out ⟨rfl, hC.out⟩
theorem t_large (w : World) (A : Option Addr) (q cap : Nat) : Calls Try.prog 9 #[.slice A q cap] w fun e w' => e = .returned (.bool (decide (200 < q))) ∧ w = w' := by
  have h : decide ((200 : Int) < (q : Int)) = decide (200 < q) := by
    by_cases e : 200 < q
    · rw [decide_eq_true e]; exact decide_eq_true (by omega)
    · rw [decide_eq_false e]; exact decide_eq_false (by omega)
  go_enter Try.func9, Try.ntmps9
  go_wp2
  go_ret
  simp
end
end Go.Proofs.Ytoelgnjnbelokaa
