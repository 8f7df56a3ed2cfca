/-
  The table's functions at no table.
-/
import Derived.Test.YtoelgnjnbelokaaWTSmall
namespace Go.Proofs.Ytoelgnjnbelokaa
open Go.RowKit Go.Maps

section
set_option maxRecDepth 100000 in
theorem t_get_nil (w : World) (k : V) : Calls Try.prog 13 #[.pointer none, (.agg #[.int .i64 k.k, .int .i64 k.p, .int .i64 k.q, .string k.s, .int .i64 k.r])] w fun e w' => e = .returned (.agg #[.int .i64 ((V.zero)).k, .int .i64 ((V.zero)).p, .int .i64 ((V.zero)).q, .string ((V.zero)).s, .int .i64 ((V.zero)).r]) ∧ Chg (fun _ => False) w w' := by
  have hB := hid (Bk.new_at (w.alloc (.cells k.cs.toArray 26)) 26 V.zero.cs.toArray (w.heap.size + 1) (by simp))
  have hC := hid (((Chg.refl (fun _ => False) w).alloc (.cells k.cs.toArray 26)).alloc (.cells V.zero.cs.toArray 26))
  go_enter Try.func13, Try.ntmps13
  go_wp2_with fail
  exact ret_val (t := 4) (b := w.heap.size + 1) (x := V.zero) rfl rfl rfl hB.out ⟨rfl, hC.out⟩
set_option maxRecDepth 100000 in
theorem t_next_nil (w : World) (k : V) : Calls Try.prog 11 #[.pointer none, (.agg #[.int .i64 k.k, .int .i64 k.p, .int .i64 k.q, .string k.s, .int .i64 k.r])] w fun e w' => e = .returned (.tuple #[(.agg #[.int .i64 ((V.zero)).k, .int .i64 ((V.zero)).p, .int .i64 ((V.zero)).q, .string ((V.zero)).s, .int .i64 ((V.zero)).r]), (.agg #[.int .i64 ((V.zero)).k, .int .i64 ((V.zero)).p, .int .i64 ((V.zero)).q, .string ((V.zero)).s, .int .i64 ((V.zero)).r]), .bool false, .int .i64 1]) ∧ Chg (fun _ => False) w w' := by
  have hB := hid ((Bk.new_at (w.alloc (.cells k.cs.toArray 26)) 26 V.zero.cs.toArray (w.heap.size + 1) (by simp)).alloc (.cells V.zero.cs.toArray 26))
  have hB2 := hid (Bk.new_at ((w.alloc (.cells k.cs.toArray 26)).alloc (.cells V.zero.cs.toArray 26)) 26 V.zero.cs.toArray (w.heap.size + 1 + 1) (by simp))
  have hC := hid ((((Chg.refl (fun _ => False) w).alloc (.cells k.cs.toArray 26)).alloc (.cells V.zero.cs.toArray 26)).alloc (.cells V.zero.cs.toArray 26))
  go_enter Try.func11, Try.ntmps11
  go_wp2_with fail
  exact ret_vvbe (t1 := 4) (t2 := 5) (u1 := 6) (u2 := 7) (b1 := w.heap.size + 1) (b2 := w.heap.size + 1 + 1) (x1 := V.zero) (x2 := V.zero) rfl rfl rfl rfl rfl rfl hB.out hB2.out ⟨rfl, hC.out⟩
theorem t_array_nil (w : World) : Calls Try.prog 17 #[.pointer none] w fun e w' => e = .returned (.int .i64 0) ∧ w = w' := by
  go_enter Try.func17, Try.ntmps17
  go_wp2
  go_ret
  simp
theorem t_len_nil (w : World) : Calls Try.prog 16 #[.pointer none] w fun e w' => e = .returned (.int .i64 0) ∧ w = w' := by
  go_enter Try.func16, Try.ntmps16
  go_wp2_with fail
  refine (t_array_nil w).mono ?_
  rintro e w' ⟨rfl, rfl⟩
  go_wp2
  go_ret
  exact ⟨rfl, rfl⟩
theorem t_count_nil (w : World) : Calls Try.prog 18 #[.pointer none] w fun e w' => e = .returned (.int .i64 0) ∧ w = w' := by
  go_enter Try.func18, Try.ntmps18
  go_wp2
  go_ret
  simp
theorem t_size_nil (w : World) : Calls Try.prog 19 #[.pointer none] w fun e w' => e = .returned (.int .i64 0) ∧ w = w' := by
  go_enter Try.func19, Try.ntmps19
  go_wp2
  go_ret
  simp
end
end Go.Proofs.Ytoelgnjnbelokaa
