/-
  The document's check of the fields, kinds 7 to 9.
-/
import Derived.Test.YtkkocoalildgnaaChkD0
namespace Go.Proofs.Ytkkocoalildgnaa
open Go.RowKit

set_option maxRecDepth 100000 in
set_option maxHeartbeats 4000000 in
theorem doc_fields7 (w : World) (o : Int) (f : V) (vs : List V) (s : ByteArray) (l n : Int) (ks : List V) (A : Option Addr) (c : Nat) (A2 : Option Addr) (c2 : Nat) :
    Calls Try.prog 36 #[(.agg #[.int .i64 7, .int .i64 o, .int .i64 f.k, .int .i64 f.p, .int .i64 f.q, .string f.s, .int .i64 f.r, .slice A vs.length c, .string s, .int .i64 l, .int .i64 n, .slice A2 ks.length c2])] w fun e w' => e = .returned (.bool (fldB ⟨7, o, f, vs, s, l, n, ks⟩)) ∧ Chg (fun _ => False) w w' := by
  obtain ⟨f1, f2, f3, f4, f5⟩ := f
  rcases vs with _ | ⟨x, vs⟩
  all_goals
    go_enter Try.func36, Try.ntmps36
    go_wp2
    all_goals
      go_ret
      exact ⟨by simp [fldB, restOf, V.zero, bytes_nil, int_beq, *], (Chg.refl _ w).alloc _⟩
set_option maxRecDepth 100000 in
set_option maxHeartbeats 4000000 in
theorem doc_fields8 (w : World) (o : Int) (f : V) (vs : List V) (s : ByteArray) (l n : Int) (ks : List V) (A : Option Addr) (c : Nat) (A2 : Option Addr) (c2 : Nat) :
    Calls Try.prog 36 #[(.agg #[.int .i64 8, .int .i64 o, .int .i64 f.k, .int .i64 f.p, .int .i64 f.q, .string f.s, .int .i64 f.r, .slice A vs.length c, .string s, .int .i64 l, .int .i64 n, .slice A2 ks.length c2])] w fun e w' => e = .returned (.bool (fldB ⟨8, o, f, vs, s, l, n, ks⟩)) ∧ Chg (fun _ => False) w w' := by
  obtain ⟨f1, f2, f3, f4, f5⟩ := f
  rcases ks with _ | ⟨y, ks⟩ <;> rcases vs with _ | ⟨x, vs⟩
  all_goals
    go_enter Try.func36, Try.ntmps36
    go_wp2
    all_goals
      go_ret
      exact ⟨by simp [fldB, restOf, V.zero, bytes_nil, int_beq, *], (Chg.refl _ w).alloc _⟩
set_option maxRecDepth 100000 in
set_option maxHeartbeats 4000000 in
theorem doc_fields9 (w : World) (o : Int) (f : V) (vs : List V) (s : ByteArray) (l n : Int) (ks : List V) (A : Option Addr) (c : Nat) (A2 : Option Addr) (c2 : Nat) :
    Calls Try.prog 36 #[(.agg #[.int .i64 9, .int .i64 o, .int .i64 f.k, .int .i64 f.p, .int .i64 f.q, .string f.s, .int .i64 f.r, .slice A vs.length c, .string s, .int .i64 l, .int .i64 n, .slice A2 ks.length c2])] w fun e w' => e = .returned (.bool (fldB ⟨9, o, f, vs, s, l, n, ks⟩)) ∧ Chg (fun _ => False) w w' := by
  obtain ⟨f1, f2, f3, f4, f5⟩ := f
  rcases vs with _ | ⟨x, vs⟩
  all_goals
    go_enter Try.func36, Try.ntmps36
    go_wp2
    all_goals
      go_ret
      exact ⟨by simp [fldB, restOf, V.zero, bytes_nil, int_beq, *], (Chg.refl _ w).alloc _⟩
end Go.Proofs.Ytkkocoalildgnaa
