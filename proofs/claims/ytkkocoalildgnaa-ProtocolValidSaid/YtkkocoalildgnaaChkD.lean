/-
  The document's check of the fields, kinds all.
-/
import Derived.Test.YtkkocoalildgnaaChkD1
import Derived.Test.YtkkocoalildgnaaChkD2
import Derived.Test.YtkkocoalildgnaaChkD3
namespace Go.Proofs.Ytkkocoalildgnaa
open Go.RowKit

theorem doc_fields (w : World) (k o : Int) (f : V) (vs : List V) (s : ByteArray) (l n : Int) (ks : List V) (A : Option Addr) (c : Nat) (A2 : Option Addr) (c2 : Nat) (h1 : 1 ≤ k) (h9 : k ≤ 9) {b : Bool} (hb : fldB ⟨k, o, f, vs, s, l, n, ks⟩ = b) :
    Calls Try.prog 36 #[(.agg #[.int .i64 k, .int .i64 o, .int .i64 f.k, .int .i64 f.p, .int .i64 f.q, .string f.s, .int .i64 f.r, .slice A vs.length c, .string s, .int .i64 l, .int .i64 n, .slice A2 ks.length c2])] w fun e w' => e = .returned (.bool b) ∧ Chg (fun _ => False) w w' := by
  subst hb
  have hk : k = 1 ∨ k = 2 ∨ k = 3 ∨ k = 4 ∨ k = 5 ∨ k = 6 ∨ k = 7 ∨ k = 8 ∨ k = 9 := by omega
  rcases hk with rfl | rfl | rfl | rfl | rfl | rfl | rfl | rfl | rfl
  · exact doc_fields1 w o f vs s l n ks A c A2 c2
  · exact doc_fields2 w o f vs s l n ks A c A2 c2
  · exact doc_fields3 w o f vs s l n ks A c A2 c2
  · exact doc_fields4 w o f vs s l n ks A c A2 c2
  · exact doc_fields5 w o f vs s l n ks A c A2 c2
  · exact doc_fields6 w o f vs s l n ks A c A2 c2
  · exact doc_fields7 w o f vs s l n ks A c A2 c2
  · exact doc_fields8 w o f vs s l n ks A c A2 c2
  · exact doc_fields9 w o f vs s l n ks A c A2 c2
end Go.Proofs.Ytkkocoalildgnaa
