/-
  Check of both, whatever the action; the laws' own helpers large and awake.
-/
import Derived.Test.YtkkocoalildgnaaChkO1
import Derived.Test.YtkkocoalildgnaaChkO2
import Derived.Test.YtkkocoalildgnaaChkO3
import Derived.Test.YtkkocoalildgnaaDocC1
import Derived.Test.YtkkocoalildgnaaDocC2
import Derived.Test.YtkkocoalildgnaaDocC3
import Derived.Test.YtkkocoalildgnaaNeed
namespace Go.Proofs.Ytkkocoalildgnaa
open Go.RowKit

theorem own_check {w : World} {a : Ac} {r : Int} (hr : chkA a = r) {A A2 : Option Addr} {c c2 : Nat} (hA : Vs w A a.vs) (hA2 : Vs w A2 a.ks) (n1 : a.vs.length ≤ 1000) (n2 : a.ks.length ≤ 1000) :
    Calls Try.prog 11 #[(.agg #[.int .i64 a.k, .int .i64 a.o, .int .i64 a.f.k, .int .i64 a.f.p, .int .i64 a.f.q, .string a.f.s, .int .i64 a.f.r, .slice A a.vs.length c, .string a.s, .int .i64 a.l, .int .i64 a.n, .slice A2 a.ks.length c2])] w fun e w' => e = .returned (.int .i64 r) ∧ Chg (fun _ => False) w w' := by
  subst hr
  obtain ⟨k, o, f, vs, s, l, n, ks⟩ := a
  by_cases hbad : (kOk ⟨k, o, f, vs, s, l, n, ks⟩ = false ∨ restOf ⟨k, o, f, vs, s, l, n, ks⟩ ≠ AcB k) ∨ (k = 2 ∧ vs.length ≠ 1)
  · exact own_check0 w k o f vs s l n ks A c A2 c2 hA hA2 n1 n2 hbad
  · have c1 := fun h => hbad (.inl h)
    by_cases h2 : k = 2
    · subst h2
      have hl : vs.length = 1 := by
        rcases Nat.decEq vs.length 1 with h | h
        · exact absurd (.inr ⟨rfl, h⟩) hbad
        · exact h
      exact own_check1 w o f vs s l n ks A c A2 c2 hA hA2 n1 n2 c1 hl
    by_cases h6 : k = 6
    · subst h6
      exact own_check2 w o f vs s l n ks A c A2 c2 hA hA2 n1 n2 c1
    · exact own_check3 w k o f vs s l n ks A c A2 c2 hA hA2 n1 n2 c1 h2 h6
theorem doc_check {w : World} {a : Ac} {r : Int} (hr : chkA a = r) {A A2 : Option Addr} {c c2 : Nat} (hA : Vs w A a.vs) (hA2 : Vs w A2 a.ks) (n1 : a.vs.length ≤ 1000) (n2 : a.ks.length ≤ 1000) :
    Calls Try.prog 12 #[(.agg #[.int .i64 a.k, .int .i64 a.o, .int .i64 a.f.k, .int .i64 a.f.p, .int .i64 a.f.q, .string a.f.s, .int .i64 a.f.r, .slice A a.vs.length c, .string a.s, .int .i64 a.l, .int .i64 a.n, .slice A2 a.ks.length c2])] w fun e w' => e = .returned (.int .i64 r) ∧ Chg (fun _ => False) w w' := by
  subst hr
  obtain ⟨k, o, f, vs, s, l, n, ks⟩ := a
  by_cases hbad : (kOk ⟨k, o, f, vs, s, l, n, ks⟩ = false ∨ restOf ⟨k, o, f, vs, s, l, n, ks⟩ ≠ AcB k) ∨ (k = 2 ∧ vs.length ≠ 1)
  · exact doc_check0 w k o f vs s l n ks A c A2 c2 hA hA2 n1 n2 hbad
  · have c1 := fun h => hbad (.inl h)
    by_cases h2 : k = 2
    · subst h2
      have hl : vs.length = 1 := by
        rcases Nat.decEq vs.length 1 with h | h
        · exact absurd (.inr ⟨rfl, h⟩) hbad
        · exact h
      exact doc_check1 w o f vs s l n ks A c A2 c2 hA hA2 n1 n2 c1 hl
    by_cases h6 : k = 6
    · subst h6
      exact doc_check2 w o f vs s l n ks A c A2 c2 hA hA2 n1 n2 c1
    · exact doc_check3 w k o f vs s l n ks A c A2 c2 hA hA2 n1 n2 c1 h2 h6
theorem doc_same_eq {w : World} {a b : Ac} {q : Bool} {A A2 B B2 : Option Addr} {c c2 d d2 : Nat} (h : decide (a = b) = q) (hA : Vs w A a.vs) (hA2 : Vs w A2 a.ks) (hB : Vs w B b.vs) (hB2 : Vs w B2 b.ks) (n1 : a.vs.length ≤ 1000) (n2 : a.ks.length ≤ 1000) (n3 : b.vs.length ≤ 1000) (n4 : b.ks.length ≤ 1000) :
    Calls Try.prog 13 #[(.agg #[.int .i64 a.k, .int .i64 a.o, .int .i64 a.f.k, .int .i64 a.f.p, .int .i64 a.f.q, .string a.f.s, .int .i64 a.f.r, .slice A a.vs.length c, .string a.s, .int .i64 a.l, .int .i64 a.n, .slice A2 a.ks.length c2]), (.agg #[.int .i64 b.k, .int .i64 b.o, .int .i64 b.f.k, .int .i64 b.f.p, .int .i64 b.f.q, .string b.f.s, .int .i64 b.f.r, .slice B b.vs.length d, .string b.s, .int .i64 b.l, .int .i64 b.n, .slice B2 b.ks.length d2])] w fun e w' => e = .returned (.bool q) ∧ Chg (fun _ => False) w w' := by subst h; exact doc_same w a b A c A2 c2 B d B2 d2 hA hA2 hB hB2 n1 n2 n3 n4
theorem large_any (w : World) (A : Option Addr) (n k : Nat) {b : Bool} (hb : decide (600 < n) = b) : Calls Try.prog 9 #[.slice A n k] w fun e w' => e = .returned (.bool b) ∧ w = w' := by
  cases b
  · have h : decide ((600 : Int) < n) = false := by simp at hb ⊢; omega
    clear hb
    go_enter Try.func9, Try.ntmps9
    go_wp2
    go_ret
    exact ⟨rfl, rfl⟩
  · have h : decide ((600 : Int) < n) = true := by simp at hb ⊢; omega
    clear hb
    go_enter Try.func9, Try.ntmps9
    go_wp2
    go_ret
    exact ⟨rfl, rfl⟩
theorem OwnR.vs {w w' : World} {A : Option Addr} {vs : List V} {c : Nat} (h : OwnR w w' 25 5 (.slice A vs.length c) vs.length (vs.flatMap V.cs)) : Vs w' A vs := h.rd
end Go.Proofs.Ytkkocoalildgnaa
