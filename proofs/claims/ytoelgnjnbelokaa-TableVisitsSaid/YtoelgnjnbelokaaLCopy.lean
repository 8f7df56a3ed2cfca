/-
  copy within the row of values.
-/
import Derived.Test.YtoelgnjnbelokaaMem
import Derived.Test.YtoelgnjnbelokaaLRow
namespace Go.Proofs.Ytoelgnjnbelokaa
open Go.RowKit

theorem flat_dropV (rs : List V) (m : Nat) : (rs.flatMap V.cs).drop (m * 5) = (rs.drop m).flatMap V.cs := by
  induction rs generalizing m with
  | nil => simp
  | cons x l ih =>
    cases m with
    | zero => simp
    | succ m =>
      rw [List.drop_succ_cons, List.flatMap_cons, ← ih m, List.drop_append, V.cs_len, List.drop_of_length_le (by rw [V.cs_len]; omega), List.nil_append]
      congr 1
      omega
section
variable {P : Program} {ops : Array Oper} {Q : Exit → Act → World → Prop} {a : Act} {w : World} {rest : List Oper} {o : Oper}
/-- A part of the row is written by copy. -/
theorem wpList_copy_l (hgd : o.guard = none) (d s : Operand) (T T' : TypeId) (ho : o.op = .call { callee := .builtin .copy, args := #[d, s], argTypes := #[T, T'] })
    (t : TypeInfo) (hu : P.underlying T = some (.slice 26)) (hi : P.info? 26 = some t) (hsize : t.size = 5)
    (g q cap : Nat) (rs : List V) (hl : LRow w (.slice (some ⟨g, 0, none⟩) q cap) rs) (i dLen dCap sLen sCap n : Nat) (A : Option Addr) (hd : a.eval d = .slice (some ⟨g, i * 5, none⟩) dLen dCap) (hs : a.eval s = .slice A sLen sCap) (hn : Nat.min sLen dLen = n)
    (ys : List V) (hr : Rd w 5 A n (ys.flatMap V.cs)) (hfit : i + n ≤ q)
    (h : ∀ w', LRow w' (.slice (some ⟨g, 0, none⟩) q cap) (rs.take i ++ (ys ++ rs.drop (i + n))) → w.grownBy w' (some g) → w'.heap.size = w.heap.size → wpList P ops Q rest (a.put o.dst (goInt n)) w') : wpList P ops Q (o :: rest) a w := by
  rcases hl with ⟨h0, _⟩ | ⟨g', cap', cur, e, h1, h2, h3, h4, h5⟩
  · injection h0 with h0; cases h0
  · injection e with e1 e2 e3
    injection e1 with e1
    injection e1 with e1
    subst e1 e2 e3
    have hyl : ys.length = n := by
      have := hr.1
      rw [flat_len V.cs 5 V.cs_len] at this
      omega
    refine wpList_copy_rd hgd d s T T' ho 26 t 5 hu hi hsize g (i * 5) dLen dCap sLen sCap n A hd hs hn 26 cur (ys.flatMap V.cs) h1 hr (by omega) (V.ones ys) fun w' hb hg hz => h w' ?_ hg hz
    have hl' : (rs.take i ++ (ys ++ rs.drop (i + n))).length = rs.length := by
      simp only [List.length_append, List.length_take, List.length_drop]
      omega
    refine .inr ⟨g, cap, _, by rw [hl'], hb, by rw [hl']; exact h2, h3, ?_, ?_⟩
    · simp only [List.length_append, List.length_take, List.length_drop, flat_len V.cs 5 V.cs_len]
      omega
    · rw [hl', List.flatMap_append, List.flatMap_append, ← flat_takeV, ← flat_dropV, ← h5, List.take_take, Nat.min_eq_left (by omega)]
      rw [List.take_append, List.take_take, Nat.min_eq_right (by omega)]
      congr 1
      rw [List.take_append, List.length_take, flat_len V.cs 5 V.cs_len, List.take_of_length_le (by rw [flat_len V.cs 5 V.cs_len]; omega)]
      congr 1
      rw [List.drop_take, show i * 5 + n * 5 = (i + n) * 5 by omega]
      congr 1
      omega
end
end Go.Proofs.Ytoelgnjnbelokaa
