/-
  The law's own map of the keys that were set; a slice of bytes that comes in.
-/
import Derived.Test.YtoelgnjnbelokaaTFill
namespace Go.Proofs.Ytoelgnjnbelokaa
open Go.RowKit Go.Maps Go.ChangeShapes Go.WideShapes Go.ChangeAt

structure BoolAt (D : DataW Unit) (S : List Int) : Prop where
  has : ∀ k, Maps.has D (.int .i64 k) = decide (k ∈ S)
  at_ : ∀ k z, k ∈ S → D.atKey (.int .i64 k) z = .lit (.bool true)
  size : Maps.size D = S.length
def FMap (w : World) (bm n : Nat) (S : List Int) : Prop := ∃ D : DataW Unit, w.ownsMap Try.prog 3 (plainElem Try.prog 4) bm n D ∧ BoolAt D S
theorem int_law : Keyed Try.prog 3 := int_keyed Try.underlying3
theorem zero4 (w : World) : (zeroValue 4).run Try.prog w = .ok (.bool false) w := by kernel_rfl
theorem plainElem_bool_inv {v : Value} {x : Bool} {ps : List MemPlace} (h : plainElem (H := Unit) Try.prog 4 v = some (.lit (.bool x), ps)) : v = .bool x := by
  unfold plainElem at h
  rw [Try.underlying4] at h
  cases v <;> simp at h
  rw [h.1]
section
variable {w w' : World} {bm n : Nat} {S : List Int}
theorem FMap.chg {T : Nat → Prop} (h : FMap w bm n S) (hc : Chg T w w') (hn : ¬ T bm) : FMap w' bm n S := by
  obtain ⟨D, ⟨e, cl, he, h2⟩, hB⟩ := h
  exact ⟨D, ⟨e, cl, (hc.block bm (Array.getElem?_eq_some_iff.1 he).1 hn).trans he, h2⟩, hB⟩
theorem FMap.none_ (h : FMap w bm n S) (hc : Chg (fun _ => False) w w') : FMap w' bm n S := h.chg hc id
theorem FMap.lt (h : FMap w bm n S) : bm < w.heap.size := by
  obtain ⟨D, h, -⟩ := h
  exact h.lt
theorem FMap.made (w : World) : FMap (w.alloc (.map #[] 0)) w.heap.size 0 [] :=
  ⟨.map [], World.ownsMap_made w Try.prog 3 (plainElem Try.prog 4), ⟨fun k => by rfl, fun k z h => by simp at h, rfl⟩⟩
theorem int_wf {k : Int} (h1 : -2147483647 ≤ k) (h2 : k ≤ 2147483647) : (Lit.int .i64 k).wf = true := by
  have e1 : IntKind.min .i64 = -9223372036854775808 := by decide
  have e2 : IntKind.max .i64 = 9223372036854775807 := by decide
  show (decide (IntKind.min .i64 ≤ k) && decide (k ≤ IntKind.max .i64)) = true
  rw [e1, e2, decide_eq_true (by omega), decide_eq_true (by omega)]
  rfl
theorem BoolAt.put {D : DataW Unit} (h : BoolAt D S) (hm : IsMap D) (ht : Tidy D) {s : Int} (hk : WideAt.IsKeyLit (.int .i64 s)) : BoolAt (D.put (.int .i64 s) (.lit (.bool true))) (if s ∈ S then S else S ++ [s]) := by
  have hmem : ∀ k, k ∈ (if s ∈ S then S else S ++ [s]) ↔ k = s ∨ k ∈ S := fun k => by
    split
    · constructor
      · exact .inr
      · rintro (rfl | h)
        · assumption
        · exact h
    · rw [List.mem_append, List.mem_singleton]
      exact or_comm
  refine ⟨fun k => ?_, fun k z hk2 => ?_, ?_⟩
  · by_cases e : k = s
    · subst e
      rw [has_put_same hm hk, decide_eq_true ((hmem k).2 (.inl rfl))]
    · rw [has_put_other (fun x => e (by injection x)), h.has]
      exact decide_eq_decide.2 ⟨fun x => (hmem k).2 (.inr x), fun x => ((hmem k).1 x).resolve_left e⟩
  · by_cases e : k = s
    · subst e
      exact atKey_put_same hm hk _ _
    · rw [atKey_put_other (fun x => e (by injection x))]
      exact h.at_ k z (((hmem k).1 hk2).resolve_left e)
  · rw [size_put ht, h.has, h.size]
    by_cases e : s ∈ S
    · rw [if_pos e, if_pos (decide_eq_true e)]
    · rw [if_neg e, if_neg (by simp [e]), List.length_append, List.length_singleton]
theorem FMap.look (h : FMap w bm n S) {k : Int} (h1 : -2147483647 ≤ k) (h2 : k ≤ 2147483647) {b : Bool} (hb : decide (k ∈ S) = b) :
    (Instr.lookup 46 (.map (some bm)) (.int .i64 k) false).run Try.prog w = .ok (.bool b) w := by
  obtain ⟨D, hm, hB⟩ := h
  obtain ⟨v, ps, hrun, hv⟩ := hm.lookup int_law Try.underlying46 (zero4 w) (plainElem_bool Try.underlying4 false) (keyOf_int_mk Try.underlying3 (int_wf h1 h2))
  rw [hrun]
  cases b with
  | true =>
    rw [hB.at_ k _ (of_decide_eq_true hb)] at hv
    rw [plainElem_bool_inv hv]
  | false =>
    rw [atKey_of_not_has (by rw [hB.has, hb])] at hv
    rw [plainElem_bool_inv hv]
theorem FMap.len (h : FMap w bm n S) (ty : TypeId) {q : Nat} (hq : S.length = q) : (Builtin.len_ #[46] ty #[.map (some bm)]).run Try.prog w = .ok (.int .i64 (q : Int)) w := by
  obtain ⟨D, hm, hB⟩ := h
  rw [hm.len Try.underlying46 ty, hB.size, hq]
/-- A slice of bytes that reads as l. -/
def U8Rd (w : World) (A : Option Addr) (l : List Nat) : Prop := Rd w 1 A l.length (l.flatMap fun n : Nat => [.int .u8 (n : Int)]) ∧ ∀ n ∈ l, n ≤ 255
theorem U8Rd.none_ {A : Option Addr} {l : List Nat} (h : U8Rd w A l) (hc : Chg (fun _ => False) w w') : U8Rd w' A l := ⟨h.1.none_ hc, h.2⟩
def WU8 : Type := { n : Nat // n ≤ 255 }
instance : Inhabited WU8 := ⟨⟨0, by omega⟩⟩
theorem cells_u8 : Try.prog.cellsOf 5 = 1 := by kernel_rfl
theorem open_u8s {H : Type} {enc : TypeId × Value → H} {W : World} {base : Nat} {v : Value} {d : DataW H} {p : List MemPlace} (hval : Value.okWide Try.prog W .any base 45 v) (h : DataW.Trod enc Try.prog W 0 (fun _ => true) true 45 v d p) :
    ∃ (A : Option Addr) (l : List Nat) (k : Nat), v = .slice A l.length k ∧ U8Rd W A l ∧ l.length ≤ k ∧ k ≤ maxLen := by
  obtain ⟨A, l, k, e, h1, h2, h3⟩ := open_rows 1 (fun x : WU8 => [.int .u8 (x.1 : Int)]) (fun _ => rfl) (by omega) Try.underlying45 cells_u8 (fun _ _ _ h => by
    obtain ⟨k, e, _, hw⟩ := DataW.trod_int Try.underlying5 h
    obtain ⟨n, rfl⟩ := Int.eq_ofNat_of_zero_le (bounds_u8 hw).1
    exact ⟨⟨n, by have := (bounds_u8 hw).2; omega⟩, e⟩) hval h
  refine ⟨A, l.map (·.1), k, by rw [List.length_map]; exact e, ⟨?_, ?_⟩, by rw [List.length_map]; exact h2, h3⟩
  · rw [List.length_map, List.flatMap_map]
    exact h1
  · intro x hx
    obtain ⟨y, -, rfl⟩ := List.mem_map.1 hx
    exact y.2
theorem u8_at {A : Option Addr} {l : List Nat} (h : U8Rd w A l) {j : Nat} (hj : j < l.length) : ∃ b o x, A = some ⟨b, o, none⟩ ∧ b < w.heap.size ∧ w.cell? ⟨b, o + j, none⟩ = some (.int .u8 ((x : Nat) : Int)) ∧ x ≤ 255 := by
  obtain ⟨b, o, e, hb, hc⟩ := h.1.2 (by omega)
  refine ⟨b, o, l[j], e, hb, ?_, h.2 _ (List.getElem_mem hj)⟩
  rw [hc j (by omega)]
  have := flat_at (fun n : Nat => [Value.int .u8 (n : Int)]) 1 (fun _ => rfl) l j 0 (by omega)
  rw [Nat.mul_one, Nat.add_zero] at this
  rw [this, List.getElem?_eq_getElem hj]
  rfl
end
end Go.Proofs.Ytoelgnjnbelokaa
