/-
  The maps of both in memory; the key's law; the walks of what only looks, and of New.
-/
import Derived.Test.YtoelgnjnbelokaaModel
import Derived.Test.YtoelgnjnbelokaaVld
import Derived.Test.YtoelgnjnbelokaaAcc
import Derived.Test.YtoelgnjnbelokaaListEq
import Derived.Test.YtoelgnjnbelokaaWrap
import Derived.Maps.OwnSet
import Derived.Maps.OwnOps
import Derived.Maps.Views
namespace Go.Proofs.Ytoelgnjnbelokaa
open Go.RowKit Go.Maps

/-- What a key is, to be one of a map. -/
structure V.wf (v : V) : Prop where
  k : (Lit.int .i64 v.k).wf = true
  p : (Lit.int .i64 v.p).wf = true
  q : (Lit.int .i64 v.q).wf = true
  s : v.s.size ≤ maxLen
  r : (Lit.int .i64 v.r).wf = true
theorem keyLits_val (d : Nat) {v : V} (h : v.wf) : Try.prog.keyLits (d + 3) 26 v.cs = some [.int .i64 v.k, .int .i64 v.p, .int .i64 v.q, .string v.s.data.toList, .int .i64 v.r] := by
  have e1 : Try.prog.keyLits (d + 2) 3 [.int .i64 v.k] = some [.int .i64 v.k] := by simp [Program.keyLits, Try.underlying3, h.k]
  have e2 : Try.prog.keyLits (d + 1) 3 [.int .i64 v.p] = some [.int .i64 v.p] := by simp [Program.keyLits, Try.underlying3, h.p]
  have e3 : Try.prog.keyLits (d + 1) 3 [.int .i64 v.q] = some [.int .i64 v.q] := by simp [Program.keyLits, Try.underlying3, h.q]
  have e4 : Try.prog.keyLits (d + 2) 9 [.string v.s] = some [.string v.s.data.toList] := by simp [Program.keyLits, Try.underlying9, h.s]
  have e5 : Try.prog.keyLits (d + 2) 3 [.int .i64 v.r] = some [.int .i64 v.r] := by simp [Program.keyLits, Try.underlying3, h.r]
  have e6 : Try.prog.keyLits (d + 2) 24 [.int .i64 v.p, .int .i64 v.q] = some [.int .i64 v.p, .int .i64 v.q] := by
    unfold Program.keyLits
    simp [Try.underlying24, cells_num, cells_int, e2, e3]
  unfold Program.keyLits
  simp [Try.underlying26, cells_val, cells_num, cells_int, cells_str, V.cs, e1, e4, e5, e6]
theorem key_of {v : V} (h : v.wf) : ∃ l, keyOf Try.prog 26 (.agg #[.int .i64 v.k, .int .i64 v.p, .int .i64 v.q, .string v.s, .int .i64 v.r]) = some l := by
  have hs : ∃ d, Try.prog.types.size + 1 = d + 3 := ⟨Try.prog.types.size - 2, by
    have : 2 ≤ Try.prog.types.size := of_decide_eq_true (by kernel_rfl)
    omega⟩
  obtain ⟨d, hd⟩ := hs
  have hk : Try.prog.keyType 26 = true := by kernel_rfl
  have hf : Value.formed Try.prog 26 (.agg #[.int .i64 v.k, .int .i64 v.p, .int .i64 v.q, .string v.s, .int .i64 v.r]) = true := by simp [Value.formed, Try.underlying26, cells_val]
  have hl := keyLits_val d h
  rw [← hd] at hl
  refine ⟨.string (keyBytes [.int .i64 v.k, .int .i64 v.p, .int .i64 v.q, .string v.s.data.toList, .int .i64 v.r]), ?_⟩
  have hl' : Try.prog.keyLits (Try.prog.types.size + 1) 26 (Value.cells (.agg #[.int .i64 v.k, .int .i64 v.p, .int .i64 v.q, .string v.s, .int .i64 v.r])).toList = some [.int .i64 v.k, .int .i64 v.p, .int .i64 v.q, .string v.s.data.toList, .int .i64 v.r] := hl
  unfold keyOf
  rw [Try.underlying26]
  simp only [hk, hf, Bool.and_self, if_true, hl', Option.map_some]
theorem val_law : Keyed Try.prog 26 := Keyed.of_law (deep_law_laid laidOut (m := 4) (by omega) (of_decide_eq_true (by kernel_rfl)) (by kernel_rfl) (by kernel_rfl))
theorem V.val_inj {a b : V} (h : ((.agg #[.int .i64 a.k, .int .i64 a.p, .int .i64 a.q, .string a.s, .int .i64 a.r]) : Value) = (.agg #[.int .i64 b.k, .int .i64 b.p, .int .i64 b.q, .string b.s, .int .i64 b.r])) : a = b := by
  obtain ⟨a1, a2, a3, a4, a5⟩ := a
  obtain ⟨b1, b2, b3, b4, b5⟩ := b
  simp at h
  obtain ⟨h1, h2, h3, h4, h5⟩ := h
  subst h1 h2 h3 h4 h5
  rfl
theorem key_ne {a b : V} {la lb : Lit} (ha : keyOf Try.prog 26 (.agg #[.int .i64 a.k, .int .i64 a.p, .int .i64 a.q, .string a.s, .int .i64 a.r]) = some la) (hb : keyOf Try.prog 26 (.agg #[.int .i64 b.k, .int .i64 b.p, .int .i64 b.q, .string b.s, .int .i64 b.r]) = some lb) (h : a ≠ b) : la ≠ lb := by
  rintro rfl
  exact h (V.val_inj (val_law.inj ha hb))
theorem key_eq {a : V} {la lb : Lit} (ha : keyOf Try.prog 26 (.agg #[.int .i64 a.k, .int .i64 a.p, .int .i64 a.q, .string a.s, .int .i64 a.r]) = some la) (hb : keyOf Try.prog 26 (.agg #[.int .i64 a.k, .int .i64 a.p, .int .i64 a.q, .string a.s, .int .i64 a.r]) = some lb) : la = lb := by
  rw [ha] at hb
  injection hb

/-- The map of the slots' places. -/
def AtOk (D : DataW Unit) (L : List Sl) : Prop := ∀ k l, keyOf Try.prog 26 (.agg #[.int .i64 k.k, .int .i64 k.p, .int .i64 k.q, .string k.s, .int .i64 k.r]) = some l → has D l = (lastIx L k).isSome ∧ ∀ i, lastIx L k = some i → D.atKey l (.lit (.int .i64 0)) = .lit (.int .i64 (i : Int))
/-- Block c is the program's map. -/
structure OwnM (w : World) (c : Nat) (vs : Value) (bm n : Nat) (D : DataW Unit) (L : List Sl) : Prop where
  blk : Bk w c 70 [vs, .map (some bm), .int .i64 (nOf L : Int)]
  row : w.ownsRow 0 72 11 vs L.length (L.flatMap Sl.cs)
  mp : w.ownsMap Try.prog 26 (plainElem Try.prog 3) bm n D
  ix : AtOk D L
  inv : Inv L
  wf : ∀ i, i < L.length → (slAt L i).k.wf
/-- Block c is the document's map. -/
structure DocM (w : World) (c : Nat) (vs : Value) (L : List Sl) : Prop where
  blk : Bk w c 82 [vs]
  row : w.ownsRow 0 87 11 vs L.length (L.flatMap Sl.cs)
  inv : Inv L
def ownF (c : Nat) (vs : Value) (bm : Nat) (k : Nat) : Prop := k = c ∨ vs.ownBlock = some k ∨ k = bm
def docF (c : Nat) (vs : Value) (k : Nat) : Prop := k = c ∨ vs.ownBlock = some k
theorem Sl.ones (L : List Sl) : ∀ u ∈ L.flatMap Sl.cs, u.oneCell' = true := by
  intro u hu
  obtain ⟨v, _, hv⟩ := List.mem_flatMap.1 hu
  simp [Sl.cs] at hv
  rcases hv with rfl | rfl | rfl | rfl | rfl | rfl | rfl | rfl | rfl | rfl | rfl <;> rfl
/-- The cells of slot i. -/
theorem Sl.at_ {w : World} {A : Option Addr} {L : List Sl} (h : Rd w 11 A L.length (L.flatMap Sl.cs)) {i : Nat} (hi : i < L.length) :
    ∃ b o, A = some ⟨b, o, none⟩ ∧ b < w.heap.size ∧ ∀ j, j < 11 → w.cell? ⟨b, o + (i * 11 + j), none⟩ = (slAt L i).cs[j]? := by
  obtain ⟨b, o, e, hb, hc⟩ := h.2 (by omega)
  exact ⟨b, o, e, hb, fun j hj => by rw [hc _ (by omega), flat_at _ 11 Sl.cs_len _ _ _ hj, slAt_get _ _ hi]; rfl⟩
section
variable {w w' : World} {c bm n : Nat} {vs : Value} {D : DataW Unit} {L : List Sl}
theorem own_len (h : OwnM w c vs bm n D L) {m : Nat} (hm : nOf L = m) : Calls Try.prog 34 #[.pointer (some ⟨c, 0, none⟩)] w fun e w' => e = .returned (.int .i64 m) ∧ w = w' := by
  have c2 : w.cell? ⟨c, 2, none⟩ = some (.int .i64 (m : Int)) := by rw [← hm]; exact h.blk.cell 2
  clear h hm
  go_enter Try.func34, Try.ntmps34
  go_wp2
  go_ret
  exact ⟨rfl, rfl⟩
theorem own_slots (h : OwnM w c vs bm n D L) {m : Nat} (hm : L.length = m) : Calls Try.prog 35 #[.pointer (some ⟨c, 0, none⟩)] w fun e w' => e = .returned (.int .i64 m) ∧ w = w' := by
  obtain ⟨A, cap, rfl, _⟩ := own_form h.row
  have c0 : w.cell? ⟨c, 0, none⟩ = some (.slice A m cap) := by rw [← hm]; exact h.blk.cell 0
  clear h hm
  go_enter Try.func35, Try.ntmps35
  go_wp2
  go_ret
  exact ⟨rfl, rfl⟩

theorem own_new (w : World) : Calls Try.prog 38 #[] w fun e w' => ∃ o, e = .returned (.pointer (some ⟨o, 0, none⟩)) ∧ OwnM w' o (.slice none 0 0) w.heap.size 0 (.map []) [] ∧ w.heap.size ≤ o ∧ Chg (fun _ => False) w w' := by
  have hmm := @run_makeMap Try.prog
  go_enter Try.func38, Try.ntmps38
  go_wp2
  go_ret
  refine ⟨_, rfl, ⟨?_, (OwnR.nil w _ 72 11).own, ?_, fun k l _ => ⟨rfl, fun i hi => by cases hi⟩, Inv.nil, fun i hi => absurd hi (by simp)⟩, ?_, ((Chg.refl _ w).alloc _).alloc _⟩
  rotate_left
  · exact (World.ownsMap_made w Try.prog 26 (plainElem Try.prog 3)).alloc _
  · exact Nat.le_succ _
  · exact Bk.new_at _ 70 _ _ (by simp)
theorem doc_new (w : World) : Calls Try.prog 43 #[] w fun e w' => e = .returned (.pointer (some ⟨w.heap.size, 0, none⟩)) ∧ DocM w' w.heap.size (.slice none 0 0) [] ∧ Chg (fun _ => False) w w' := by
  go_enter Try.func43, Try.ntmps43
  go_wp2
  go_ret
  exact ⟨rfl, ⟨Bk.new_at _ 82 _ _ rfl, (OwnR.nil w _ 87 11).own, Inv.nil⟩, (Chg.refl _ w).alloc _⟩
end
end Go.Proofs.Ytoelgnjnbelokaa
