/-
  Insert of a table.
-/
import Derived.Test.YtoelgnjnbelokaaWTSet2
import Derived.Test.YtoelgnjnbelokaaWTRem
namespace Go.Proofs.Ytoelgnjnbelokaa
open Go.RowKit Go.Maps

section
variable {w w' : World} {S : Nat → Prop} {N o M : Nat} {a : List V} {m : List Sl}
set_option maxRecDepth 100000 in
theorem t_insert_nil (w : World) (i : Int) (v : V) : Calls Try.prog 15 #[.pointer none, .int .i64 i, (.agg #[.int .i64 v.k, .int .i64 v.p, .int .i64 v.q, .string v.s, .int .i64 v.r])] w fun e w' => e = .returned (.int .i64 1) ∧ Chg (fun _ => False) w w' := by
  have hC := hid ((Chg.refl (fun _ => False) w).alloc (.cells v.cs.toArray 26))
  go_enter Try.func15, Try.ntmps15
  go_wp2
  go_ret
  exact ⟨rfl, hC.out⟩
set_option maxRecDepth 100000 in
theorem t_insert_bad (h : Tab w S N o M a m) (hb : a.length ≤ 1000000) {i : Int} (hi : ¬ (1 ≤ i ∧ i ≤ (a.length : Int) + 1)) (v : V) : Calls Try.prog 15 #[.pointer (some ⟨o, 0, none⟩), .int .i64 i, (.agg #[.int .i64 v.k, .int .i64 v.p, .int .i64 v.q, .string v.s, .int .i64 v.r])] w fun e w' => e = .returned (.int .i64 6) ∧ Chg (fun _ => False) w w' := by
  obtain ⟨q, hq⟩ : ∃ q, Hid (a.length = q) := ⟨_, hid rfl⟩
  rw [hq.out] at hi hb
  obtain ⟨A, cap, c, c0, -⟩ := h.cells hq.out
  have hol := h.lt
  have hC := hid ((Chg.refl (fun _ => False) w).alloc (.cells v.cs.toArray 26))
  have hw1 : IntKind.i64.wrap ((q : Int) + 1) = (q : Int) + 1 := by rw [IntKind.wrap_i64]; omega
  have hr : decide (i < 1) = true ∨ (decide (i < 1) = false ∧ decide ((q : Int) + 1 < i) = true) := by
    by_cases e : i < 1
    · exact .inl (decide_eq_true e)
    · exact .inr ⟨decide_eq_false e, decide_eq_true (by omega)⟩
  clear h hi hb
  rcases hr with t1 | ⟨t1, t2⟩ <;>
  · go_enter Try.func15, Try.ntmps15
    go_wp2_with fail
    go_ret
    exact ⟨rfl, hC.out⟩
set_option maxRecDepth 100000 in
theorem t_insert_bad2 (h : Tab w S N o M a m) (hb : a.length ≤ 1000000) {i : Int} (hi : 1 ≤ i ∧ i ≤ (a.length : Int) + 1) {v : V} (hv : vok v = false) : Calls Try.prog 15 #[.pointer (some ⟨o, 0, none⟩), .int .i64 i, (.agg #[.int .i64 v.k, .int .i64 v.p, .int .i64 v.q, .string v.s, .int .i64 v.r])] w fun e w' => e = .returned (.int .i64 2) ∧ Chg (fun _ => False) w w' := by
  obtain ⟨q, hq⟩ : ∃ q, Hid (a.length = q) := ⟨_, hid rfl⟩
  rw [hq.out] at hi hb
  obtain ⟨A, cap, c, c0, -⟩ := h.cells hq.out
  have hol := h.lt
  have hC := hid ((Chg.refl (fun _ => False) w).alloc (.cells v.cs.toArray 26))
  have hw1 : IntKind.i64.wrap ((q : Int) + 1) = (q : Int) + 1 := by rw [IntKind.wrap_i64]; omega
  have t1 : decide (i < 1) = false := decide_eq_false (by omega)
  have t2 : decide ((q : Int) + 1 < i) = false := decide_eq_false (by omega)
  have hvh := hid hv
  clear h hi hb hv
  go_enter Try.func15, Try.ntmps15
  go_wp2_with fail
  refine (val_valid_eq2 hvh.out).mono ?_
  rintro e w1 ⟨rfl, hc1⟩
  have fin := hid (hC.out.trans_same hc1)
  clear hc1
  go_wp2_with fail
  go_ret
  exact ⟨rfl, fin.out⟩
set_option maxRecDepth 100000 in
set_option maxHeartbeats 4000000 in
/-- Insert behind the last: what Set does. -/
theorem t_insert_end (h : Tab w S N o M a m) (hb : a.length ≤ 1000000) {v : V} (hv : vok v = true) {i : Int} (hi : i = (a.length : Int) + 1) {R : Int → World → Prop}
    (hset : ∀ W, Chg (fun _ => False) w W → Calls Try.prog 14 #[.pointer (some ⟨o, 0, none⟩), (.agg #[.int .i64 ((kI i)).k, .int .i64 ((kI i)).p, .int .i64 ((kI i)).q, .string ((kI i)).s, .int .i64 ((kI i)).r]), (.agg #[.int .i64 v.k, .int .i64 v.p, .int .i64 v.q, .string v.s, .int .i64 v.r])] W fun e w' => ∃ x, e = .returned (.int .i64 x) ∧ R x w') :
    Calls Try.prog 15 #[.pointer (some ⟨o, 0, none⟩), .int .i64 i, (.agg #[.int .i64 v.k, .int .i64 v.p, .int .i64 v.q, .string v.s, .int .i64 v.r])] w fun e w' => ∃ x, e = .returned (.int .i64 x) ∧ R x w' := by
  obtain ⟨q, hq⟩ : ∃ q, Hid (a.length = q) := ⟨_, hid rfl⟩
  rw [hq.out] at hi hb
  obtain ⟨A, cap, c, c0, -⟩ := h.cells hq.out
  have hol := h.lt
  have hC := hid ((Chg.refl (fun _ => False) w).alloc (.cells v.cs.toArray 26))
  have hV := hid (Bk.new w 26 v.cs)
  have hw1 : IntKind.i64.wrap ((q : Int) + 1) = (q : Int) + 1 := by rw [IntKind.wrap_i64]; omega
  have t1 : decide (i < 1) = false := decide_eq_false (by omega)
  have t2 : decide ((q : Int) + 1 < i) = false := decide_eq_false (by omega)
  have t3 : (i == (q : Int) + 1) = true := by simpa using hi
  have hvh := hid hv
  have hsh := hid hset
  have hir : Hid (-2147483647 ≤ i ∧ i ≤ 2147483647) := hid (by omega)
  clear h hi hb hv hset
  go_enter Try.func15, Try.ntmps15
  go_wp2_with fail
  refine (val_valid_eq2 hvh.out).mono ?_
  rintro e w1 ⟨rfl, hc1⟩
  have hC1 := hid (hC.out.trans_same hc1)
  have hV1 := hid (hV.out.none_ hc1)
  have hS9 := hid hV1.out.drew
  clear hc1 c0 hol hC hV
  go_wp2_with fail
  refine wp_region_rc (id := 9) [.rd [0, 1, 3], .act 2] [4, 5] [] (fun w' => Bk w' w.heap.size 26 v.cs) (by kernel_rfl) 71 rfl (by kernel_rfl) (fun _ _ _ _ _ h => h) hS9.out ?_
  refine steps_rdW ?_
  apply Exists.intro
  refine ⟨?_, ?_⟩
  focus
    intro w' hSb
    obtain ⟨y0, y1, y2, y3, y4⟩ := V.box hSb
    clear hSb
    iterate 3 (refine stW_step rfl (fun K hK => ?_); go_simp; refine hK _ ?_; clear hK K)
    exact stW_nil rfl
  refine steps_act (o := ⟨_, _, _, _, _, _⟩) rfl (fun K2 hK2 => ?_)
  go_wp2_with fail
  refine (ofInt_any w1.drew i hir.out.1 hir.out.2).mono ?_
  rintro e w2 ⟨rfl, hc2⟩
  have hC2 := hid (hC1.out.drew.trans_same hc2)
  have hS2 := hid (hS9.out.none_ hc2)
  clear hc2 hS9 hV1 hC1
  go_wp2_with fail
  refine hK2 _ _ hS2.out rfl ?_
  clear hK2 K2
  refine steps_nil (l := [⟨_, _, _, _, _, _⟩, ⟨_, _, _, _, _, _⟩]) rfl (fun K2 hK2 => ?_)
  go_wp2_with fail
  refine (hsh.out w2 hC2.out).mono ?_
  rintro e w3 ⟨x, rfl, hR'⟩
  have hR := hid hR'
  clear hR' hC2 hS2
  go_wp2_with fail
  refine hK2 _ _ rfl ?_
  clear hK2 K2
  refine stI_nil ?_
  go_wp2_with fail
  go_ret
  exact ⟨x, rfl, hR.out⟩
end
end Go.Proofs.Ytoelgnjnbelokaa
