/-
  The chapter's small case, run.
-/
import Derived.Test.YtabodabfiklbnaaLift
namespace Go.Proofs.Ytabodabfiklbnaa
open Go.RowKit Go.Maps

/-- The case's three boxed values. -/
def Three (w : World) (g : Nat) : Prop := Bk w g 28 va.cs ∧ Bk w (g + 1) 28 vb.cs ∧ Bk w (g + 1 + 1) 28 vx.cs
theorem Three.chg {S : Nat → Prop} {N g : Nat} {w w' : World} (h : Three w g) (hc : Chg (fun k => S k ∨ N ≤ k) w w') (hS : ∀ k, g ≤ k → ¬ S k) (hN : g + 1 + 1 < N) : Three w' g :=
  ⟨h.1.oneChg hc (hS _ (Nat.le_refl _)) (by omega), h.2.1.oneChg hc (hS _ (by omega)) (by omega), h.2.2.oneChg hc (hS _ (by omega)) hN⟩
theorem Three.none_ {g : Nat} {w w' : World} (h : Three w g) (hc : Chg (fun _ => False) w w') : Three w' g := ⟨h.1.none_ hc, h.2.1.none_ hc, h.2.2.none_ hc⟩
theorem alloc_sz (w : World) (o : Obj) : (w.alloc o).heap.size = w.heap.size + 1 := by simp
theorem Three.new (w : World) : Three (((w.alloc (.cells va.cs.toArray 28)).alloc (.cells vb.cs.toArray 28)).alloc (.cells vx.cs.toArray 28)) w.heap.size := by
  refine ⟨((Bk.new w 28 va.cs).alloc _).alloc _, ?_, ?_⟩
  · have h := (Bk.new (w.alloc (.cells va.cs.toArray 28)) 28 vb.cs).alloc (.cells vx.cs.toArray 28)
    rw [alloc_sz] at h
    exact h
  · have h := Bk.new ((w.alloc (.cells va.cs.toArray 28)).alloc (.cells vb.cs.toArray 28)) 28 vx.cs
    rw [alloc_sz, alloc_sz] at h
    exact h
theorem row_two {w0 w : World} {A : Option Addr} {k : Nat} (h : OwnR w0 w 28 5 (.slice A 2 k) 2 ([vb, va].flatMap V.cs)) : ∃ b, A = some ⟨b, 0, none⟩ ∧ b < w.heap.size ∧ ∀ j, j < 10 → w.cell? ⟨b, j, none⟩ = ([vb, va].flatMap V.cs)[j]? := by
  obtain ⟨A', cap', e1, _, _, hA, h4⟩ := own_form h.own
  injection e1 with e1 _ e3
  subst e1; subst e3
  obtain ⟨b, rfl⟩ := hA (by omega)
  exact ⟨b, rfl, own_lt h.own (k := b) rfl, (h4 b rfl).1⟩
theorem get_vb {w : World} {S : Nat → Prop} {N o M : Nat} (h : One w S N o M l4) : Calls Try.prog 11 #[.pointer (some ⟨o, 0, none⟩), (.agg #[.int .i64 va.k, .int .i64 va.p, .int .i64 va.q, .string va.s, .int .i64 va.r])] w fun e w' => e = .returned (.agg #[.int .i64 3, .int .i64 0, .int .i64 0, .string ⟨#[98]⟩, .int .i64 0]) ∧ Chg (fun _ => False) w w' := o_get h va_wf lv5
set_option maxRecDepth 100000 in
set_option maxHeartbeats 8000000 in
theorem lives_true (w : World) : Calls Try.prog 15 #[] w fun e w' => e = .returned (.bool true) ∧ Chg (fun _ => False) w w' := by
  go_enter Try.func15, Try.ntmps15
  go_wp2_with fail
  refine (o_new w).mono ?_
  rintro e w1 ⟨o, rfl, hO', hc1⟩
  obtain ⟨S, hS', hfix⟩ := hO'.fix
  have hC1 := hid hc1
  have hS : Hid (∀ k, S k → w.heap.size ≤ k) := hid fun k hk => (hS' k hk).2.elim False.elim id
  have hnS : Hid (∀ k, w1.heap.size ≤ k → ¬ S k) := hid fun k hk e => by have := (hS' k e).1; omega
  have hO1 := hid (hfix (((w1.alloc (.cells va.cs.toArray 28)).alloc (.cells vb.cs.toArray 28)).alloc (.cells vx.cs.toArray 28)) (w1.heap.size + 3) ((((Chg.refl _ w1).alloc _).alloc _).alloc _))
  have hC2 := hid (((hc1.alloc (.cells va.cs.toArray 28)).alloc (.cells vb.cs.toArray 28)).alloc (.cells vx.cs.toArray 28))
  have hT2 := hid (Three.new w1)
  have hsz : Hid (w.heap.size ≤ w1.heap.size + 3) := hid (by have := hc1.size; omega)
  clear hO' hc1 hS' hfix hC1
  go_wp2_with fail
  refine (o_set hO1.out (by rw [alloc_sz, alloc_sz, alloc_sz]; omega) (by simp) (by omega) va_wf lv1).mono ?_
  rintro e w2 ⟨rfl, hO', hc⟩
  have hO2 := hid hO'
  have hT3 := hid (hT2.out.chg hc hnS.out (by omega))
  have hC3 := hid (chg_new hC2.out hc hS.out hsz.out)
  have hz3 : Hid (w1.heap.size + 3 ≤ w2.heap.size) := hid (by have := hT3.out.2.2.lt; omega)
  obtain ⟨y0, y1, y2, y3, y4⟩ := V.box hT3.out.2.1
  obtain ⟨z0, z1, z2, z3, z4⟩ := V.box hT3.out.2.2
  simp only [vb, vx] at y0 y1 y2 y3 y4 z0 z1 z2 z3 z4
  clear hO' hc hO1 hC2 hT2
  go_wp2_with fail
  refine (o_set hO2.out hz3.out (by decide) (by omega) vb_wf lv2).mono ?_
  rintro e w3 ⟨rfl, hO', hc⟩
  have hO3 := hid hO'
  have hT4 := hid (hT3.out.chg hc hnS.out (by omega))
  have hC4 := hid (chg_new hC3.out hc hS.out hsz.out)
  have hz4 : Hid (w1.heap.size + 3 ≤ w3.heap.size) := hid (by have := hT4.out.2.2.lt; omega)
  clear y0 y1 y2 y3 y4 z0 z1 z2 z3 z4
  obtain ⟨y0, y1, y2, y3, y4⟩ := V.box hT4.out.1
  simp only [va] at y0 y1 y2 y3 y4
  clear hO' hc hO2 hC3 hT3 hz3
  go_wp2_with fail
  refine (o_set hO3.out hz4.out (by decide) (by omega) va_wf lv3).mono ?_
  rintro e w4 ⟨rfl, hO', hc⟩
  have hO4 := hid hO'
  have hT5 := hid (hT4.out.chg hc hnS.out (by omega))
  have hC5 := hid (chg_new hC4.out hc hS.out hsz.out)
  have hz5 : Hid (w1.heap.size + 3 ≤ w4.heap.size) := hid (by have := hT5.out.2.2.lt; omega)
  clear y0 y1 y2 y3 y4
  obtain ⟨y0, y1, y2, y3, y4⟩ := V.box hT5.out.1
  obtain ⟨z0, z1, z2, z3, z4⟩ := V.box hT5.out.2.1
  simp only [va, vb] at y0 y1 y2 y3 y4 z0 z1 z2 z3 z4
  clear hO' hc hO3 hC4 hT4 hz4
  go_wp2_with fail
  refine (o_set hO4.out hz5.out (by decide) (by omega) va_wf lv4).mono ?_
  rintro e w5 ⟨rfl, hO', hc⟩
  have hO5 := hid hO'
  have hT6 := hid (hT5.out.chg hc hnS.out (by omega))
  have hC6 := hid (chg_new hC5.out hc hS.out hsz.out)
  clear y0 y1 y2 y3 y4 z0 z1 z2 z3 z4 hO' hc hO4 hC5 hT5 hz5
  go_wp2_with fail
  refine (o_keys hO5.out (by decide) (x := 2) lv7).mono ?_
  rintro e w6 ⟨A, k, rfl, hR', hc⟩
  rw [lv6] at hR'
  obtain ⟨b, rfl, hlt', hb⟩ := row_two hR'
  have hlt := hid hlt'
  clear hlt'
  have hb6 := hid hb
  have hO6 := hid ((hO5.out.none_ hc).none_ ((Chg.refl (fun _ => False) w6).drew))
  have hT7 := hid ((hT6.out.none_ hc).none_ ((Chg.refl (fun _ => False) w6).drew))
  have hC7 := hid ((hC6.out.trans_same hc).drew)
  clear hR' hc hO5 hC6 hT6 hb
  go_wp2_with fail
  refine wp_region_rc (id := 9) [.rd [0, 1, 2, 3, 4, 5, 6, 7, 8, 9, 10, 11, 12, 13, 14, 15, 16, 17, 18], .act 19, .rd [20, 21, 22, 23, 24, 26], .act 25, .wl [27, 28, 29]] [] [] (fun w' => (∀ j, j < 10 → w'.cell? ⟨b, j, none⟩ = ([vb, va].flatMap V.cs)[j]?) ∧ Three w' w1.heap.size) (by kernel_rfl) 69 rfl (by kernel_rfl) (fun _ _ _ _ _ h => h) ⟨hb6.out, hT7.out⟩ ?_
  refine steps_rdW ?_
  apply Exists.intro
  refine ⟨?_, ?_⟩
  focus
    rintro w' ⟨hSa, hSb⟩
    have q0 := hSa 0 (by omega)
    have q1 := hSa 1 (by omega)
    have q2 := hSa 2 (by omega)
    have q3 := hSa 3 (by omega)
    have q4 := hSa 4 (by omega)
    have q5 := hSa 5 (by omega)
    have q6 := hSa 6 (by omega)
    have q7 := hSa 7 (by omega)
    have q8 := hSa 8 (by omega)
    have q9 := hSa 9 (by omega)
    obtain ⟨y0, y1, y2, y3, y4⟩ := V.box hSb.1
    obtain ⟨z0, z1, z2, z3, z4⟩ := V.box hSb.2.1
    simp only [va, vb, V.cs, List.flatMap_cons, List.flatMap_nil, List.cons_append, List.nil_append, List.append_nil, List.getElem?_cons_succ, List.getElem?_cons_zero] at q0 q1 q2 q3 q4 q5 q6 q7 q8 q9 y0 y1 y2 y3 y4 z0 z1 z2 z3 z4
    clear hSa hSb
    iterate 19 (refine stW_step rfl (fun K hK => ?_); go_simp; refine hK _ ?_; clear hK K)
    exact stW_nil rfl
  refine steps_act (o := ⟨_, _, _, _, _, _⟩) rfl (fun K2 hK2 => ?_)
  go_wp2_with fail
  refine (o_slots hO6.out (m := 3) rfl).mono ?_
  rintro e w7 ⟨rfl, hw⟩
  subst hw
  go_wp2
  refine hK2 _ _ ⟨hb6.out, hT7.out⟩ rfl ?_
  clear hK2 K2
  refine steps_rdW ?_
  apply Exists.intro
  refine ⟨?_, ?_⟩
  focus
    rintro w' ⟨hSa, hSb⟩
    obtain ⟨y0, y1, y2, y3, y4⟩ := V.box hSb.1
    obtain ⟨z0, z1, z2, z3, z4⟩ := V.box hSb.2.1
    simp only [va, vb] at y0 y1 y2 y3 y4 z0 z1 z2 z3 z4
    clear hSa hSb
    iterate 6 (refine stW_step rfl (fun K hK => ?_); go_simp; refine hK _ ?_; clear hK K)
    exact stW_nil rfl
  refine steps_act (o := ⟨_, _, _, _, _, _⟩) rfl (fun K2 hK2 => ?_)
  go_wp2_with fail
  refine (get_vb hO6.out).mono ?_
  rintro e w8 ⟨rfl, hc⟩
  have hS8 : Hid ((∀ j, j < 10 → w8.cell? ⟨b, j, none⟩ = ([vb, va].flatMap V.cs)[j]?) ∧ Three w8 w1.heap.size) := hid ⟨fun j hj => (hc.cell (p := ⟨b, j, none⟩) hlt.out id).trans (hb6.out j hj), hT7.out.none_ hc⟩
  have hC8 := hid (hC7.out.trans_same hc)
  clear hc hb6 hT7 hC7 hO6
  go_wp2
  refine hK2 _ _ hS8.out rfl ?_
  clear hK2 K2
  refine steps_wlW ?_
  apply Exists.intro
  refine ⟨?_, ?_⟩
  focus
    intro w'
    iterate 3 (refine stW_step rfl (fun K hK => ?_); go_simp; refine hK _ ?_; clear hK K)
    exact stW_nil rfl
  refine steps_nil (l := []) rfl (fun K2 hK2 => ?_)
  go_wp2_with fail
  refine hK2 _ _ rfl ?_
  clear hK2 K2
  refine stI_nil ?_
  go_wp2
  go_ret
  exact ⟨rfl, hC8.out⟩
end Go.Proofs.Ytabodabfiklbnaa
