/-
  The law's call on both maps: from maps that are alike to maps that are alike.
-/
import Derived.Test.YtabodabfiklbnaaLift2
namespace Go.Proofs.Ytabodabfiklbnaa
open Go.RowKit Go.Maps

section
variable {w w' : World} {S : Nat → Prop} {N o r M : Nat} {L : List Sl}
set_option maxRecDepth 100000 in
set_option maxHeartbeats 8000000 in
theorem step_true (h : Two w S N o r M L L) (hN : N ≤ w.heap.size) (hn : L.length ≤ 900) (hM : M ≤ 90000000) (x : OpV) (hw : x.k.wf ∧ x.v.wf) :
    Calls Try.prog 21 #[.pointer (some ⟨o, 0, none⟩), .pointer (some ⟨r, 0, none⟩), .agg #[.int .i64 x.kd, .int .i64 x.k.k, .int .i64 x.k.p, .int .i64 x.k.q, .string x.k.s, .int .i64 x.k.r, .int .i64 x.v.k, .int .i64 x.v.p, .int .i64 x.v.q, .string x.v.s, .int .i64 x.v.r]] w fun e w' => e = .returned (.bool true) ∧ StepPost w w' S N o r M L.length := by
  obtain ⟨S', hS', hfix⟩ := h.fix
  have hX := hid (Bk.new w 30 x.cs)
  have hT : Hid (Two (w.alloc (.cells x.cs.toArray 30)) S' (w.heap.size + 1) o r M L L) := hid (hfix _ _ ((Chg.refl _ w).alloc _))
  have hnS : Hid (¬ S' w.heap.size) := hid fun e => by have := (hS' _ e).1; omega
  have hSS : Hid (∀ k, S' k → S k ∨ N ≤ k) := hid fun k e => (hS' k e).2
  have hN1 : N ≤ w.heap.size + 1 := by omega
  have hC1 : Hid (Chg (fun _ => False) w (w.alloc (.cells x.cs.toArray 30))) := hid ((Chg.refl _ w).alloc _)
  have hX1 := hid hX.out.drew
  have hT1 := hid (hT.out.none_ ((Chg.refl (fun _ => False) _).drew))
  have hC2 := hid hC1.out.drew
  have hwk := hid hw.1
  have hnh := hid hn
  clear hS' hfix h hN hw hn
  by_cases h0 : x.kd = 0
  · obtain ⟨e1, L1, hp⟩ : ∃ e1 L1, Hid (setM L x.k x.v = (e1, L1)) := ⟨_, _, hid rfl⟩
    have hl1 : Hid (L1.length ≤ L.length + 1) := hid (by have := setM_len L x.k x.v; rw [hp.out] at this; exact this)
    have e0 : (x.kd == 0) = true := by simpa using h0
    clear h0 hT hX hC1
    go_enter Try.func21, Try.ntmps21
    go_wp2_with fail
    refine wp_region_rc (id := 3) [.rd [0, 1, 2, 3, 4, 6, 7, 8, 9, 10], .act 5] [11, 12, 13] [] (fun w' => Bk w' w.heap.size 30 x.cs) (by kernel_rfl) 92 rfl (by kernel_rfl) (fun _ _ _ _ _ h => h) hX1.out ?_
    refine steps_rdW ?_
    apply Exists.intro
    refine ⟨?_, ?_⟩
    focus
      rintro w' hS
      obtain ⟨y0, y1, y2, y3, y4, y5, y6, y7, y8, y9, y10⟩ := OpV.box hS
      clear hS
      iterate 10 (refine stW_step rfl (fun K hK => ?_); go_simp; refine hK _ ?_; clear hK K)
      exact stW_nil rfl
    refine steps_act (o := ⟨_, _, _, _, _, _⟩) rfl (fun K2 hK2 => ?_)
    go_wp2_with fail
    refine (p_set hT1.out (by simp) (by have := hnh.out; omega) (by omega) hwk.out hp.out).mono ?_
    rintro e w2 ⟨rfl, hT2', hc2⟩
    have hT2 := hid hT2'
    have hX2 := hid (hX1.out.twoChg hc2 hnS.out (by omega))
    have hC3 := hid (show Chg (fun k => S' k ∨ w.heap.size + 1 ≤ k) _ w2 from hc2)
    clear hT2' hc2 hT1 hX1
    go_wp2_with fail
    refine hK2 _ _ hX2.out rfl ?_
    clear hK2 K2
    have hz2 := hX2.out.lt
    refine steps_nil (l := [⟨_, _, _, _, _, _⟩, ⟨_, _, _, _, _, _⟩, ⟨_, _, _, _, _, _⟩]) rfl (fun K2 hK2 => ?_)
    go_wp2_with fail
    refine (q_set hT2.out (by omega) (by have := hnh.out; omega) hp.out).mono ?_
    rintro e w3 ⟨rfl, hT3', hc3⟩
    have hT3 := hid hT3'
    have hC4 := hid (hC3.out.trans_same hc3)
    clear hT3' hc3 hT2 hC3
    go_wp2_with fail
    refine hK2 _ _ rfl ?_
    clear hK2 K2
    refine stI_nil ?_
    go_wp2_with fail
    go_ret
    exact ⟨rfl, StepPost.mk hT3.out (Nat.le_refl _) hSS.out hN1 hl1.out hC2.out hC4.out⟩
  have e0 : (x.kd == 0) = false := by simpa using h0
  clear h0
  by_cases h1 : x.kd = 1
  · obtain ⟨e1, L1, hp⟩ : ∃ e1 L1, Hid (setM L x.k V.zero = (e1, L1)) := ⟨_, _, hid rfl⟩
    have hl1 : Hid (L1.length ≤ L.length + 1) := hid (by have := setM_len L x.k V.zero; rw [hp.out] at this; exact this)
    have e1' : (x.kd == 1) = true := by simpa using h1
    clear h1 hT hX hC1
    go_enter Try.func21, Try.ntmps21
    go_wp2_with fail
    refine wp_region_rc (id := 5) [.rd [0, 1, 2, 3, 5, 6, 7, 8], .act 4] [9, 10, 11] [] (fun w' => Bk w' w.heap.size 30 x.cs) (by kernel_rfl) 92 rfl (by kernel_rfl) (fun _ _ _ _ _ h => h) hX1.out ?_
    refine steps_rdW ?_
    apply Exists.intro
    refine ⟨?_, ?_⟩
    focus
      rintro w' hS
      obtain ⟨y0, y1, y2, y3, y4, y5, y6, y7, y8, y9, y10⟩ := OpV.box hS
      clear hS
      iterate 8 (refine stW_step rfl (fun K hK => ?_); go_simp; refine hK _ ?_; clear hK K)
      exact stW_nil rfl
    refine steps_act (o := ⟨_, _, _, _, _, _⟩) rfl (fun K2 hK2 => ?_)
    go_wp2_with fail
    refine (p_set hT1.out (by simp) (by have := hnh.out; omega) (by omega) hwk.out hp.out).mono ?_
    rintro e w2 ⟨rfl, hT2', hc2⟩
    have hT2 := hid hT2'
    have hX2 := hid (hX1.out.twoChg hc2 hnS.out (by omega))
    have hC3 := hid (show Chg (fun k => S' k ∨ w.heap.size + 1 ≤ k) _ w2 from hc2)
    clear hT2' hc2 hT1 hX1
    go_wp2_with fail
    refine hK2 _ _ hX2.out rfl ?_
    clear hK2 K2
    have hz2 := hX2.out.lt
    refine steps_nil (l := [⟨_, _, _, _, _, _⟩, ⟨_, _, _, _, _, _⟩, ⟨_, _, _, _, _, _⟩]) rfl (fun K2 hK2 => ?_)
    go_wp2_with fail
    refine (q_set hT2.out (by omega) (by have := hnh.out; omega) hp.out).mono ?_
    rintro e w3 ⟨rfl, hT3', hc3⟩
    have hT3 := hid hT3'
    have hC4 := hid (hC3.out.trans_same hc3)
    clear hT3' hc3 hT2 hC3
    go_wp2_with fail
    refine hK2 _ _ rfl ?_
    clear hK2 K2
    refine stI_nil ?_
    go_wp2_with fail
    go_ret
    exact ⟨rfl, StepPost.mk hT3.out (Nat.le_refl _) hSS.out hN1 hl1.out hC2.out hC4.out⟩
  have e1' : (x.kd == 1) = false := by simpa using h1
  clear h1
  by_cases h2 : x.kd = 2
  · obtain ⟨y, hy⟩ : ∃ y, Hid (getM L x.k = y) := ⟨_, hid rfl⟩
    have e2 : (x.kd == 2) = true := by simpa using h2
    clear h2 hT hX hC1
    go_enter Try.func21, Try.ntmps21
    go_wp2_with fail
    refine wp_region_rc (id := 7) [.rd [0, 1, 2, 4, 5, 6], .act 3] [7, 8, 9] [] (fun w' => Bk w' w.heap.size 30 x.cs) (by kernel_rfl) 92 rfl (by kernel_rfl) (fun _ _ _ _ _ h => h) hX1.out ?_
    refine steps_rdW ?_
    apply Exists.intro
    refine ⟨?_, ?_⟩
    focus
      rintro w' hS
      obtain ⟨y0, y1, y2, y3, y4, y5, y6, y7, y8, y9, y10⟩ := OpV.box hS
      clear hS
      iterate 6 (refine stW_step rfl (fun K hK => ?_); go_simp; refine hK _ ?_; clear hK K)
      exact stW_nil rfl
    refine steps_act (o := ⟨_, _, _, _, _, _⟩) rfl (fun K2 hK2 => ?_)
    go_wp2_with fail
    refine (o_get hT1.out.one hwk.out hy.out).mono ?_
    rintro e w2 ⟨rfl, hc2⟩
    have hT2 := hid (hT1.out.none_ hc2)
    have hX2 := hid (hX1.out.none_ hc2)
    have hC3 := hid (hC2.out.trans_same hc2)
    clear hc2 hT1 hX1 hC2
    go_wp2_with fail
    refine hK2 _ _ hX2.out rfl ?_
    clear hK2 K2
    refine steps_nil (l := [⟨_, _, _, _, _, _⟩, ⟨_, _, _, _, _, _⟩, ⟨_, _, _, _, _, _⟩]) rfl (fun K2 hK2 => ?_)
    go_wp2_with fail
    refine (q_get hT2.out (by have := hnh.out; omega) hy.out).mono ?_
    rintro e w3 ⟨rfl, hc3⟩
    have hT3 := hid (hT2.out.none_ hc3)
    have hC4 := hid (hC3.out.trans_same hc3)
    clear hc3 hT2 hC3
    go_wp2_with fail
    refine hK2 _ _ rfl ?_
    clear hK2 K2
    refine stI_nil ?_
    go_wp2_with fail
    go_ret
    exact ⟨rfl, StepPost.mk hT3.out (Nat.le_add_right _ _) hSS.out hN1 (Nat.le_succ _) hC4.out (Chg.refl _ _)⟩
  have e2 : (x.kd == 2) = false := by simpa using h2
  clear h2 hT1 hX1 hC2
  obtain ⟨a, b, c, d, hx⟩ : ∃ a b c d, Hid (nextM L x.k = (a, b, c, d)) := ⟨_, _, _, _, hid rfl⟩
  obtain ⟨y0, y1, y2, y3, y4, y5, y6, y7, y8, y9, y10⟩ := OpV.box hX.out
  go_enter Try.func21, Try.ntmps21
  go_wp2_with fail
  refine (o_next hT.out.one (by have := hnh.out; omega) hwk.out hx.out).mono ?_
  rintro e w2 ⟨rfl, hc2⟩
  have hX2 := hid (hX.out.none_ hc2)
  have hT2 := hid ((hT.out.none_ hc2).none_ (((Chg.refl (fun _ => False) w2).alloc (.cells a.cs.toArray 28)).alloc (.cells b.cs.toArray 28)))
  have hC2 := hid (((hC1.out.trans_same hc2).alloc (.cells a.cs.toArray 28)).alloc (.cells b.cs.toArray 28))
  have hBa := hid ((Bk.new w2 28 a.cs).alloc (.cells b.cs.toArray 28))
  have hBb := hid (Bk.new_at (w2.alloc (.cells a.cs.toArray 28)) 28 b.cs.toArray (w2.heap.size + 1) (by simp))
  clear hc2 hT hX hC1 y0 y1 y2 y3 y4 y5 y6 y7 y8 y9 y10
  obtain ⟨y0, y1, y2, y3, y4, y5, y6, y7, y8, y9, y10⟩ := OpV.box hX2.out
  have hz2 := hX2.out.lt
  go_wp2_with fail
  refine (q_next hT2.out (by have := hnh.out; omega) hx.out).mono ?_
  rintro e w3 ⟨rfl, hc3⟩
  have hT3 := hid (hT2.out.none_ hc3)
  have hC3 := hid (hC2.out.trans_same hc3)
  have hBc := hid (hBa.out.none_ hc3)
  have hBd := hid (hBb.out.none_ hc3)
  obtain ⟨p0, p1, p2, p3, p4⟩ := V.box hBc.out
  obtain ⟨q0, q1, q2, q3, q4⟩ := V.box hBd.out
  have hlp := hBc.out.lt
  have hlq := hBd.out.lt
  have hT4 := hid (hT3.out.none_ (((Chg.refl (fun _ => False) w3).alloc (.cells a.cs.toArray 28)).alloc (.cells b.cs.toArray 28)))
  have hC4 := hid ((hC3.out.alloc (.cells a.cs.toArray 28)).alloc (.cells b.cs.toArray 28))
  clear hc3 hT2 hC2 hT3 hC3 hBa hBb y0 y1 y2 y3 y4 y5 y6 y7 y8 y9 y10
  go_wp2_with fail
  go_ret
  exact ⟨rfl, StepPost.mk hT4.out (Nat.le_add_right _ _) hSS.out hN1 (Nat.le_succ _) hC4.out (Chg.refl _ _)⟩
end
end Go.Proofs.Ytabodabfiklbnaa
