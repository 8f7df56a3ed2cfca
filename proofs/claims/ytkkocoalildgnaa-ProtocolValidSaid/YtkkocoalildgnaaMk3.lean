/-
  Fail, Error, called, Call, Try, Yield: what each makes.
-/
import Derived.Test.YtkkocoalildgnaaMk2
namespace Go.Proofs.Ytkkocoalildgnaa
open Go.RowKit

theorem vs_one (w : World) (v : V) (H : Nat) (hH : w.heap.size = H) : Vs (w.alloc (.cells v.cs.toArray 25)) (some ⟨H, 0, none⟩) [v] := by
  have := Rd.one w 25 5 v.cs rfl H hH
  unfold Vs
  simpa using this
/-- The text that fits. -/
def cut (s : ByteArray) : ByteArray := if s.size ≤ 4096 then s else s.extract 0 4096

theorem ofString_any (w : World) (s : ByteArray) : Calls Try.prog 41 #[.string s] w fun e w' => e = .returned (.agg #[.int .i64 ((⟨3, 0, 0, s, 0⟩ : V)).k, .int .i64 ((⟨3, 0, 0, s, 0⟩ : V)).p, .int .i64 ((⟨3, 0, 0, s, 0⟩ : V)).q, .string ((⟨3, 0, 0, s, 0⟩ : V)).s, .int .i64 ((⟨3, 0, 0, s, 0⟩ : V)).r]) ∧ Chg (fun _ => False) w w' := by
  go_enter Try.func41, Try.ntmps41
  go_wp2
  exact bodyPost_ret (v := (.agg #[.int .i64 ((⟨3, 0, 0, s, 0⟩ : V)).k, .int .i64 ((⟨3, 0, 0, s, 0⟩ : V)).p, .int .i64 ((⟨3, 0, 0, s, 0⟩ : V)).q, .string ((⟨3, 0, 0, s, 0⟩ : V)).s, .int .i64 ((⟨3, 0, 0, s, 0⟩ : V)).r])) (by simp [results, Try.results41, go_sem]) rfl ⟨rfl, (Chg.refl _ w).alloc _⟩

set_option maxHeartbeats 1000000 in
theorem own_fail (w : World) (v : V) (lv : Int) : Calls Try.prog 16 #[(.agg #[.int .i64 v.k, .int .i64 v.p, .int .i64 v.q, .string v.s, .int .i64 v.r]), .int .i64 lv] w fun e w' => Made w w' e 2 0 V.zero [v] ⟨#[]⟩ lv 0 [] := by
  have hvs := hid (vs_one ((w.alloc (.cells v.cs.toArray 25)).alloc (.cells zA.toArray 28)) v (w.heap.size + 2) (by simp))
  have hz0 : Hid (Bk (((w.alloc (.cells v.cs.toArray 25)).alloc (.cells zA.toArray 28)).alloc (.cells v.cs.toArray 25)) (w.heap.size + 1) 28 zA) := hid ((Bk.new_at (w.alloc (.cells v.cs.toArray 25)) 28 zA.toArray (w.heap.size + 1) (by simp)).alloc _)
  go_enter Try.func16, Try.ntmps16
  go_wp2_with (go_at_call 39; refine (list_any _ _ [v] 1 hvs.out (by simp)).mono ?_; rintro e w1 ⟨A1, c1, rfl, hO', hC'⟩; obtain ⟨z0, z1, z2, z3, z4, z5, z6, z7, z8, z9, z10, z11, hfz, hlt⟩ := zA_box (hz0.out.none_ hC'); have hz := hid (hz0.out.none_ hC'); have hO := hid hO'; have hC := hid hC'; clear hO' hC')
  exact fin_act (t := 4) (w0 := ((w.alloc (.cells v.cs.toArray 25)).alloc (.cells zA.toArray 28)).alloc (.cells v.cs.toArray 25)) (w1 := w1) (b := w.heap.size + 1) (k := 2) (o := 0) (f := V.zero) (vs := [v]) (s := ⟨#[]⟩) (l := lv) (n := 0) (ks := []) rfl rfl rfl hz.out hO.out (OwnR.nil _ _ _ _) (((((Chg.refl _ w).alloc _).alloc _).alloc _).trans_same hC.out) (by simp) (by omega)

set_option maxHeartbeats 1000000 in
theorem doc_fail (w : World) (v : V) (lv : Int) : Calls Try.prog 17 #[(.agg #[.int .i64 v.k, .int .i64 v.p, .int .i64 v.q, .string v.s, .int .i64 v.r]), .int .i64 lv] w fun e w' => Made w w' e 2 0 V.zero [v] ⟨#[]⟩ lv 0 [] := by
  go_enter Try.func17, Try.ntmps17
  go_wp2
  refine bodyPost_ret (v := (.agg #[.int .i64 2, .int .i64 0, .int .i64 V.zero.k, .int .i64 V.zero.p, .int .i64 V.zero.q, .string V.zero.s, .int .i64 V.zero.r, .slice (some ⟨w.heap.size + 2, 0, none⟩) 1 1, .string ⟨#[]⟩, .int .i64 lv, .int .i64 0, .slice none 0 0])) (by simp [results, Try.results17, go_sem, V.zero]) rfl ⟨_, _, _, _, rfl, ⟨?_, ?_⟩, OwnR.nil _ _ _ _, (((Chg.refl _ w).alloc _).alloc _).alloc _⟩
  · exact Bk.own (n := 1) (cap := 1) (size := 5) (xs := [v].flatMap V.cs) (Bk.new_at _ 25 v.cs.toArray (w.heap.size + 2) (by simp)) (Nat.le_refl _) (by unfold maxLen; omega) rfl (by simp [V.cs])
  · intro k hk
    simp [Value.ownBlock] at hk
    omega

theorem extract_all (s : ByteArray) : s.extract 0 s.size = s := by
  obtain ⟨⟨x⟩⟩ := s
  simp
set_option maxHeartbeats 1000000 in
theorem own_error (w : World) (s : ByteArray) (hs : s.size ≤ maxLen) : Calls Try.prog 18 #[.string s] w fun e w' => Made w w' e 2 0 V.zero [⟨3, 0, 0, cut s, 0⟩] ⟨#[]⟩ 1 0 [] := by
  unfold maxLen at hs
  by_cases h : s.size ≤ 4096
  · have hc : Hid (cut s = s) := hid (by unfold cut; rw [if_pos h])
    have hmin : min (s.size : Int) 4096 = s.size := by omega
    have hle : (s.size : Int) ≤ 4096 := by omega
    have hex := extract_all s
    rw [hc.out]
    go_enter Try.func18, Try.ntmps18
    go_wp2_with (first
      | (go_at_call 41; refine (ofString_any _ s).mono ?_; rintro e w1 ⟨rfl, hc1⟩; have hC1 := hid (((Chg.refl (fun _ => False) w).alloc (.cells zA.toArray 28)).trans_same hc1); have hz1 := hid ((Bk.new w 28 zA).none_ hc1); clear hc1)
      | (go_at_call 16; refine (own_fail _ ⟨3, 0, 0, s, 0⟩ 1).mono ?_; rintro e w2 ⟨A1, c1, A2, c2, rfl, hO1', hO2', hC'⟩; obtain ⟨z0, z1, z2, z3, z4, z5, z6, z7, z8, z9, z10, z11, hfz, hlt⟩ := zA_box (hz1.out.none_ hC'); have hz := hid (hz1.out.none_ hC'); have hO1 := hid hO1'; have hO2 := hid hO2'; have hC := hid hC'; clear hO1' hO2' hC'))
    exact fin_act (t := 2) (w0 := w1) (w1 := w2) (b := w.heap.size) (k := 2) (o := 0) (f := V.zero) (vs := [⟨3, 0, 0, s, 0⟩]) (s := ⟨#[]⟩) (l := 1) (n := 0) (ks := []) rfl rfl rfl hz.out hO1.out hO2.out (hC1.out.trans_same hC.out) (by have := hC1.out.size; have := hz1.out.lt; omega) (Nat.le_refl _)
  · have hc : Hid (cut s = s.extract 0 4096) := hid (by unfold cut; rw [if_neg h])
    have hmin : min (s.size : Int) 4096 = 4096 := by omega
    have hle : ¬ (s.size : Int) ≤ 4096 := by omega
    have hle2 : (4096 : Int) ≤ s.size := by omega
    have hle3 : 4096 ≤ s.size := by omega
    rw [hc.out]
    go_enter Try.func18, Try.ntmps18
    go_wp2_with (first
      | (go_at_call 41; refine (ofString_any _ (s.extract 0 4096)).mono ?_; rintro e w1 ⟨rfl, hc1⟩; have hC1 := hid (((Chg.refl (fun _ => False) w).alloc (.cells zA.toArray 28)).trans_same hc1); have hz1 := hid ((Bk.new w 28 zA).none_ hc1); clear hc1)
      | (go_at_call 16; refine (own_fail _ ⟨3, 0, 0, s.extract 0 4096, 0⟩ 1).mono ?_; rintro e w2 ⟨A1, c1, A2, c2, rfl, hO1', hO2', hC'⟩; obtain ⟨z0, z1, z2, z3, z4, z5, z6, z7, z8, z9, z10, z11, hfz, hlt⟩ := zA_box (hz1.out.none_ hC'); have hz := hid (hz1.out.none_ hC'); have hO1 := hid hO1'; have hO2 := hid hO2'; have hC := hid hC'; clear hO1' hO2' hC'))
    exact fin_act (t := 2) (w0 := w1) (w1 := w2) (b := w.heap.size) (k := 2) (o := 0) (f := V.zero) (vs := [⟨3, 0, 0, s.extract 0 4096, 0⟩]) (s := ⟨#[]⟩) (l := 1) (n := 0) (ks := []) rfl rfl rfl hz.out hO1.out hO2.out (hC1.out.trans_same hC.out) (by have := hC1.out.size; have := hz1.out.lt; omega) (Nat.le_refl _)
set_option maxHeartbeats 1000000 in
theorem doc_error (w : World) (s : ByteArray) (hs : s.size ≤ maxLen) : Calls Try.prog 19 #[.string s] w fun e w' => Made w w' e 2 0 V.zero [⟨3, 0, 0, cut s, 0⟩] ⟨#[]⟩ 1 0 [] := by
  unfold maxLen at hs
  have hz1 := hid (Bk.new w 28 zA)
  by_cases h : s.size ≤ 4096
  · have hc : Hid (cut s = s) := hid (by unfold cut; rw [if_pos h])
    have hle : ¬ (4096 : Int) < s.size := by omega
    rw [hc.out]
    go_enter Try.func19, Try.ntmps19
    go_wp2_with (go_at_call 17; refine (doc_fail _ ⟨3, 0, 0, s, 0⟩ 1).mono ?_; rintro e w2 ⟨A1, c1, A2, c2, rfl, hO1', hO2', hC'⟩; obtain ⟨z0, z1, z2, z3, z4, z5, z6, z7, z8, z9, z10, z11, hfz, hlt⟩ := zA_box (hz1.out.none_ hC'); have hz := hid (hz1.out.none_ hC'); have hO1 := hid hO1'; have hO2 := hid hO2'; have hC := hid hC'; clear hO1' hO2' hC')
    exact fin_act (t := 2) (w0 := w.alloc (.cells zA.toArray 28)) (w1 := w2) (b := w.heap.size) (k := 2) (o := 0) (f := V.zero) (vs := [⟨3, 0, 0, s, 0⟩]) (s := ⟨#[]⟩) (l := 1) (n := 0) (ks := []) rfl rfl rfl hz.out hO1.out hO2.out (((Chg.refl _ w).alloc _).trans_same hC.out) (by simp) (Nat.le_refl _)
  · have hc : Hid (cut s = s.extract 0 4096) := hid (by unfold cut; rw [if_neg h])
    have hle : (4096 : Int) < s.size := by omega
    have hle3 : 4096 ≤ s.size := by omega
    rw [hc.out]
    go_enter Try.func19, Try.ntmps19
    go_wp2_with (go_at_call 17; refine (doc_fail _ ⟨3, 0, 0, s.extract 0 4096, 0⟩ 1).mono ?_; rintro e w2 ⟨A1, c1, A2, c2, rfl, hO1', hO2', hC'⟩; obtain ⟨z0, z1, z2, z3, z4, z5, z6, z7, z8, z9, z10, z11, hfz, hlt⟩ := zA_box (hz1.out.none_ hC'); have hz := hid (hz1.out.none_ hC'); have hO1 := hid hO1'; have hO2 := hid hO2'; have hC := hid hC'; clear hO1' hO2' hC')
    exact fin_act (t := 2) (w0 := w.alloc (.cells zA.toArray 28)) (w1 := w2) (b := w.heap.size) (k := 2) (o := 0) (f := V.zero) (vs := [⟨3, 0, 0, s.extract 0 4096, 0⟩]) (s := ⟨#[]⟩) (l := 1) (n := 0) (ks := []) rfl rfl rfl hz.out hO1.out hO2.out (((Chg.refl _ w).alloc _).trans_same hC.out) (by simp) (Nat.le_refl _)
end Go.Proofs.Ytkkocoalildgnaa
