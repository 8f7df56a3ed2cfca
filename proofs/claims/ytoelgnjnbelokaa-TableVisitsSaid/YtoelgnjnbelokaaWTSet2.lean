/-
  Set of a table: the next key, and all other keys.
-/
import Derived.Test.YtoelgnjnbelokaaWTSet
import Derived.Test.YtoelgnjnbelokaaWAdd
namespace Go.Proofs.Ytoelgnjnbelokaa
open Go.RowKit Go.Maps

section
variable {w w' : World} {S : Nat → Prop} {N o M : Nat} {a : List V} {m : List Sl}
theorem TabM.mapped {N' M' c bm n : Nat} {av vs : Value} {D : DataW Unit} {m' : List Sl} (h : TabM w o av c vs bm n D a m) (hlo : ∀ k, tabF o av c vs bm k → S k ∨ N ≤ k) (hN : N ≤ N') (hNw : w.heap.size ≤ N') (h1 : One w' (ownF c vs bm) N' c M' m') (hc : Chg (fun k => ownF c vs bm k ∨ N' ≤ k) w w') :
    Tab w' S N o M' a m' ∧ Chg (fun k => S k ∨ N ≤ k) w w' := by
  obtain ⟨s1, s2, s3⟩ := h.sep
  obtain ⟨vs1, bm1, n1, D1, g1, g2, g3⟩ := h1
  refine ⟨⟨av, c, vs1, bm1, n1, D1, ⟨h.blk.chg hc fun e => e.elim s1 fun e => by have := h.blk.lt; omega, h.arr.chg hc fun k hk e => e.elim (s3 k hk) fun e => by have := h.arr.lt hk; omega, g1⟩, fun k hk => ?_, g3⟩, hc.mono fun k _ e => e.elim (fun e => hlo k (.inr (.inr e))) fun e => .inr (by omega)⟩
  rcases hk with e | e | e
  · exact hlo k (.inl e)
  · exact hlo k (.inr (.inl e))
  · exact (g2 k e).elim (fun e => hlo k (.inr (.inr e))) fun e => .inr (by omega)
set_option maxRecDepth 100000 in
set_option maxHeartbeats 8000000 in
theorem t_set_add (h : Tab w S N o M a m) (hN : N ≤ w.heap.size) (hb : a.length + m.length ≤ 900) (hm3 : m.length ≤ 300) {k v : V} (hk : k = ⟨2, (a.length : Int) + 1, 1, ⟨#[]⟩, 0⟩) (hv : vok v = true) (hv0 : v.k ≠ 0) :
    Calls Try.prog 14 #[.pointer (some ⟨o, 0, none⟩), (.agg #[.int .i64 k.k, .int .i64 k.p, .int .i64 k.q, .string k.s, .int .i64 k.r]), (.agg #[.int .i64 v.k, .int .i64 v.p, .int .i64 v.q, .string v.s, .int .i64 v.r])] w fun e w' => e = .returned (.int .i64 0) ∧ (∃ a' m', AddR m a v a' m' ∧ Tab w' S N o (M + 400000) a' m') ∧ Chg (fun k => S k ∨ N ≤ k) w w' := by
  obtain ⟨q, hq⟩ : ∃ q, Hid (a.length = q) := ⟨_, hid rfl⟩
  rw [hq.out] at hk
  have hB := hid ((Bk.new w 26 k.cs).alloc (.cells v.cs.toArray 26))
  have hV := hid (Bk.new_at (w.alloc (.cells k.cs.toArray 26)) 26 v.cs.toArray (w.heap.size + 1) (by simp))
  have hC := hid (((Chg.refl (fun _ => False) w).alloc (.cells k.cs.toArray 26)).alloc (.cells v.cs.toArray 26))
  subst hk
  have hbq : q ≤ 900 := by rw [← hq.out]; omega
  have hI0 := isI_kI (n := (q : Int) + 1) (by omega) (by omega)
  have hI : Hid (isI ⟨2, (q : Int) + 1, 1, ⟨#[]⟩, 0⟩ = true) := hid hI0.1
  have hkv : Hid (vok ⟨2, (q : Int) + 1, 1, ⟨#[]⟩, 0⟩ = true) := hid hI0.2
  have hvh := hid hv
  have hv0h := hid hv0
  have ev0 : (v.k != 0) = true := by simpa using hv0
  have hT := hid h
  have hNh := hid hN
  have hbh := hid hb
  have hm3h := hid hm3
  have t1 : decide ((1 : Int) ≤ (q : Int) + 1) = true := by simp; omega
  have t2 : decide ((q : Int) + 1 ≤ (q : Int)) = false := decide_eq_false (by omega)
  have hw1 : IntKind.i64.wrap ((q : Int) + 1) = (q : Int) + 1 := by rw [IntKind.wrap_i64]; omega
  clear h hI0 hv hb hN hm3 hv0
  go_enter Try.func14, Try.ntmps14
  go_wp2_with fail
  refine (val_valid_eq2 hkv.out).mono ?_
  rintro e w1 ⟨rfl, hc1⟩
  have hB1 := hid (hB.out.none_ hc1)
  have hV1 := hid (hV.out.none_ hc1)
  have hC1 := hid (hC.out.trans_same hc1)
  obtain ⟨z0, z1, z2, z3, z4⟩ := V.box hV1.out
  have hzl := hV1.out.lt
  clear hc1 hB hV hC
  go_wp2_with fail
  refine (val_valid_eq2 hvh.out).mono ?_
  rintro e w2 ⟨rfl, hc2⟩
  have hB2 := hid (hB1.out.none_ hc2)
  have hV2 := hid (hV1.out.none_ hc2)
  have hC2 := hid (hC1.out.trans_same hc2)
  clear z0 z1 z2 z3 z4 hzl hc2 hB1 hV1 hC1
  obtain ⟨z0, z1, z2, z3, z4⟩ := V.box hB2.out
  have hzl := hB2.out.lt
  go_wp2_with fail
  refine (integer_any w2 ⟨2, (q : Int) + 1, 1, ⟨#[]⟩, 0⟩).mono ?_
  rw [hI.out]
  rintro e w3 ⟨rfl, hc3⟩
  have hV3 := hid (hV2.out.none_ hc3)
  have hC3 := hid (hC2.out.trans_same hc3)
  have hT3 := hid (hT.out.none_ hC3.out)
  have hN3 := hid (Nat.le_trans hNh.out hC3.out.size)
  obtain ⟨A, cap, c, c0, -⟩ := hT3.out.cells hq.out
  have hol := hT3.out.lt
  clear z0 z1 z2 z3 z4 hzl hc3 hB2 hV2 hC2 hT
  obtain ⟨z0, z1, z2, z3, z4⟩ := V.box hV3.out
  have hzl := hV3.out.lt
  go_wp2_with fail
  refine (t_add hT3.out hN3.out hv0h.out hbh.out hm3h.out).mono ?_
  rintro e w4 ⟨rfl, h4, hc4⟩
  have fin := hid (And.intro h4 ((hC3.out.mono (T := fun k => S k ∨ N ≤ k) fun _ _ e => e.elim).trans_same hc4))
  clear h4 hc4 c0 hol z0 z1 z2 z3 z4 hzl hC3 hV3 hT3
  go_wp2_with fail
  go_ret
  exact ⟨rfl, fin.out.1, fin.out.2⟩
set_option maxRecDepth 100000 in
set_option maxHeartbeats 8000000 in
theorem t_set_map (h : Tab w S N o M a m) (hN : N ≤ w.heap.size) (hb : a.length ≤ 1000000) (hn : m.length ≤ 999) (hM : M ≤ 100000000) {k v : V} (hk : k.wf) (hk0 : ¬ (k.k = 0 ∨ vok k = false)) (hv : vok v = true) (hin : inN a.length k = false) (hnx : ¬ (isI k = true ∧ k.p = (a.length : Int) + 1 ∧ v.k ≠ 0)) {e1 : Int} {m1 : List Sl} (hp : setM m k v = (e1, m1)) :
    Calls Try.prog 14 #[.pointer (some ⟨o, 0, none⟩), (.agg #[.int .i64 k.k, .int .i64 k.p, .int .i64 k.q, .string k.s, .int .i64 k.r]), (.agg #[.int .i64 v.k, .int .i64 v.p, .int .i64 v.q, .string v.s, .int .i64 v.r])] w fun e w' => e = .returned (.int .i64 e1) ∧ Tab w' S N o (M + 1000) a m1 ∧ Chg (fun k => S k ∨ N ≤ k) w w' := by
  obtain ⟨q, hq⟩ : ∃ q, Hid (a.length = q) := ⟨_, hid rfl⟩
  have hB := hid ((Bk.new w 26 k.cs).alloc (.cells v.cs.toArray 26))
  have hV := hid (Bk.new_at (w.alloc (.cells k.cs.toArray 26)) 26 v.cs.toArray (w.heap.size + 1) (by simp))
  have hC := hid (((Chg.refl (fun _ => False) w).alloc (.cells k.cs.toArray 26)).alloc (.cells v.cs.toArray 26))
  have hbq : q ≤ 1000000 := by rw [← hq.out]; exact hb
  have hkv : Hid (vok k = true) := hid (by cases e : vok k with | true => rfl | false => exact absurd (.inr e) hk0)
  have e0 : (k.k == 0) = false := by simpa using fun e => hk0 (.inl e)
  have hvh := hid hv
  have hkw := hid hk
  have hT := hid h
  have hNh := hid hN
  have hnh := hid hn
  have hMh := hid hM
  have hph := hid hp
  have hw1 : IntKind.i64.wrap ((q : Int) + 1) = (q : Int) + 1 := by rw [IntKind.wrap_i64]; omega
  obtain ⟨bI, hbI⟩ : ∃ b, Hid (isI k = b) := ⟨_, hid rfl⟩
  have hnot := hid (show ¬ (bI = true ∧ 1 ≤ k.p ∧ k.p ≤ (q : Int)) from fun h => by
    have h1 := (inN_iff (n := a.length)).2 ⟨hbI.out.trans h.1, h.2.1, by rw [hq.out]; exact h.2.2⟩
    rw [hin] at h1
    cases h1)
  have hnx2 := hid (show ¬ (bI = true ∧ k.p = (q : Int) + 1 ∧ v.k ≠ 0) from fun h => hnx ⟨hbI.out.trans h.1, by rw [hq.out]; exact h.2.1, h.2.2⟩)
  clear h hv hb hN hn hM hk hk0 hin hnx hp
  go_enter Try.func14, Try.ntmps14
  go_wp2_with fail
  refine (val_valid_eq2 hkv.out).mono ?_
  rintro e w1 ⟨rfl, hc1⟩
  have hB1 := hid (hB.out.none_ hc1)
  have hV1 := hid (hV.out.none_ hc1)
  have hC1 := hid (hC.out.trans_same hc1)
  obtain ⟨z0, z1, z2, z3, z4⟩ := V.box hV1.out
  have hzl := hV1.out.lt
  clear hc1 hB hV hC
  go_wp2_with fail
  refine (val_valid_eq2 hvh.out).mono ?_
  rintro e w2 ⟨rfl, hc2⟩
  have hB2 := hid (hB1.out.none_ hc2)
  have hV2 := hid (hV1.out.none_ hc2)
  have hC2 := hid (hC1.out.trans_same hc2)
  clear z0 z1 z2 z3 z4 hzl hc2 hB1 hV1 hC1
  obtain ⟨z0, z1, z2, z3, z4⟩ := V.box hB2.out
  have hzl := hB2.out.lt
  go_wp2_with fail
  refine (integer_any w2 k).mono ?_
  rw [hbI.out]
  rintro e w3 ⟨rfl, hc3⟩
  have hB3 := hid (hB2.out.none_ hc3)
  have hV3 := hid (hV2.out.none_ hc3)
  have hC3 := hid (hC2.out.trans_same hc3)
  obtain ⟨av, c, vs, bm, n, D, hM', hlo', hn'⟩ := hT.out.none_ hC3.out
  have hN3 := hid (Nat.le_trans hNh.out hC3.out.size)
  obtain ⟨A, cap, rfl, -⟩ := hM'.arr.form
  rw [hq.out] at hM' hlo'
  have hM := hid (hM'.none_ ((Chg.refl (fun _ => False) w3).drew))
  have hlo := hid hlo'
  have hnM := hid hn'
  have c0 : w3.cell? ⟨o, 0, none⟩ = some (.slice A q cap) := hM'.blk.cell 0
  have hol := hM'.blk.lt
  have hS8 : Hid (w3.drew.cell? ⟨o, 1, none⟩ = some (.pointer (some ⟨c, 0, none⟩)) ∧ Bk w3.drew w.heap.size 26 k.cs ∧ Bk w3.drew (w.heap.size + 1) 26 v.cs) := hid ⟨hM'.blk.cell 1, hB3.out.drew, hV3.out.drew⟩
  clear z0 z1 z2 z3 z4 hzl hc3 hB2 hV2 hC2 hT hM' hlo' hn'
  obtain ⟨z0, z1, z2, z3, z4⟩ := V.box hV3.out
  have hzl := hV3.out.lt
  obtain ⟨x0, hx0⟩ : ∃ x0 : Nat, x0 = 0 := ⟨0, rfl⟩
  cases bI
  case' true =>
    refine (Classical.em (1 ≤ k.p)).elim ?ge1 ?lt1
    case' ge1 =>
      intro h1
      have t1 : decide ((1 : Int) ≤ k.p) = true := by simpa using h1
      have t2 : decide (k.p ≤ (q : Int)) = false := by
        have := hnot.out
        simp at this ⊢
        exact this h1
      refine (Classical.em (k.p = (q : Int) + 1)).elim ?eq1 ?ne1
      case' eq1 =>
        intro h2
        have t3 : (k.p == (q : Int) + 1) = true := by simpa using h2
        have t4 : (v.k != 0) = false := by
          have := hnx2.out
          simp at this ⊢
          exact this h2
        clear h1 h2
      case' ne1 =>
        intro h2
        have t3 : (k.p == (q : Int) + 1) = false := by simpa using h2
        clear h1 h2
    case' lt1 =>
      intro h1
      have t1 : decide ((1 : Int) ≤ k.p) = false := by simp; omega
      have t3 : (k.p == (q : Int) + 1) = false := by simp; omega
      clear h1
  all_goals
    clear hnot hnx2
    go_wp2_with fail
    refine wp_region_rc (id := 8) [.rd [0, 1, 2, 3, 4, 5]] [6, 7] [] (fun w' => w'.cell? ⟨o, 1, none⟩ = some (.pointer (some ⟨c, 0, none⟩)) ∧ Bk w' w.heap.size 26 k.cs ∧ Bk w' (w.heap.size + 1) 26 v.cs) (by kernel_rfl) 86 rfl (by kernel_rfl) (fun _ _ _ _ _ h => h) hS8.out ?_
    refine steps_rdW ?_
    apply Exists.intro
    refine ⟨?_, ?_⟩
    focus
      rintro w' ⟨c1, hSk, hSv⟩
      obtain ⟨y0, y1, y2, y3, y4⟩ := V.box hSk
      obtain ⟨x0, x1, x2, x3, x4⟩ := V.box hSv
      clear hSk hSv
      iterate 6 (refine stW_step rfl (fun K hK => ?_); go_simp; refine hK _ ?_; clear hK K)
      exact stW_nil rfl
    refine steps_nil (l := [⟨_, _, _, _, _, _⟩, ⟨_, _, _, _, _, _⟩]) rfl (fun K2 hK2 => ?_)
    go_wp2_with fail
    refine (o_set (N := w3.heap.size) (M := M) ⟨vs, bm, n, D, hM.out.mp, fun k hk => .inl hk, hnM.out⟩ (Nat.le_refl _) hnh.out hMh.out hkw.out hph.out).mono ?_
    rintro e w4 ⟨rfl, hO4, hc4⟩
    have h4 := hM.out.mapped hlo.out hN3.out (Nat.le_refl _) hO4 hc4
    have fin := hid (And.intro h4.1 ((hC3.out.drew.mono (T := fun k => S k ∨ N ≤ k) fun _ _ e => e.elim).trans_same h4.2))
    clear h4 hO4 hc4 z0 z1 z2 z3 z4 hzl c0 hol hS8 hM hlo hnM hB3 hV3 hC3
    go_wp2_with fail
    refine hK2 _ _ rfl ?_
    clear hK2 K2
    refine stI_nil ?_
    go_wp2_with fail
    go_ret
    exact ⟨rfl, fin.out.1, fin.out.2⟩
end
end Go.Proofs.Ytoelgnjnbelokaa
