/-
  Get, shrink and Count of a table.
-/
import Derived.Test.YtoelgnjnbelokaaWTab
namespace Go.Proofs.Ytoelgnjnbelokaa
open Go.RowKit Go.Maps

section
variable {w w' : World} {S : Nat → Prop} {N o M : Nat} {a : List V} {m : List Sl}
theorem getT_bad {k : V} (h : vok k = false) : getT a m k = V.zero := by unfold getT; rw [if_pos h]
theorem getT_in {i : Nat} (h : i < a.length) (hq : a.length ≤ 1000000) : getT a m ⟨2, (i : Int) + 1, 1, ⟨#[]⟩, 0⟩ = vAt a i := by
  have h1 := isI_kI (n := (i : Int) + 1) (by omega) (by omega)
  have h2 : inN a.length (kI ((i : Int) + 1)) = true := inN_iff.2 ⟨h1.1, by unfold kI; simp only; omega, by unfold kI; simp only; omega⟩
  unfold getT
  change (if vok (kI ((i : Int) + 1)) = false then V.zero else if inN a.length (kI ((i : Int) + 1)) = true then vAt a (((i : Int) + 1).toNat - 1) else _) = _
  rw [if_neg (by rw [h1.2]; simp), if_pos h2]
  congr 1
theorem getT_out {k : V} (h : vok k = true) (h2 : inN a.length k = false) : getT a m k = getM m k := by unfold getT; rw [if_neg (by rw [h]; simp), if_neg (by rw [h2]; simp)]
set_option maxRecDepth 100000 in
set_option maxHeartbeats 8000000 in
theorem t_get (h : Tab w S N o M a m) (hb : a.length ≤ 1000000) {k : V} (hk : k.wf) {x : V} (hx : getT a m k = x) :
    Calls Try.prog 13 #[.pointer (some ⟨o, 0, none⟩), (.agg #[.int .i64 k.k, .int .i64 k.p, .int .i64 k.q, .string k.s, .int .i64 k.r])] w fun e w' => e = .returned (.agg #[.int .i64 x.k, .int .i64 x.p, .int .i64 x.q, .string x.s, .int .i64 x.r]) ∧ Chg (fun _ => False) w w' := by
  subst hx
  obtain ⟨q, hq⟩ : ∃ q, Hid (a.length = q) := ⟨_, hid rfl⟩
  have hol := h.lt
  cases hv : vok k with
  | false =>
    rw [getT_bad hv]
    have hB := hid (Bk.new_at (w.alloc (.cells k.cs.toArray 26)) 26 V.zero.cs.toArray (w.heap.size + 1) (by simp))
    have hC := hid (((Chg.refl (fun _ => False) w).alloc (.cells k.cs.toArray 26)).alloc (.cells V.zero.cs.toArray 26))
    have hvh := hid hv
    clear h hv hq hb
    go_enter Try.func13, Try.ntmps13
    go_wp2_with fail
    refine (val_valid_eq2 hvh.out).mono ?_
    rintro e w1 ⟨rfl, hc1⟩
    have hB1 := hid (hB.out.none_ hc1)
    have hC1 := hid (hC.out.trans_same hc1)
    obtain ⟨z0, z1, z2, z3, z4⟩ := V.box hB1.out
    have hzl := hB1.out.lt
    have hzf := fun j => hB1.out.frozen j
    simp only [V.zero] at z0 z1 z2 z3 z4
    clear hc1 hB hC
    go_wp2_with fail
    exact ret_val (t := 4) (b := w.heap.size + 1) (x := V.zero) rfl rfl rfl (put5_bk (y := V.zero) hB1.out) ⟨rfl, hC1.out.trans (put5_chg w1 (w.heap.size + 1) 0 V.zero) fun j hj e => by omega⟩
  | true =>
    have hvh := hid hv
    have hB := hid (Bk.new_at (w.alloc (.cells k.cs.toArray 26)) 26 V.zero.cs.toArray (w.heap.size + 1) (by simp))
    have hK := hid ((Bk.new w 26 k.cs).alloc (.cells V.zero.cs.toArray 26))
    have hC := hid (((Chg.refl (fun _ => False) w).alloc (.cells k.cs.toArray 26)).alloc (.cells V.zero.cs.toArray 26))
    have hT := hid h
    have hkw := hid hk
    have hbq : q ≤ 1000000 := by rw [← hq.out]; exact hb
    cases hin : inN a.length k with
    | true =>
      obtain ⟨i', h1, h2, h3, -⟩ := inN_get hin
      obtain ⟨i, rfl⟩ : ∃ i, i' = i + 1 := ⟨i' - 1, by omega⟩
      have hI0 := (inN_iff.1 hin).1
      have h3' : k = ⟨2, (i : Int) + 1, 1, ⟨#[]⟩, 0⟩ := by rw [h3]; unfold kI; simp
      subst h3'
      rw [getT_in (by omega) hb]
      obtain ⟨x, hx⟩ : ∃ x, Hid (vAt a i = x) := ⟨_, hid rfl⟩
      rw [hx.out]
      have hI := hid hI0
      have hiq : i < q := by rw [← hq.out]; omega
      have t1 : decide ((1 : Int) ≤ (i : Int) + 1) = true := by simp; omega
      have t2 : decide ((i : Int) + 1 ≤ (q : Int)) = true := by simp; omega
      have hw1 : IntKind.i64.wrap ((i : Int) + 1 - 1) = (i : Int) := by rw [IntKind.wrap_i64]; omega
      have hw2 : IntKind.i64.wrap (i : Int) = (i : Int) := by rw [IntKind.wrap_i64]; omega
      clear h hv hb hin h1 h2 h3 hI0 hk
      go_enter Try.func13, Try.ntmps13
      go_wp2_with fail
      refine (val_valid_eq2 hvh.out).mono ?_
      rintro e w1 ⟨rfl, hc1⟩
      have hB1 := hid (hB.out.none_ hc1)
      have hK1 := hid (hK.out.none_ hc1)
      have hC1 := hid (hC.out.trans_same hc1)
      obtain ⟨z0, z1, z2, z3, z4⟩ := V.box hK1.out
      have hzl := hK1.out.lt
      clear hc1 hB hC hK
      go_wp2_with fail
      refine (integer_any w1 ⟨2, (i : Int) + 1, 1, ⟨#[]⟩, 0⟩).mono ?_
      rw [hI.out]
      rintro e w2 ⟨rfl, hc2⟩
      have hB2 := hid (hB1.out.none_ hc2)
      have hC2 := hid (hC1.out.trans_same hc2)
      obtain ⟨A, cap, c, c0, c1, hVs, -, -⟩ := (hT.out.none_ hC2.out).cells hq.out
      obtain ⟨b, o', rfl, hbl, y0, y1, y2, y3, y4⟩ := Vs.at_ (rs := a) hVs (i := i) (by rw [hq.out]; exact hiq)
      rw [hx.out] at y0 y1 y2 y3 y4
      have hol2 := (hT.out.none_ hC2.out).lt
      clear z0 z1 z2 z3 z4 hzl
      obtain ⟨z0, z1, z2, z3, z4⟩ := V.box hB2.out
      have hzl := hB2.out.lt
      have hzf := fun j => hB2.out.frozen j
      simp only [V.zero] at z0 z1 z2 z3 z4
      clear hc2 hB1 hK1 hC1 hVs hT
      go_wp2_with fail
      exact ret_val (t := 4) (b := w.heap.size + 1) (x := x) rfl rfl rfl (put5_bk (y := x) hB2.out) ⟨rfl, hC2.out.trans (put5_chg w2 (w.heap.size + 1) 0 x) fun j hj e => by omega⟩
    | false =>
      rw [getT_out hv hin]
      obtain ⟨x, hx⟩ : ∃ x, Hid (getM m k = x) := ⟨_, hid rfl⟩
      rw [hx.out]
      obtain ⟨bI, hbI⟩ : ∃ b, Hid (isI k = b) := ⟨_, hid rfl⟩
      have hnot := hid (show ¬ (bI = true ∧ 1 ≤ k.p ∧ k.p ≤ (q : Int)) from fun h => by
        have h1 := (inN_iff (n := a.length)).2 ⟨hbI.out.trans h.1, h.2.1, by rw [hq.out]; exact h.2.2⟩
        rw [hin] at h1
        cases h1)
      clear h hv hb hin hk
      go_enter Try.func13, Try.ntmps13
      go_wp2_with fail
      refine (val_valid_eq2 hvh.out).mono ?_
      rintro e w1 ⟨rfl, hc1⟩
      have hB1 := hid (hB.out.none_ hc1)
      have hK1 := hid (hK.out.none_ hc1)
      have hC1 := hid (hC.out.trans_same hc1)
      obtain ⟨z0, z1, z2, z3, z4⟩ := V.box hK1.out
      have hzl := hK1.out.lt
      clear hc1 hB hC hK
      go_wp2_with fail
      refine (integer_any w1 k).mono ?_
      rw [hbI.out]
      rintro e w2 ⟨rfl, hc2⟩
      have hB2 := hid (hB1.out.none_ hc2)
      have hK2 := hid (hK1.out.none_ hc2)
      have hC2 := hid (hC1.out.trans_same hc2)
      obtain ⟨A, cap, c, c0, c1, -, hOn, -⟩ := (hT.out.none_ hC2.out).cells hq.out
      have hO := hid (hOn.none_ ((Chg.refl (fun _ => False) w2).drew))
      have hol2 := (hT.out.none_ hC2.out).lt
      have hS0 : Hid (w2.drew.cell? ⟨o, 1, none⟩ = some (.pointer (some ⟨c, 0, none⟩)) ∧ Bk w2.drew w.heap.size 26 k.cs) := hid ⟨c1, hK2.out.drew⟩
      clear z0 z1 z2 z3 z4 hzl hc2 hB1 hK1 hC1 hT hOn
      obtain ⟨x0, hx0⟩ : ∃ x0 : Nat, x0 = 0 := ⟨0, rfl⟩
      cases bI
      case' true =>
        refine (Classical.em (1 ≤ k.p)).elim ?ge1 ?lt1
        case' ge1 =>
          intro h1
          have t1 : decide ((1 : Int) ≤ k.p) = true := by simpa using h1
          have t2 : decide (k.p ≤ (q : Int)) = false := by
            have := hnot.out
            simp at this ⊢
            exact this h1
          clear h1
        case' lt1 =>
          intro h1
          have t1 : decide ((1 : Int) ≤ k.p) = false := by simp; omega
          clear h1
      all_goals
        clear hnot
        go_wp2_with fail
        refine wp_region_rc (id := 6) [.rd [0, 1, 2, 3, 4]] [5, 6] [] (fun w' => w'.cell? ⟨o, 1, none⟩ = some (.pointer (some ⟨c, 0, none⟩)) ∧ Bk w' w.heap.size 26 k.cs) (by kernel_rfl) 48 rfl (by kernel_rfl) (fun _ _ _ _ _ h => h) hS0.out ?_
        refine steps_rdW ?_
        apply Exists.intro
        refine ⟨?_, ?_⟩
        focus
          rintro w' ⟨c1, hSb⟩
          obtain ⟨z0, z1, z2, z3, z4⟩ := V.box hSb
          clear hSb
          iterate 5 (refine stW_step rfl (fun K hK => ?_); go_simp; refine hK _ ?_; clear hK K)
          exact stW_nil rfl
        refine steps_nil (l := [⟨_, _, _, _, _, _⟩, ⟨_, _, _, _, _, _⟩]) rfl (fun K2 hK2 => ?_)
        go_wp2_with fail
        refine (o_get hO.out hkw.out hx.out).mono ?_
        rintro e w3 ⟨rfl, hc3⟩
        have hB3 := hid (hB2.out.drew.none_ hc3)
        have hC3 := hid (hC2.out.drew.trans_same hc3)
        obtain ⟨z0, z1, z2, z3, z4⟩ := V.box hB3.out
        have hzl := hB3.out.lt
        have hzf := fun j => hB3.out.frozen j
        simp only [V.zero] at z0 z1 z2 z3 z4
        clear hc3 hB2 hC2
        go_wp2_with fail
        refine hK2 _ _ rfl ?_
        clear hK2 K2
        refine stI_nil ?_
        go_wp2_with fail
        exact ret_val (t := 4) (b := w.heap.size + 1) (x := x) rfl rfl rfl (put5_bk (y := x) hB3.out) ⟨rfl, hC3.out.trans (put5_chg w3 (w.heap.size + 1) 0 x) fun j hj e => by omega⟩
end
end Go.Proofs.Ytoelgnjnbelokaa
