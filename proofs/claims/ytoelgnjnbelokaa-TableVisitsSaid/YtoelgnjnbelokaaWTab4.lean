/-
  Count of a table; the first entry behind a place of the array part.
-/
import Derived.Test.YtoelgnjnbelokaaWTab3
namespace Go.Proofs.Ytoelgnjnbelokaa
open Go.RowKit Go.Maps

theorem o_next {w : World} {S : Nat → Prop} {N o M : Nat} {L : List Sl} (h : One w S N o M L) (hn : L.length ≤ 1000000) {k : V} (hk : k.wf) {x1 x2 : V} {bb : Bool} {e1 : Int} (hx : nextM L k = (x1, x2, bb, e1)) :
    Calls Try.prog 27 #[.pointer (some ⟨o, 0, none⟩), (.agg #[.int .i64 k.k, .int .i64 k.p, .int .i64 k.q, .string k.s, .int .i64 k.r])] w fun e w' => e = .returned (.tuple #[(.agg #[.int .i64 x1.k, .int .i64 x1.p, .int .i64 x1.q, .string x1.s, .int .i64 x1.r]), (.agg #[.int .i64 x2.k, .int .i64 x2.p, .int .i64 x2.q, .string x2.s, .int .i64 x2.r]), .bool bb, .int .i64 e1]) ∧ Chg (fun _ => False) w w' := by
  obtain ⟨vs, bm, n, D, h1, h2, h3⟩ := h
  exact own_next h1 hn hk hx
/-- How many values of the array part are not nil. -/
def cntV (a : List V) : Nat := (a.filter fun v => decide (v.k ≠ 0)).length
theorem cntV_succ {a : List V} {j : Nat} (h : j < a.length) : cntV (a.take (j + 1)) = if (vAt a j).k = 0 then cntV (a.take j) else cntV (a.take j) + 1 := by
  unfold cntV
  rw [List.take_add_one, vAt_get a j h, List.filter_append, List.length_append]
  by_cases hz : (vAt a j).k = 0
  · rw [if_pos hz]; simp [hz]
  · rw [if_neg hz]; simp [hz]
theorem cntV_le (a : List V) : cntV a ≤ a.length := List.length_filter_le _ _
/-- The first place from n on with a value. -/
def firstV (a : List V) (n : Nat) : Option Nat := (List.range a.length).find? fun i => decide (n ≤ i) && decide ((vAt a i).k ≠ 0)
theorem firstV_of {a : List V} {n i : Nat} (h1 : n ≤ i) (h2 : i < a.length) (h3 : (vAt a i).k ≠ 0) (h4 : ∀ j, n ≤ j → j < i → (vAt a j).k = 0) : firstV a n = some i := by
  unfold firstV
  rw [List.find?_range_eq_some]
  refine ⟨by simp [h1, h3], by simpa using h2, fun j hj => ?_⟩
  by_cases hn : n ≤ j
  · simp [h4 j hn hj]
  · simp [hn]
theorem firstV_no {a : List V} {n : Nat} (h : ∀ j, n ≤ j → j < a.length → (vAt a j).k = 0) : firstV a n = none := by
  unfold firstV
  rw [List.find?_eq_none]
  intro j hj
  have hj' : j < a.length := by simpa using hj
  by_cases hn : n ≤ j
  · simp [h j hn hj']
  · simp [hn]
def afterT (a : List V) (m : List Sl) (n : Nat) : V × V × Bool × Int := match firstV a n with
  | some i => (kI ((i : Int) + 1), vAt a i, true, 0)
  | none => nextM m V.zero
/-- The table's array cell and one of its values in memory. -/
def DVal (w : World) (o q cap b o' j : Nat) (x : V) : Prop := (o < w.heap.size ∧ w.cell? ⟨o, 0, none⟩ = some (.slice (some ⟨b, o', none⟩) q cap)) ∧ b < w.heap.size ∧ ∀ i, i < 5 → w.cell? ⟨b, o' + j * 5 + i, none⟩ = x.cs[i]?
theorem DVal.chg {S : Nat → Prop} {w w' : World} {o q cap b o' j : Nat} {x : V} (h : DVal w o q cap b o' j x) (hc : Chg S w w') (h1 : ¬ S o) (h2 : ¬ S b) : DVal w' o q cap b o' j x :=
  ⟨⟨Nat.lt_of_lt_of_le h.1.1 hc.size, (hc.cell (p := ⟨o, 0, none⟩) h.1.1 h1).trans h.1.2⟩, Nat.lt_of_lt_of_le h.2.1 hc.size, fun i hi => (hc.cell (p := ⟨b, o' + j * 5 + i, none⟩) h.2.1 h2).trans (h.2.2 i hi)⟩
section
variable {w w' : World} {S : Nat → Prop} {N o M : Nat} {a : List V} {m : List Sl}
set_option maxRecDepth 100000 in
set_option maxHeartbeats 4000000 in
theorem t_count (h : Tab w S N o M a m) (hb : a.length ≤ 1000000 ∧ m.length ≤ 1000000) {x : Nat} (hx : nOf m + cntV a = x) :
    Calls Try.prog 18 #[.pointer (some ⟨o, 0, none⟩)] w fun e w' => e = .returned (.int .i64 x) ∧ Chg (fun _ => False) w w' := by
  obtain ⟨q, hq⟩ : ∃ q, Hid (a.length = q) := ⟨_, hid rfl⟩
  obtain ⟨n, hn⟩ : ∃ n, Hid (nOf m = n) := ⟨_, hid rfl⟩
  have hT := hid h
  have hxh := hid hx
  have hbq : q ≤ 1000000 := by rw [← hq.out]; exact hb.1
  have hbn : n ≤ 1000000 := by have := nOf_le m; have := hn.out; omega
  obtain ⟨A, cap, c, c0, c1, hVs', hO', -⟩ := h.cells hq.out
  have hO := hid hO'
  have hVs := hid hVs'
  have hol := h.lt
  clear h hx hb hO' hVs'
  go_enter Try.func18, Try.ntmps18
  go_wp2_with fail
  refine (o_len hO.out hn.out).mono ?_
  rintro e w1 ⟨rfl, hw⟩
  subst hw
  go_wp2_with fail
  go_loopw [3, 18] (fun t i wr => ∃ j p : Nat, j ≤ q ∧ p ≤ j ∧ i = .int .i64 j ∧ t = .int .i64 ((n + p : Nat) : Int) ∧ Hid (cntV (a.take j) = p) ∧ Hid (Chg (fun _ => False) w wr)) (fun _ i _ => q - (intOf i).toNat)
  case atStart => exact ⟨0, 0, Nat.zero_le _, Nat.le_refl _, rfl, rfl, hid rfl, hid (Chg.refl _ w)⟩
  case round =>
    obtain ⟨j, p, hj, hp, rfl, rfl, hN, hC⟩ := hrel
    by_cases hlt : j < q
    · obtain ⟨b, o', rfl, hbl, y0, y1, y2, y3, y4⟩ := Vs.at_ (rs := a) (hVs.out.none_ hC.out) (i := j) (by rw [hq.out]; exact hlt)
      obtain ⟨y, hy⟩ : ∃ y, Hid (vAt a j = y) := ⟨_, hid rfl⟩
      rw [hy.out] at y0 y1 y2 y3 y4
      have hcs := hid (cntV_succ (a := a) (j := j) (by rw [hq.out]; exact hlt))
      obtain ⟨bz, hbz⟩ : ∃ b, (y.k != 0) = b := ⟨_, rfl⟩
      cases bz
      case' true =>
        have hN2 : Hid (cntV (a.take (j + 1)) = p + 1) := hid (by rw [hcs.out, if_neg (by rw [hy.out]; simpa using hbz), hN.out])
        go_wp2_with fail
        go_roundw
        case rel => exact ⟨j + 1, p + 1, by omega, by omega, by go_num, by go_num, hN2, hid (hC.out.alloc _)⟩
        case measure => simp [intOf] <;> omega
      case' false =>
        have hN2 : Hid (cntV (a.take (j + 1)) = p) := hid (by rw [hcs.out, if_pos (by rw [hy.out]; simpa using hbz), hN.out])
        go_wp2_with fail
        go_roundw
        case rel => exact ⟨j + 1, p, by omega, by omega, by go_num, by go_num, hN2, hid (hC.out.alloc _)⟩
        case measure => simp [intOf] <;> omega
    · have hjq : j = q := by omega
      subst hjq
      have hxe : Hid (n + p = x) := hid (by rw [← hxh.out, hn.out, ← hN.out, List.take_of_length_le (by rw [hq.out]; exact Nat.le_refl _)])
      go_wp2_with fail
      go_ret
      exact ⟨by rw [← hxe.out]; simp, hC.out⟩
set_option maxRecDepth 100000 in
set_option maxHeartbeats 8000000 in
theorem t_after (h : Tab w S N o M a m) (hb : a.length ≤ 1000000 ∧ m.length ≤ 1000000) (n : Nat) (hn : n ≤ a.length) {x1 x2 : V} {bb : Bool} {e1 : Int} (hx : afterT a m n = (x1, x2, bb, e1)) :
    Calls Try.prog 25 #[.pointer (some ⟨o, 0, none⟩), .int .i64 n] w fun e w' => e = .returned (.tuple #[(.agg #[.int .i64 x1.k, .int .i64 x1.p, .int .i64 x1.q, .string x1.s, .int .i64 x1.r]), (.agg #[.int .i64 x2.k, .int .i64 x2.p, .int .i64 x2.q, .string x2.s, .int .i64 x2.r]), .bool bb, .int .i64 e1]) ∧ Chg (fun _ => False) w w' := by
  obtain ⟨q, hq⟩ : ∃ q, Hid (a.length = q) := ⟨_, hid rfl⟩
  have hT := hid h
  have hxh := hid hx
  have hbq : q ≤ 1000000 := by rw [← hq.out]; exact hb.1
  have hbm := hid hb.2
  rw [hq.out] at hn
  have hol := h.lt
  have hol1 : o < w.heap.size + 1 := by omega
  have hC0 : Hid (Chg (fun _ => False) w ((w.alloc (.cells V.zero.cs.toArray 26)).alloc (.cells V.zero.cs.toArray 26))) := hid (((Chg.refl _ w).alloc _).alloc _)
  have hB0 : Hid (Bk ((w.alloc (.cells V.zero.cs.toArray 26)).alloc (.cells V.zero.cs.toArray 26)) w.heap.size 26 V.zero.cs ∧ Bk ((w.alloc (.cells V.zero.cs.toArray 26)).alloc (.cells V.zero.cs.toArray 26)) (w.heap.size + 1) 26 V.zero.cs) := hid ⟨(Bk.new w 26 V.zero.cs).alloc _, Bk.new_at (w.alloc (.cells V.zero.cs.toArray 26)) 26 V.zero.cs.toArray (w.heap.size + 1) (by simp)⟩
  clear h hx hb
  go_enter Try.func25, Try.ntmps25
  go_wp2_with fail
  go_loopw [8] (fun i wr => ∃ j : Nat, n ≤ j ∧ j ≤ q ∧ i = .int .i64 j ∧ Hid (∀ i, n ≤ i → i < j → (vAt a i).k = 0) ∧ Hid (Chg (fun _ => False) w wr) ∧ Hid (Bk wr w.heap.size 26 V.zero.cs ∧ Bk wr (w.heap.size + 1) 26 V.zero.cs)) (fun i _ => q - (intOf i).toNat)
  case atStart => exact ⟨n, Nat.le_refl _, hn, rfl, hid fun i h1 h2 => absurd h2 (by omega), hC0, hB0⟩
  case round =>
    obtain ⟨j, hnj, hj, rfl, hG, hC, hB⟩ := hrel
    clear hC0 hB0
    obtain ⟨A, cap, c, c0, c1, hVs', hO', -⟩ := (hT.out.none_ hC.out).cells hq.out
    have hO := hid hO'
    have hVs := hid hVs'
    have holr := (hT.out.none_ hC.out).lt
    clear hO' hVs'
    by_cases hlt : j < q
    · obtain ⟨b0, o0, e0, hb0, -⟩ := Vs.at_ (rs := a) hVs.out (i := j) (by rw [hq.out]; exact hlt)
      obtain ⟨g, rfl, hgw⟩ : ∃ g, A = some ⟨g, 0, none⟩ ∧ g < w.heap.size := by
        obtain ⟨A', cap', c', d0, -, hV0, -, -, -, hz⟩ := hT.out.cells hq.out
        obtain ⟨g, rfl⟩ := hz (by omega)
        have d1 := (hC.out.cell (p := ⟨o, 0, none⟩) hol id).trans d0
        rw [c0] at d1
        injection d1 with d1
        injection d1 with d1
        subst d1
        obtain ⟨b1, o1, e1, hb1, -⟩ := Vs.at_ (rs := a) hV0 (i := j) (by rw [hq.out]; exact hlt)
        injection e1 with e1
        injection e1 with e1
        exact ⟨g, rfl, by omega⟩
      have hgwh := hid hgw
      clear e0 hb0 hgw
      obtain ⟨b, o', e0, hbl, y0, y1, y2, y3, y4⟩ := Vs.at_ (rs := a) hVs.out (i := j) (by rw [hq.out]; exact hlt)
      obtain ⟨rfl, rfl⟩ : g = b ∧ 0 = o' := by injection e0 with e0; injection e0 with e1 e2; exact ⟨e1, e2⟩
      clear e0
      obtain ⟨y, hy⟩ : ∃ y, Hid (vAt a j = y) := ⟨_, hid rfl⟩
      rw [hy.out] at y0 y1 y2 y3 y4
      have hDw : Hid (DVal wr o q cap g 0 j y) := hid ⟨⟨holr, c0⟩, hbl, fun i hi => by
        match i, hi with
        | 0, _ => exact y0
        | 1, _ => exact y1
        | 2, _ => exact y2
        | 3, _ => exact y3
        | 4, _ => exact y4⟩
      simp only [Nat.zero_add] at y0 y1 y2 y3 y4
      obtain ⟨bz, hbz⟩ : ∃ b, (y.k != 0) = b := ⟨_, rfl⟩
      cases bz
      case' false =>
        have hG2 : Hid (∀ i, n ≤ i → i < j + 1 → (vAt a i).k = 0) := hid fun i h1 h2 => by
          by_cases e : i = j
          · subst e; rw [hy.out]; simpa using hbz
          · exact hG.out i h1 (by omega)
        go_wp2_with fail
        go_roundw
        case rel => exact ⟨j + 1, by omega, by omega, by go_num, hG2, hC, hB⟩
        case measure => simp [intOf] <;> omega
      case' true =>
        have hres : Hid (afterT a m n = (kI ((j : Int) + 1), y, true, 0)) := hid (by
          unfold afterT
          rw [firstV_of hnj (by rw [hq.out]; exact hlt) (by rw [hy.out]; simpa using hbz) hG.out, ← hy.out])
        have hqq := hid (hxh.out.symm.trans hres.out)
        have hS0 : Hid (DVal wr.drew o q cap g 0 j y) := hid (hDw.out.chg (S := fun _ => False) ((Chg.refl _ wr).drew) id id)
        have hw1 : IntKind.i64.wrap ((j : Int) + 1) = (j : Int) + 1 := by rw [IntKind.wrap_i64]; omega
        have hlz : w.heap.size + 1 < wr.heap.size := hB.out.2.lt
        go_wp2_with fail
        clear y0 y1 y2 y3 y4 c0 c1
        refine wp_region_rc (id := 5) [.rd [0, 1, 3, 4, 5, 6, 7, 8, 9], .act 2, .act 10] [11, 12, 13] [] (fun w' => DVal w' o q cap g 0 j y) (by kernel_rfl) 48 rfl (by kernel_rfl) (fun _ _ _ _ _ h => h) hS0.out ?_
        refine steps_rdW ?_
        apply Exists.intro
        refine ⟨?_, ?_⟩
        focus
          rintro w' ⟨⟨-, c0⟩, -, hSb⟩
          have y0 := hSb 0 (by omega)
          have y1 := hSb 1 (by omega)
          have y2 := hSb 2 (by omega)
          have y3 := hSb 3 (by omega)
          have y4 := hSb 4 (by omega)
          simp only [V.cs, List.getElem?_cons_succ, List.getElem?_cons_zero, Nat.add_zero, Nat.zero_add] at y0 y1 y2 y3 y4
          clear hSb
          iterate 9 (refine stW_step rfl (fun K hK => ?_); go_simp; refine hK _ ?_; clear hK K)
          exact stW_nil rfl
        refine steps_act (o := ⟨_, _, _, _, _, _⟩) rfl (fun K2 hK2 => ?_)
        go_wp2_with fail
        refine (ofInt_any wr.drew ((j : Int) + 1) (by omega) (by omega)).mono ?_
        rintro e w2 ⟨rfl, hc2⟩
        have hS2 := hid (hS0.out.chg (S := fun _ => False) hc2 id id)
        have hC2 := hid (hC.out.drew.trans_same hc2)
        have hB2 := hid (And.intro (hB.out.1.drew.none_ hc2) (hB.out.2.drew.none_ hc2))
        clear hc2 hS0 hC hB
        go_wp2_with fail
        refine hK2 _ _ hS2.out rfl ?_
        clear hK2 K2
        obtain ⟨z0, z1, z2, z3, z4⟩ := V.box hB2.out.1
        have hfz := fun j => hB2.out.1.frozen j
        obtain ⟨v0, v1, v2, v3, v4⟩ := V.box hB2.out.2
        have hfv := fun j => hB2.out.2.frozen j
        have hlz2 : w.heap.size + 1 < w2.heap.size := hB2.out.2.lt
        have hlz3 : w.heap.size < w2.heap.size := by omega
        simp only [V.zero] at z0 z1 z2 z3 z4 v0 v1 v2 v3 v4
        have hS3 : Hid (DVal (put5 w2 w.heap.size 0 (kI ((j : Int) + 1))) o q cap g 0 j y) := hid (hS2.out.chg (S := fun k => k = w.heap.size) (put5_chg w2 w.heap.size 0 _) (fun (e : o = w.heap.size) => by omega) (fun (e : g = w.heap.size) => by have := hgwh.out; omega))
        refine steps_act (o := ⟨_, _, _, _, _, _⟩) rfl (fun K2 hK2 => ?_)
        go_wp2_with fail
        refine hK2 _ _ hS3.out rfl ?_
        clear hK2 K2
        refine steps_nil (l := [⟨_, _, _, _, _, _⟩, ⟨_, _, _, _, _, _⟩, ⟨_, _, _, _, _, _⟩]) rfl (fun K2 hK2 => ?_)
        go_wp2_with fail
        refine hK2 _ _ rfl ?_
        clear hK2 K2
        refine stI_nil ?_
        go_wp2_with fail
        refine ret_vvbe (t1 := 4) (t2 := 5) (u1 := 6) (u2 := 7) (b1 := w.heap.size) (b2 := w.heap.size + 1) (x1 := kI ((j : Int) + 1)) (x2 := y) rfl rfl rfl rfl rfl rfl ((put5_bk (y := kI ((j : Int) + 1)) hB2.out.1).chg (put5_chg _ (w.heap.size + 1) 0 y) (by omega)) (put5_bk (y := y) (hB2.out.2.chg (put5_chg _ w.heap.size 0 (kI ((j : Int) + 1))) (by omega))) ⟨by
          have e := hqq.out
          simp only [Prod.mk.injEq] at e
          obtain ⟨rfl, rfl, rfl, rfl⟩ := e
          rfl, ?_⟩
        exact (hC2.out.trans (put5_chg _ w.heap.size 0 (kI ((j : Int) + 1))) (fun i hi e => by omega)).trans (put5_chg _ (w.heap.size + 1) 0 y) (fun i hi e => by omega)
    · have hjq : j = q := by omega
      subst hjq
      have hres : Hid (nextM m V.zero = (x1, x2, bb, e1)) := hid (by
        have h1 := hxh.out
        unfold afterT at h1
        rw [firstV_no (fun i h1 h2 => hG.out i h1 (by rw [hq.out] at h2; exact h2))] at h1
        exact h1)
      go_wp2_with fail
      refine (o_next hO.out hbm.out zero_wf hres.out).mono ?_
      rintro e w2 ⟨rfl, hc2⟩
      have hC2 := hid (hC.out.trans_same hc2)
      have hB2 := hid (And.intro (hB.out.1.none_ hc2) (hB.out.2.none_ hc2))
      clear hc2 hC hB c0 c1
      obtain ⟨z0, z1, z2, z3, z4⟩ := V.box hB2.out.1
      have hfz := fun j => hB2.out.1.frozen j
      obtain ⟨v0, v1, v2, v3, v4⟩ := V.box hB2.out.2
      have hfv := fun j => hB2.out.2.frozen j
      have hlz2 : w.heap.size + 1 < w2.heap.size := hB2.out.2.lt
      have hlz3 : w.heap.size < w2.heap.size := by omega
      simp only [V.zero] at z0 z1 z2 z3 z4 v0 v1 v2 v3 v4
      go_wp2_with fail
      refine ret_vvbe (t1 := 4) (t2 := 5) (u1 := 6) (u2 := 7) (b1 := w.heap.size) (b2 := w.heap.size + 1) (x1 := x1) (x2 := x2) rfl rfl rfl rfl rfl rfl ((put5_bk (y := x1) hB2.out.1).chg (put5_chg _ (w.heap.size + 1) 0 x2) (by omega)) (put5_bk (y := x2) (hB2.out.2.chg (put5_chg _ w.heap.size 0 x1) (by omega))) ⟨rfl, ?_⟩
      exact (hC2.out.trans (put5_chg _ w.heap.size 0 x1) (fun i hi e => by omega)).trans (put5_chg _ (w.heap.size + 1) 0 x2) (fun i hi e => by omega)
end
end Go.Proofs.Ytoelgnjnbelokaa
