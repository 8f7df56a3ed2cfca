/-
  Next of the reference's table: it ends, and changes nothing.
-/
import Derived.Deep.DeepCutAuto
import Derived.Deep.CutBlock
import Derived.Test.YtoelgnjnbelokaaRPurge
namespace Go.Proofs.Ytoelgnjnbelokaa
open Go.RowKit Go.Maps

/-- What stands on the way to the entry after a key. -/
structure RNextPk (w0 w : World) (r c h : Nat) (k : V) (S : Nat → Prop) (N : Nat) (m : List Sl) : Prop where
  st : w.cell? ⟨r, 1, none⟩ = some (.pointer (some ⟨c, 0, none⟩)) ∧ Bk w h 26 k.cs
  ol : r < w.heap.size
  one : ROne w S N c m
  chg : Chg (fun _ => False) w0 w
theorem RNextPk.none_ {w0 w w' : World} {r c h : Nat} {k : V} {S : Nat → Prop} {N : Nat} {m : List Sl} (h' : RNextPk w0 w r c h k S N m) (hc : Chg (fun _ => False) w w') : RNextPk w0 w' r c h k S N m :=
  ⟨⟨(hc.cell (p := ⟨r, 1, none⟩) h'.ol id).trans h'.st.1, h'.st.2.none_ hc⟩, Nat.lt_of_lt_of_le h'.ol hc.size, h'.one.none_ hc, h'.chg.trans_same hc⟩
section
variable {w w' : World} {S : Nat → Prop} {N r : Nat} {a : List V} {m : List Sl}
set_option maxRecDepth 100000 in
set_option maxHeartbeats 32000000 in
theorem r_next (h : RTab w S N r a m) (hb : a.length ≤ 1000000 ∧ m.length ≤ 1000000) (k : V) :
    Calls Try.prog 47 #[.pointer (some ⟨r, 0, none⟩), (.agg #[.int .i64 k.k, .int .i64 k.p, .int .i64 k.q, .string k.s, .int .i64 k.r])] w fun e w' => ∃ (x1 x2 : V) (b : Bool) (y : Int), e = .returned (.tuple #[(.agg #[.int .i64 x1.k, .int .i64 x1.p, .int .i64 x1.q, .string x1.s, .int .i64 x1.r]), (.agg #[.int .i64 x2.k, .int .i64 x2.p, .int .i64 x2.q, .string x2.s, .int .i64 x2.r]), .bool b, .int .i64 y]) ∧ Chg (fun _ => False) w w' := by
  obtain ⟨q, hq⟩ : ∃ q, Hid (a.length = q) := ⟨_, hid rfl⟩
  have hT := hid h
  have hbm := hid hb.2
  have hbq : q ≤ 1000000 := by rw [← hq.out]; exact hb.1
  have hol := h.lt
  have hC0 : Hid (Chg (fun _ => False) w (((w.alloc (.cells k.cs.toArray 26)).alloc (.cells V.zero.cs.toArray 26)).alloc (.cells V.zero.cs.toArray 26))) := hid ((((Chg.refl _ w).alloc _).alloc _).alloc _)
  have hK0 : Hid (Bk (((w.alloc (.cells k.cs.toArray 26)).alloc (.cells V.zero.cs.toArray 26)).alloc (.cells V.zero.cs.toArray 26)) w.heap.size 26 k.cs) := hid (((Bk.new w 26 k.cs).alloc _).alloc _)
  have hB0 : Hid (Bk (((w.alloc (.cells k.cs.toArray 26)).alloc (.cells V.zero.cs.toArray 26)).alloc (.cells V.zero.cs.toArray 26)) (w.heap.size + 1) 26 V.zero.cs ∧ Bk (((w.alloc (.cells k.cs.toArray 26)).alloc (.cells V.zero.cs.toArray 26)).alloc (.cells V.zero.cs.toArray 26)) (w.heap.size + 1 + 1) 26 V.zero.cs) := hid ⟨by have := (Bk.new (w.alloc (.cells k.cs.toArray 26)) 26 V.zero.cs).alloc (.cells V.zero.cs.toArray 26); rw [alloc_sz] at this; exact this, by have := Bk.new ((w.alloc (.cells k.cs.toArray 26)).alloc (.cells V.zero.cs.toArray 26)) 26 V.zero.cs; rw [alloc_sz, alloc_sz] at this; exact this⟩
  have hT0 := hid (h.none_ hC0.out)
  have hgw0 : Hid (∀ w2, Chg (fun _ => False) w w2 → ∀ A cap, w2.cell? ⟨r, 0, none⟩ = some (.slice A q cap) → ∀ g o', A = some ⟨g, o', none⟩ → g < w.heap.size) := hid fun w2 hc A cap h0 g o' hA => by
    obtain ⟨av, c, vs, h1, h2⟩ := h
    obtain ⟨A', cap', rfl, -, -, -, hz, hfr⟩ := h1.arr.form
    rw [hc.cell (p := ⟨r, 0, none⟩) h1.blk.lt id, h1.blk.cell 0] at h0
    injection h0 with h0
    injection h0 with h0
    subst h0
    subst hA
    rcases h1.arr with ⟨e, -⟩ | ⟨g2, cap2, cur, e, hb2, -⟩
    · injection e with e; cases e
    · injection e with e; injection e with e; injection e with e1 e2; rw [e1]; exact hb2.lt
  clear h hb
  by_cases hz : k = V.zero
  · subst hz
    have hwh : Hid (wholeI V.zero = 0) := hid rfl
    clear hK0
    show Calls Try.prog 47 #[.pointer (some ⟨r, 0, none⟩), (.agg #[.int .i64 0, .int .i64 0, .int .i64 0, .string ⟨#[]⟩, .int .i64 0])] w _
    go_enter Try.func47, Try.ntmps47
    go_wp2_with fail
    refine (whole_any _ V.zero hwh.out).mono ?_
    rintro e w2 ⟨rfl, hc2⟩
    have hC2 := hid (hC0.out.trans_same hc2)
    have hB2 := hid (And.intro (hB0.out.1.none_ hc2) (hB0.out.2.none_ hc2))
    have hT2 := hid (hT0.out.none_ hc2)
    obtain ⟨A, cap, c, c0, c1, hVs', hO', -⟩ := hT2.out.cells hq.out
    have hO := hid hO'
    have hVs := hid hVs'
    have hol2 := hT2.out.lt
    have hgw := hid (hgw0.out w2 hC2.out A cap c0)
    have hKz := hid ((show Bk (((w.alloc (.cells V.zero.cs.toArray 26)).alloc (.cells V.zero.cs.toArray 26)).alloc (.cells V.zero.cs.toArray 26)) w.heap.size 26 V.zero.cs from ((Bk.new w 26 V.zero.cs).alloc _).alloc _).none_ hc2)
    obtain ⟨k0, k1, k2, k3, k4⟩ := V.box hKz.out
    have hkl := hKz.out.lt
    simp only [V.zero] at k0 k1 k2 k3 k4
    clear hc2 hC0 hB0 hT0 hO' hVs' hT hgw0
    go_wp2_with fail
    go_loopw [9] (fun s wr => ∃ j : Nat, j ≤ q ∧ s = .int .i64 (j : Int) ∧ wr = w2) (fun s _ => q - (intOf s).toNat)
    case atStart => exact ⟨0, by omega, by first | rfl | go_num, rfl⟩
    case round =>
      obtain ⟨j, hj, rfl, rfl⟩ := hrel
      rename World => w2
      refine (Classical.em (j < q)).elim ?more0 ?done0
      case' more0 =>
        intro hlt
        obtain ⟨g, o', rfl, hgl, y0, y1, y2, y3, y4⟩ := Vs.at_ (rs := a) hVs.out (i := j) (by rw [hq.out]; exact hlt)
        obtain ⟨y, hy⟩ : ∃ y, Hid (vAt a j = y) := ⟨_, hid rfl⟩
        rw [hy.out] at y0 y1 y2 y3 y4
        have hDw : Hid (DVal w2 r q cap g o' j y) := hid ⟨⟨hol2, c0⟩, hgl, fun i hi => by
          match i, hi with
          | 0, _ => exact y0
          | 1, _ => exact y1
          | 2, _ => exact y2
          | 3, _ => exact y3
          | 4, _ => exact y4⟩
        obtain ⟨bz, hbz⟩ : ∃ b, (y.k != 0) = b := ⟨_, rfl⟩
        have hgw := hid (hgw.out g o' rfl)
        cases bz
        case' false =>
          go_wp2_with fail
          go_roundw
          case rel => exact ⟨j + 1, by omega, by go_num, by first | rfl | trivial⟩
          case measure => simp [intOf] <;> omega
        case' true =>
          have hS0 : Hid (DVal w2.drew r q cap g o' j y) := hid (hDw.out.chg (S := fun _ => False) ((Chg.refl _ w2).drew) id id)
          have hw1 : IntKind.i64.wrap ((j : Int) + 1) = (j : Int) + 1 := by rw [IntKind.wrap_i64]; omega
          go_wp2_with fail
          clear y0 y1 y2 y3 y4 c0 c1
          refine wp_region_rc (id := 11) [.rd [0, 1, 3, 4, 5, 6, 7, 8, 9], .act 2, .act 10] [11, 12, 13] [] (fun w' => DVal w' r q cap g o' j y) (by kernel_rfl) 116 rfl (by kernel_rfl) (fun _ _ _ _ _ h => h) hS0.out ?_
          refine steps_rdW ?_
          apply Exists.intro
          refine ⟨?_, ?_⟩
          focus
            rintro w' ⟨⟨-, c0⟩, -, hSb⟩
            have y0 := hSb 0 (by omega)
            have y1 := hSb 1 (by omega)
            have y2 := hSb 2 (by omega)
            have y3 := hSb 3 (by omega)
            have y4 := hSb 4 (by omega)
            simp only [V.cs, List.getElem?_cons_succ, List.getElem?_cons_zero, Nat.add_zero] at y0 y1 y2 y3 y4
            clear hSb
            iterate 9 (refine stW_step rfl (fun K hK => ?_); go_simp; refine hK _ ?_; clear hK K)
            exact stW_nil rfl
          refine steps_act (o := ⟨_, _, _, _, _, _⟩) rfl (fun K2 hK2 => ?_)
          go_wp2_with fail
          refine (ref_key w2.drew ((j : Int) + 1) (by omega) (by omega)).mono ?_
          rintro e w3 ⟨rfl, hc3⟩
          have hS2 := hid (hS0.out.chg (S := fun _ => False) hc3 id id)
          have hC3 := hid (hC2.out.drew.trans_same hc3)
          have hB3 := hid (And.intro (hB2.out.1.drew.none_ hc3) (hB2.out.2.drew.none_ hc3))
          clear hc3 hS0
          go_wp2_with fail
          refine hK2 _ _ hS2.out rfl ?_
          clear hK2 K2
          obtain ⟨z0, z1, z2, z3, z4⟩ := V.box hB3.out.1
          have hfz := fun j => hB3.out.1.frozen j
          obtain ⟨v0, v1, v2, v3, v4⟩ := V.box hB3.out.2
          have hfv := fun j => hB3.out.2.frozen j
          have hlz2 : w.heap.size + 1 + 1 < w3.heap.size := hB3.out.2.lt
          have hlz3 : w.heap.size + 1 < w3.heap.size := by omega
          simp only [V.zero] at z0 z1 z2 z3 z4 v0 v1 v2 v3 v4
          have hS3 : Hid (DVal (put5 w3 (w.heap.size + 1) 0 (kI ((j : Int) + 1))) r q cap g o' j y) := hid (hS2.out.chg (S := fun k => k = w.heap.size + 1) (put5_chg w3 (w.heap.size + 1) 0 _) (fun (e : r = w.heap.size + 1) => by omega) (fun (e : g = w.heap.size + 1) => by have := hgw.out; omega))
          refine steps_act (o := ⟨_, _, _, _, _, _⟩) rfl (fun K2 hK2 => ?_)
          go_wp2_with fail
          refine hK2 _ _ hS3.out rfl ?_
          clear hK2 K2
          refine steps_nil (l := [⟨_, _, _, _, _, _⟩, ⟨_, _, _, _, _, _⟩, ⟨_, _, _, _, _, _⟩]) rfl (fun K2 hK2 => ?_)
          go_wp2_with fail
          refine hK2 _ _ rfl ?_
          clear hK2 K2
          refine stI_nil ?_
          go_wp2_with fail
          refine ret_vvbe (t1 := 4) (t2 := 5) (u1 := 6) (u2 := 7) (b1 := w.heap.size + 1) (b2 := w.heap.size + 1 + 1) (x1 := kI ((j : Int) + 1)) (x2 := y) rfl rfl rfl rfl rfl rfl ((put5_bk (y := kI ((j : Int) + 1)) hB3.out.1).chg (put5_chg _ (w.heap.size + 1 + 1) 0 y) (by omega)) (put5_bk (y := y) (hB3.out.2.chg (put5_chg _ (w.heap.size + 1) 0 (kI ((j : Int) + 1))) (by omega))) ⟨_, _, _, _, rfl, ?_⟩
          exact (hC3.out.trans (put5_chg _ (w.heap.size + 1) 0 (kI ((j : Int) + 1))) (fun i hi e => by omega)).trans (put5_chg _ (w.heap.size + 1 + 1) 0 y) (fun i hi e => by omega)
      case' done0 =>
        intro hlt
        obtain rfl : j = q := by omega
        have t9 : decide ((j : Int) < (j : Int)) = false := decide_eq_false (by omega)
        obtain ⟨p1, p2, p3, p4, hz0⟩ : ∃ p1 p2 p3 p4, Hid (nextM m V.zero = (p1, p2, p3, p4)) := ⟨_, _, _, _, hid rfl⟩
        clear hVs hgw
        go_wp2_with fail
        refine (hO.out.next hbm.out hz0.out).mono ?_
        rintro e w4 ⟨rfl, hc4⟩
        have hC4 := hid (hC2.out.trans_same hc4)
        have hB4 := hid (And.intro (hB2.out.1.none_ hc4) (hB2.out.2.none_ hc4))
        clear hc4 c1 c0
        obtain ⟨z0, z1, z2, z3, z4⟩ := V.box hB4.out.1
        have hfz := fun j => hB4.out.1.frozen j
        obtain ⟨v0, v1, v2, v3, v4⟩ := V.box hB4.out.2
        have hfv := fun j => hB4.out.2.frozen j
        have hlz : w.heap.size + 1 + 1 < w4.heap.size := hB4.out.2.lt
        have hlz1 : w.heap.size + 1 < w4.heap.size := by omega
        simp only [V.zero] at z0 z1 z2 z3 z4 v0 v1 v2 v3 v4
        go_wp2_with fail
        refine ret_vvbe (t1 := 4) (t2 := 5) (u1 := 6) (u2 := 7) (b1 := w.heap.size + 1) (b2 := w.heap.size + 1 + 1) (x1 := p1) (x2 := p2) rfl rfl rfl rfl rfl rfl ((put5_bk (y := p1) hB4.out.1).chg (put5_chg _ (w.heap.size + 1 + 1) 0 p2) (by omega)) (put5_bk (y := p2) (hB4.out.2.chg (put5_chg _ (w.heap.size + 1) 0 p1) (by omega))) ⟨_, _, _, _, rfl, ?_⟩
        exact (hC4.out.trans (put5_chg _ (w.heap.size + 1) 0 p1) (fun i hi e => by omega)).trans (put5_chg _ (w.heap.size + 1 + 1) 0 p2) (fun i hi e => by omega)
  · by_cases hk0 : k.k = 0
    · have hwh : Hid (wholeI k = 0) := hid (by unfold wholeI isI; simp [hk0])
      obtain ⟨kk, kp, kq, ks, kr⟩ := k
      have hcs := V.parts hz
      simp only at hcs hk0
      subst hk0
      replace hcs := hcs.resolve_left (by simp)
      clear hz hgw0
      rcases hcs with ⟨-, h⟩ | ⟨-, rfl, h⟩ | ⟨-, rfl, rfl, h⟩ | ⟨-, rfl, rfl, rfl, h⟩
      case' inr.inr.inl => have h : ¬ ks.toList = [] := fun e => h (bytes_nil e)
      all_goals
        go_enter Try.func47, Try.ntmps47
        go_wp2_with fail
        refine (whole_any _ _ hwh.out).mono ?_
        rintro e w4 ⟨rfl, hc2⟩
        have hC4 := hid (hC0.out.trans_same hc2)
        have hK4 := hid (hK0.out.none_ hc2)
        have hB4 := hid (And.intro (hB0.out.1.none_ hc2) (hB0.out.2.none_ hc2))
        obtain ⟨k0, k1, k2, k3, k4⟩ := V.box hK4.out
        have hkl := hK4.out.lt
        have ⟨p1, hp1⟩ : ∃ p1 : V, p1 = V.zero := ⟨_, rfl⟩
        clear hc2 hC0 hB0 hT0 hK0 hT
        simp only at k0 k1 k2 k3 k4
        obtain ⟨z0, z1, z2, z3, z4⟩ := V.box hB4.out.1
        have hfz := fun j => hB4.out.1.frozen j
        obtain ⟨v0, v1, v2, v3, v4⟩ := V.box hB4.out.2
        have hfv := fun j => hB4.out.2.frozen j
        have hlz : w.heap.size + 1 + 1 < w4.heap.size := hB4.out.2.lt
        have hlz1 : w.heap.size + 1 < w4.heap.size := by omega
        simp only [V.zero] at z0 z1 z2 z3 z4 v0 v1 v2 v3 v4
        go_wp2_with fail
        refine ret_vvbe (t1 := 4) (t2 := 5) (u1 := 6) (u2 := 7) (b1 := w.heap.size + 1) (b2 := w.heap.size + 1 + 1) (x1 := V.zero) (x2 := V.zero) rfl rfl rfl rfl rfl rfl ((put5_bk (y := V.zero) hB4.out.1).chg (put5_chg _ (w.heap.size + 1 + 1) 0 V.zero) (by omega)) (put5_bk (y := V.zero) (hB4.out.2.chg (put5_chg _ (w.heap.size + 1) 0 V.zero) (by omega))) ⟨_, _, _, _, rfl, ?_⟩
        exact (hC4.out.trans (put5_chg _ (w.heap.size + 1) 0 V.zero) (fun i hi e => by omega)).trans (put5_chg _ (w.heap.size + 1 + 1) 0 V.zero) (fun i hi e => by omega)
    · have e0 : (k.k == 0) = false := by simpa using hk0
      obtain ⟨p, hwh⟩ : ∃ p, Hid (wholeI k = p) := ⟨_, hid rfl⟩
      clear hz hk0
      go_enter Try.func47, Try.ntmps47
      go_wp2_with fail
      refine (whole_any _ k hwh.out).mono ?_
      rintro e w2 ⟨rfl, hc2⟩
      have hC2 := hid (hC0.out.trans_same hc2)
      have hK2 := hid (hK0.out.none_ hc2)
      have hB2 := hid (And.intro (hB0.out.1.none_ hc2) (hB0.out.2.none_ hc2))
      have hT2 := hid (hT0.out.none_ hc2)
      obtain ⟨A, cap, c, c0, c1, hVs', hO', -⟩ := hT2.out.cells hq.out
      have hO := hid hO'
      have hVs := hid hVs'
      have hol2 := hT2.out.lt
      have hc1h := hid c1
      have hgw := hid (hgw0.out w2 hC2.out A cap c0)
      obtain ⟨k0, k1, k2, k3, k4⟩ := V.box hK2.out
      have hkl := hK2.out.lt
      clear hc2 hC0 hB0 hK0 hT0 hO' hVs' hgw0 hT
      by_cases hin : 1 ≤ p ∧ p ≤ (q : Int)
      · obtain ⟨pn, rfl⟩ := Int.eq_ofNat_of_zero_le (show 0 ≤ p by omega)
        have t1 : decide ((1 : Int) ≤ (pn : Int)) = true := decide_eq_true (by omega)
        have t2 : decide ((pn : Int) ≤ (q : Int)) = true := decide_eq_true (by omega)
        have hpq : pn ≤ q := by omega
        clear hin
        go_wp2_with fail
        go_loopw [9] (fun s wr => ∃ j : Nat, j ≤ q ∧ s = .int .i64 (j : Int) ∧ wr = w2) (fun s _ => q - (intOf s).toNat)
        case atStart => exact ⟨pn, by omega, by first | rfl | go_num, rfl⟩
        case round =>
          obtain ⟨j, hj, rfl, rfl⟩ := hrel
          rename World => w2
          refine (Classical.em (j < q)).elim ?morepn ?donepn
          case' morepn =>
            intro hlt
            obtain ⟨g, o', rfl, hgl, y0, y1, y2, y3, y4⟩ := Vs.at_ (rs := a) hVs.out (i := j) (by rw [hq.out]; exact hlt)
            obtain ⟨y, hy⟩ : ∃ y, Hid (vAt a j = y) := ⟨_, hid rfl⟩
            rw [hy.out] at y0 y1 y2 y3 y4
            have hDw : Hid (DVal w2 r q cap g o' j y) := hid ⟨⟨hol2, c0⟩, hgl, fun i hi => by
              match i, hi with
              | 0, _ => exact y0
              | 1, _ => exact y1
              | 2, _ => exact y2
              | 3, _ => exact y3
              | 4, _ => exact y4⟩
            obtain ⟨bz, hbz⟩ : ∃ b, (y.k != 0) = b := ⟨_, rfl⟩
            have hgw := hid (hgw.out g o' rfl)
            cases bz
            case' false =>
              go_wp2_with fail
              go_roundw
              case rel => exact ⟨j + 1, by omega, by go_num, by first | rfl | trivial⟩
              case measure => simp [intOf] <;> omega
            case' true =>
              have hS0 : Hid (DVal w2.drew r q cap g o' j y) := hid (hDw.out.chg (S := fun _ => False) ((Chg.refl _ w2).drew) id id)
              have hw1 : IntKind.i64.wrap ((j : Int) + 1) = (j : Int) + 1 := by rw [IntKind.wrap_i64]; omega
              go_wp2_with fail
              clear y0 y1 y2 y3 y4 c0 c1
              refine wp_region_rc (id := 11) [.rd [0, 1, 3, 4, 5, 6, 7, 8, 9], .act 2, .act 10] [11, 12, 13] [] (fun w' => DVal w' r q cap g o' j y) (by kernel_rfl) 116 rfl (by kernel_rfl) (fun _ _ _ _ _ h => h) hS0.out ?_
              refine steps_rdW ?_
              apply Exists.intro
              refine ⟨?_, ?_⟩
              focus
                rintro w' ⟨⟨-, c0⟩, -, hSb⟩
                have y0 := hSb 0 (by omega)
                have y1 := hSb 1 (by omega)
                have y2 := hSb 2 (by omega)
                have y3 := hSb 3 (by omega)
                have y4 := hSb 4 (by omega)
                simp only [V.cs, List.getElem?_cons_succ, List.getElem?_cons_zero, Nat.add_zero] at y0 y1 y2 y3 y4
                clear hSb
                iterate 9 (refine stW_step rfl (fun K hK => ?_); go_simp; refine hK _ ?_; clear hK K)
                exact stW_nil rfl
              refine steps_act (o := ⟨_, _, _, _, _, _⟩) rfl (fun K2 hK2 => ?_)
              go_wp2_with fail
              refine (ref_key w2.drew ((j : Int) + 1) (by omega) (by omega)).mono ?_
              rintro e w3 ⟨rfl, hc3⟩
              have hS2 := hid (hS0.out.chg (S := fun _ => False) hc3 id id)
              have hC3 := hid (hC2.out.drew.trans_same hc3)
              have hB3 := hid (And.intro (hB2.out.1.drew.none_ hc3) (hB2.out.2.drew.none_ hc3))
              clear hc3 hS0
              go_wp2_with fail
              refine hK2 _ _ hS2.out rfl ?_
              clear hK2 K2
              obtain ⟨z0, z1, z2, z3, z4⟩ := V.box hB3.out.1
              have hfz := fun j => hB3.out.1.frozen j
              obtain ⟨v0, v1, v2, v3, v4⟩ := V.box hB3.out.2
              have hfv := fun j => hB3.out.2.frozen j
              have hlz2 : w.heap.size + 1 + 1 < w3.heap.size := hB3.out.2.lt
              have hlz3 : w.heap.size + 1 < w3.heap.size := by omega
              simp only [V.zero] at z0 z1 z2 z3 z4 v0 v1 v2 v3 v4
              have hS3 : Hid (DVal (put5 w3 (w.heap.size + 1) 0 (kI ((j : Int) + 1))) r q cap g o' j y) := hid (hS2.out.chg (S := fun k => k = w.heap.size + 1) (put5_chg w3 (w.heap.size + 1) 0 _) (fun (e : r = w.heap.size + 1) => by omega) (fun (e : g = w.heap.size + 1) => by have := hgw.out; omega))
              refine steps_act (o := ⟨_, _, _, _, _, _⟩) rfl (fun K2 hK2 => ?_)
              go_wp2_with fail
              refine hK2 _ _ hS3.out rfl ?_
              clear hK2 K2
              refine steps_nil (l := [⟨_, _, _, _, _, _⟩, ⟨_, _, _, _, _, _⟩, ⟨_, _, _, _, _, _⟩]) rfl (fun K2 hK2 => ?_)
              go_wp2_with fail
              refine hK2 _ _ rfl ?_
              clear hK2 K2
              refine stI_nil ?_
              go_wp2_with fail
              refine ret_vvbe (t1 := 4) (t2 := 5) (u1 := 6) (u2 := 7) (b1 := w.heap.size + 1) (b2 := w.heap.size + 1 + 1) (x1 := kI ((j : Int) + 1)) (x2 := y) rfl rfl rfl rfl rfl rfl ((put5_bk (y := kI ((j : Int) + 1)) hB3.out.1).chg (put5_chg _ (w.heap.size + 1 + 1) 0 y) (by omega)) (put5_bk (y := y) (hB3.out.2.chg (put5_chg _ (w.heap.size + 1) 0 (kI ((j : Int) + 1))) (by omega))) ⟨_, _, _, _, rfl, ?_⟩
              exact (hC3.out.trans (put5_chg _ (w.heap.size + 1) 0 (kI ((j : Int) + 1))) (fun i hi e => by omega)).trans (put5_chg _ (w.heap.size + 1 + 1) 0 y) (fun i hi e => by omega)
          case' donepn =>
            intro hlt
            obtain rfl : j = q := by omega
            have t9 : decide ((j : Int) < (j : Int)) = false := decide_eq_false (by omega)
            obtain ⟨p1, p2, p3, p4, hz0⟩ : ∃ p1 p2 p3 p4, Hid (nextM m V.zero = (p1, p2, p3, p4)) := ⟨_, _, _, _, hid rfl⟩
            clear hVs hgw
            go_wp2_with fail
            refine (hO.out.next hbm.out hz0.out).mono ?_
            rintro e w4 ⟨rfl, hc4⟩
            have hC4 := hid (hC2.out.trans_same hc4)
            have hB4 := hid (And.intro (hB2.out.1.none_ hc4) (hB2.out.2.none_ hc4))
            clear hc4 c1 c0
            obtain ⟨z0, z1, z2, z3, z4⟩ := V.box hB4.out.1
            have hfz := fun j => hB4.out.1.frozen j
            obtain ⟨v0, v1, v2, v3, v4⟩ := V.box hB4.out.2
            have hfv := fun j => hB4.out.2.frozen j
            have hlz : w.heap.size + 1 + 1 < w4.heap.size := hB4.out.2.lt
            have hlz1 : w.heap.size + 1 < w4.heap.size := by omega
            simp only [V.zero] at z0 z1 z2 z3 z4 v0 v1 v2 v3 v4
            go_wp2_with fail
            refine ret_vvbe (t1 := 4) (t2 := 5) (u1 := 6) (u2 := 7) (b1 := w.heap.size + 1) (b2 := w.heap.size + 1 + 1) (x1 := p1) (x2 := p2) rfl rfl rfl rfl rfl rfl ((put5_bk (y := p1) hB4.out.1).chg (put5_chg _ (w.heap.size + 1 + 1) 0 p2) (by omega)) (put5_bk (y := p2) (hB4.out.2.chg (put5_chg _ (w.heap.size + 1) 0 p1) (by omega))) ⟨_, _, _, _, rfl, ?_⟩
            exact (hC4.out.trans (put5_chg _ (w.heap.size + 1) 0 p1) (fun i hi e => by omega)).trans (put5_chg _ (w.heap.size + 1 + 1) 0 p2) (fun i hi e => by omega)
      · go_upto_region 4 with fail
        go_cut [35] (fun t wx => t = .bool false ∧ wx = w2)
        case first =>
          refine (Classical.em (1 ≤ p)).elim ?ge1 ?lt1
          case' ge1 =>
            intro h1
            have t1 : decide ((1 : Int) ≤ p) = true := by simpa using h1
            have t2 : decide (p ≤ (q : Int)) = false := decide_eq_false (fun h => hin ⟨h1, h⟩)
            clear h1
          case' lt1 =>
            intro h1
            have t1 : decide ((1 : Int) ≤ p) = false := by simp; omega
            clear h1
          all_goals
            go_wp2_with fail
            go_meet
            case rel => exact ⟨rfl, rfl⟩
        case rest =>
          obtain ⟨rfl, rfl⟩ := hcut
          rename World => w2
          obtain ⟨x1, x2, bb, e1, hx⟩ : ∃ x1 x2 bb e1, Hid (nextM m k = (x1, x2, bb, e1)) := ⟨_, _, _, _, hid rfl⟩
          have hP0 : Hid (RNextPk w2 w2.drew r c w.heap.size k S N m) := hid ⟨⟨hc1h.out, hK2.out.drew⟩, hol2, hO.out.none_ ((Chg.refl (fun _ => False) w2).drew), (Chg.refl _ w2).drew⟩
          have hPb : Hid (RNextPk w2 w2 r c w.heap.size k S N m) := hid ⟨⟨hc1h.out, hK2.out⟩, hol2, hO.out, Chg.refl _ w2⟩
          have hsz : Hid (w2.drew.heap.size = w2.heap.size) := hid rfl
          clear c0 c1 k0 k1 k2 k3 k4 hkl hVs hgw hin
          go_upto_region 13 with fail
          go_cut [10, 11, 12, 13] (fun t10 t11 t12 t13 wx => ∃ b1 b2, t10 = .pointer (some ⟨b1, 0, none⟩) ∧ t11 = .pointer (some ⟨b2, 0, none⟩) ∧ t12 = .bool bb ∧ t13 = .int .i64 e1 ∧ Hid (NextFin w2 wx b1 b2 x1 x2))
          case first =>
            refine wp_region_tree (id := 13) (.rd [0, 1, 2, 3, 4] (.three 5 11 12 (.wl [6, 7, 8, 9, 10] (.two 11 12 (.one 12 .done) (.one 11 .done))) (.two 5 12 (.wl [6, 7, 8, 9, 10] (.one 12 .done)) (.one 5 (.wl [6, 7, 8, 9, 10] .done))) (.two 5 11 (.wl [6, 7, 8, 9, 10] (.one 11 .done)) (.one 5 (.wl [6, 7, 8, 9, 10] .done))))) #[true, true, true, true, true, true, true, true, true, true, true, true, true, false, false, false, false] [13, 14, 15, 16] [] (fun w' => w'.cell? ⟨r, 1, none⟩ = some (.pointer (some ⟨c, 0, none⟩)) ∧ Bk w' w.heap.size 26 k.cs) (by kernel_rfl) 116 rfl (by kernel_rfl) (fun _ _ _ _ _ h => h) hP0.out.st ?_
            refine tree_rd ?_
            apply Exists.intro
            refine ⟨?_, ?_⟩
            focus
              rintro w' ⟨c1, hSb⟩
              obtain ⟨y0, y1, y2, y3, y4⟩ := V.box hSb
              clear hSb
              iterate 5 (refine stW_step rfl (fun K hK => ?_); go_simp; refine hK _ ?_; clear hK K)
              exact stW_nil rfl
            refine tree_three (o := ⟨_, _, _, _, _, _⟩) (o' := ⟨_, _, _, _, _, _⟩) (o'' := ⟨_, _, _, _, _, _⟩) rfl rfl rfl (fun K2 hK2 => ?_) (fun K2 hK2 => ?_) (fun K2 hK2 => ?_)
            · go_wp2_with fail
              refine (hP0.out.one.next hbm.out hx.out).mono ?_
              rintro e w101 ⟨rfl, hc⟩
              have hP1 := hid (hP0.out.none_ hc)
              clear hc
              go_wp2_with fail
              refine hK2 _ _ hP1.out.st rfl ?_
              clear hK2 K2
              refine tree_wl ?_
              apply Exists.intro
              refine ⟨?_, ?_⟩
              focus
                intro w'
                iterate 5 (refine stW_step rfl (fun K hK => ?_); go_simp; refine hK _ ?_; clear hK K)
                exact stW_nil rfl
              refine tree_two (o := ⟨_, _, _, _, _, _⟩) (o' := ⟨_, _, _, _, _, _⟩) rfl rfl (fun K2 hK2 => ?_) (fun K2 hK2 => ?_)
              · have hP2 := hid (hP1.out.none_ ((Chg.refl (fun _ => False) w101).alloc (.cells #[.int .i64 0, .int .i64 0, .int .i64 0, .string ⟨#[]⟩, .int .i64 0] 26)))
                have hX2_11 := hid (show Bk (w101.alloc (.cells #[.int .i64 0, .int .i64 0, .int .i64 0, .string ⟨#[]⟩, .int .i64 0] 26)) w101.heap.size 26 V.zero.cs from Bk.new w101 26 V.zero.cs)
                go_wp2_with fail
                refine hK2 _ _ hP2.out.st rfl ?_
                clear hK2 K2
                refine tree_one (o := ⟨_, _, _, _, _, _⟩) rfl (fun K2 hK2 => ?_)
                have hP3 := hid (hP2.out.none_ ((Chg.refl (fun _ => False) (w101.alloc (.cells #[.int .i64 0, .int .i64 0, .int .i64 0, .string ⟨#[]⟩, .int .i64 0] 26))).alloc (.cells #[.int .i64 0, .int .i64 0, .int .i64 0, .string ⟨#[]⟩, .int .i64 0] 26)))
                have hX3_12 := hid (show Bk ((w101.alloc (.cells #[.int .i64 0, .int .i64 0, .int .i64 0, .string ⟨#[]⟩, .int .i64 0] 26)).alloc (.cells #[.int .i64 0, .int .i64 0, .int .i64 0, .string ⟨#[]⟩, .int .i64 0] 26)) (w101.alloc (.cells #[.int .i64 0, .int .i64 0, .int .i64 0, .string ⟨#[]⟩, .int .i64 0] 26)).heap.size 26 V.zero.cs from Bk.new (w101.alloc (.cells #[.int .i64 0, .int .i64 0, .int .i64 0, .string ⟨#[]⟩, .int .i64 0] 26)) 26 V.zero.cs)
                have hX3_11 := hid (hX2_11.out.none_ ((Chg.refl (fun _ => False) (w101.alloc (.cells #[.int .i64 0, .int .i64 0, .int .i64 0, .string ⟨#[]⟩, .int .i64 0] 26))).alloc (.cells #[.int .i64 0, .int .i64 0, .int .i64 0, .string ⟨#[]⟩, .int .i64 0] 26)))
                go_wp2_with fail
                refine hK2 _ _ hP3.out.st rfl ?_
                clear hK2 K2
                have hfin := hid (next_fin_aa hP1.out.chg (x1 := x1) (x2 := x2))
                refine end_mk (l := [⟨_, _, _, _, _, _⟩, ⟨_, _, _, _, _, _⟩, ⟨_, _, _, _, _, _⟩, ⟨_, _, _, _, _, _⟩]) rfl (fun K2 hK2 => ?_)
                go_wp2_with fail
                refine hK2 _ _ rfl ?_
                clear hK2 K2
                refine stI_nil ?_
                go_wp2_with fail
                go_meet
                case rel => exact ⟨_, _, rfl, rfl, rfl, rfl, hfin⟩
              · have hP4 := hid (hP1.out.none_ ((Chg.refl (fun _ => False) w101).alloc (.cells #[.int .i64 0, .int .i64 0, .int .i64 0, .string ⟨#[]⟩, .int .i64 0] 26)))
                have hX4_12 := hid (show Bk (w101.alloc (.cells #[.int .i64 0, .int .i64 0, .int .i64 0, .string ⟨#[]⟩, .int .i64 0] 26)) w101.heap.size 26 V.zero.cs from Bk.new w101 26 V.zero.cs)
                go_wp2_with fail
                refine hK2 _ _ hP4.out.st rfl ?_
                clear hK2 K2
                refine tree_one (o := ⟨_, _, _, _, _, _⟩) rfl (fun K2 hK2 => ?_)
                have hP5 := hid (hP4.out.none_ ((Chg.refl (fun _ => False) (w101.alloc (.cells #[.int .i64 0, .int .i64 0, .int .i64 0, .string ⟨#[]⟩, .int .i64 0] 26))).alloc (.cells #[.int .i64 0, .int .i64 0, .int .i64 0, .string ⟨#[]⟩, .int .i64 0] 26)))
                have hX5_11 := hid (show Bk ((w101.alloc (.cells #[.int .i64 0, .int .i64 0, .int .i64 0, .string ⟨#[]⟩, .int .i64 0] 26)).alloc (.cells #[.int .i64 0, .int .i64 0, .int .i64 0, .string ⟨#[]⟩, .int .i64 0] 26)) (w101.alloc (.cells #[.int .i64 0, .int .i64 0, .int .i64 0, .string ⟨#[]⟩, .int .i64 0] 26)).heap.size 26 V.zero.cs from Bk.new (w101.alloc (.cells #[.int .i64 0, .int .i64 0, .int .i64 0, .string ⟨#[]⟩, .int .i64 0] 26)) 26 V.zero.cs)
                have hX5_12 := hid (hX4_12.out.none_ ((Chg.refl (fun _ => False) (w101.alloc (.cells #[.int .i64 0, .int .i64 0, .int .i64 0, .string ⟨#[]⟩, .int .i64 0] 26))).alloc (.cells #[.int .i64 0, .int .i64 0, .int .i64 0, .string ⟨#[]⟩, .int .i64 0] 26)))
                go_wp2_with fail
                refine hK2 _ _ hP5.out.st rfl ?_
                clear hK2 K2
                have hfin := hid (next_fin_ab hP1.out.chg (x1 := x1) (x2 := x2))
                refine end_mk (l := [⟨_, _, _, _, _, _⟩, ⟨_, _, _, _, _, _⟩, ⟨_, _, _, _, _, _⟩, ⟨_, _, _, _, _, _⟩]) rfl (fun K2 hK2 => ?_)
                go_wp2_with fail
                refine hK2 _ _ rfl ?_
                clear hK2 K2
                refine stI_nil ?_
                go_wp2_with fail
                go_meet
                case rel => exact ⟨_, _, rfl, rfl, rfl, rfl, hfin⟩
            · have hP6 := hid (hPb.out.none_ (((Chg.refl (fun _ => False) w2).alloc (.cells #[.int .i64 0, .int .i64 0, .int .i64 0, .string ⟨#[]⟩, .int .i64 0] 26)).drew))
              have hX6_11 := hid (show Bk (w2.alloc (.cells #[.int .i64 0, .int .i64 0, .int .i64 0, .string ⟨#[]⟩, .int .i64 0] 26)).drew w2.heap.size 26 V.zero.cs from (Bk.new w2 26 V.zero.cs).drew)
              go_wp2_with fail
              refine hK2 _ _ hP6.out.st rfl ?_
              clear hK2 K2
              refine tree_two (o := ⟨_, _, _, _, _, _⟩) (o' := ⟨_, _, _, _, _, _⟩) rfl rfl (fun K2 hK2 => ?_) (fun K2 hK2 => ?_)
              · go_wp2_with fail
                refine (hP6.out.one.next hbm.out hx.out).mono ?_
                rintro e w107 ⟨rfl, hc⟩
                have hP7 := hid (hP6.out.none_ hc)
                have hX7_11 := hid (hX6_11.out.none_ hc)
                clear hc
                go_wp2_with fail
                refine hK2 _ _ hP7.out.st rfl ?_
                clear hK2 K2
                refine tree_wl ?_
                apply Exists.intro
                refine ⟨?_, ?_⟩
                focus
                  intro w'
                  iterate 5 (refine stW_step rfl (fun K hK => ?_); go_simp; refine hK _ ?_; clear hK K)
                  exact stW_nil rfl
                refine tree_one (o := ⟨_, _, _, _, _, _⟩) rfl (fun K2 hK2 => ?_)
                have hP8 := hid (hP7.out.none_ ((Chg.refl (fun _ => False) w107).alloc (.cells #[.int .i64 0, .int .i64 0, .int .i64 0, .string ⟨#[]⟩, .int .i64 0] 26)))
                have hX8_12 := hid (show Bk (w107.alloc (.cells #[.int .i64 0, .int .i64 0, .int .i64 0, .string ⟨#[]⟩, .int .i64 0] 26)) w107.heap.size 26 V.zero.cs from Bk.new w107 26 V.zero.cs)
                have hX8_11 := hid (hX7_11.out.none_ ((Chg.refl (fun _ => False) w107).alloc (.cells #[.int .i64 0, .int .i64 0, .int .i64 0, .string ⟨#[]⟩, .int .i64 0] 26)))
                go_wp2_with fail
                refine hK2 _ _ hP8.out.st rfl ?_
                clear hK2 K2
                obtain ⟨z11_0, z11_1, z11_2, z11_3, z11_4⟩ := V.box hX7_11.out
                have zl11 := hX7_11.out.lt
                have zf11 := fun j => hX7_11.out.frozen j
                simp only [V.zero] at z11_0 z11_1 z11_2 z11_3 z11_4
                have hfin := hid (next_fin_ba hP7.out.chg hX7_11.out (by have := hsz.out; omega) (x1 := x1) (x2 := x2))
                refine end_mk (l := [⟨_, _, _, _, _, _⟩, ⟨_, _, _, _, _, _⟩, ⟨_, _, _, _, _, _⟩, ⟨_, _, _, _, _, _⟩]) rfl (fun K2 hK2 => ?_)
                go_wp2_with fail
                refine hK2 _ _ rfl ?_
                clear hK2 K2
                refine stI_nil ?_
                go_wp2_with fail
                go_meet
                case rel => exact ⟨_, _, rfl, rfl, rfl, rfl, hfin⟩
              · have hP9 := hid (hPb.out.none_ ((((Chg.refl (fun _ => False) w2).alloc (.cells #[.int .i64 0, .int .i64 0, .int .i64 0, .string ⟨#[]⟩, .int .i64 0] 26)).alloc (.cells #[.int .i64 0, .int .i64 0, .int .i64 0, .string ⟨#[]⟩, .int .i64 0] 26)).drew))
                have hX9_11 := hid (show Bk ((w2.alloc (.cells #[.int .i64 0, .int .i64 0, .int .i64 0, .string ⟨#[]⟩, .int .i64 0] 26)).alloc (.cells #[.int .i64 0, .int .i64 0, .int .i64 0, .string ⟨#[]⟩, .int .i64 0] 26)).drew w2.heap.size 26 V.zero.cs from ((Bk.new w2 26 V.zero.cs).alloc (.cells #[.int .i64 0, .int .i64 0, .int .i64 0, .string ⟨#[]⟩, .int .i64 0] 26)).drew)
                have hX9_12 := hid (show Bk ((w2.alloc (.cells #[.int .i64 0, .int .i64 0, .int .i64 0, .string ⟨#[]⟩, .int .i64 0] 26)).alloc (.cells #[.int .i64 0, .int .i64 0, .int .i64 0, .string ⟨#[]⟩, .int .i64 0] 26)).drew (w2.heap.size + 1) 26 V.zero.cs from (Bk.new_at (w2.alloc (.cells #[.int .i64 0, .int .i64 0, .int .i64 0, .string ⟨#[]⟩, .int .i64 0] 26)) 26 V.zero.cs.toArray (w2.heap.size + 1) (by simp)).drew)
                go_wp2_with fail
                refine hK2 _ _ hP9.out.st rfl ?_
                clear hK2 K2
                refine tree_one (o := ⟨_, _, _, _, _, _⟩) rfl (fun K2 hK2 => ?_)
                go_wp2_with fail
                refine (hP9.out.one.next hbm.out hx.out).mono ?_
                rintro e w110 ⟨rfl, hc⟩
                have hP10 := hid (hP9.out.none_ hc)
                have hX10_11 := hid (hX9_11.out.none_ hc)
                have hX10_12 := hid (hX9_12.out.none_ hc)
                clear hc
                go_wp2_with fail
                refine hK2 _ _ hP10.out.st rfl ?_
                clear hK2 K2
                refine tree_wl ?_
                apply Exists.intro
                refine ⟨?_, ?_⟩
                focus
                  intro w'
                  iterate 5 (refine stW_step rfl (fun K hK => ?_); go_simp; refine hK _ ?_; clear hK K)
                  exact stW_nil rfl
                obtain ⟨z11_0, z11_1, z11_2, z11_3, z11_4⟩ := V.box hX10_11.out
                have zl11 := hX10_11.out.lt
                have zf11 := fun j => hX10_11.out.frozen j
                simp only [V.zero] at z11_0 z11_1 z11_2 z11_3 z11_4
                obtain ⟨z12_0, z12_1, z12_2, z12_3, z12_4⟩ := V.box hX10_12.out
                have zl12 := hX10_12.out.lt
                have zf12 := fun j => hX10_12.out.frozen j
                simp only [V.zero] at z12_0 z12_1 z12_2 z12_3 z12_4
                have hfin := hid (next_fin_cc hP10.out.chg hX10_11.out hX10_12.out (by have := hsz.out; simp) (by have := hsz.out; simp) (by simp) (x1 := x1) (x2 := x2))
                refine end_mk (l := [⟨_, _, _, _, _, _⟩, ⟨_, _, _, _, _, _⟩, ⟨_, _, _, _, _, _⟩, ⟨_, _, _, _, _, _⟩]) rfl (fun K2 hK2 => ?_)
                go_wp2_with fail
                refine hK2 _ _ rfl ?_
                clear hK2 K2
                refine stI_nil ?_
                go_wp2_with fail
                go_meet
                case rel => exact ⟨_, _, rfl, rfl, rfl, rfl, hfin⟩
            · have hP11 := hid (hPb.out.none_ (((Chg.refl (fun _ => False) w2).alloc (.cells #[.int .i64 0, .int .i64 0, .int .i64 0, .string ⟨#[]⟩, .int .i64 0] 26)).drew))
              have hX11_12 := hid (show Bk (w2.alloc (.cells #[.int .i64 0, .int .i64 0, .int .i64 0, .string ⟨#[]⟩, .int .i64 0] 26)).drew w2.heap.size 26 V.zero.cs from (Bk.new w2 26 V.zero.cs).drew)
              go_wp2_with fail
              refine hK2 _ _ hP11.out.st rfl ?_
              clear hK2 K2
              refine tree_two (o := ⟨_, _, _, _, _, _⟩) (o' := ⟨_, _, _, _, _, _⟩) rfl rfl (fun K2 hK2 => ?_) (fun K2 hK2 => ?_)
              · go_wp2_with fail
                refine (hP11.out.one.next hbm.out hx.out).mono ?_
                rintro e w112 ⟨rfl, hc⟩
                have hP12 := hid (hP11.out.none_ hc)
                have hX12_12 := hid (hX11_12.out.none_ hc)
                clear hc
                go_wp2_with fail
                refine hK2 _ _ hP12.out.st rfl ?_
                clear hK2 K2
                refine tree_wl ?_
                apply Exists.intro
                refine ⟨?_, ?_⟩
                focus
                  intro w'
                  iterate 5 (refine stW_step rfl (fun K hK => ?_); go_simp; refine hK _ ?_; clear hK K)
                  exact stW_nil rfl
                refine tree_one (o := ⟨_, _, _, _, _, _⟩) rfl (fun K2 hK2 => ?_)
                have hP13 := hid (hP12.out.none_ ((Chg.refl (fun _ => False) w112).alloc (.cells #[.int .i64 0, .int .i64 0, .int .i64 0, .string ⟨#[]⟩, .int .i64 0] 26)))
                have hX13_11 := hid (show Bk (w112.alloc (.cells #[.int .i64 0, .int .i64 0, .int .i64 0, .string ⟨#[]⟩, .int .i64 0] 26)) w112.heap.size 26 V.zero.cs from Bk.new w112 26 V.zero.cs)
                have hX13_12 := hid (hX12_12.out.none_ ((Chg.refl (fun _ => False) w112).alloc (.cells #[.int .i64 0, .int .i64 0, .int .i64 0, .string ⟨#[]⟩, .int .i64 0] 26)))
                go_wp2_with fail
                refine hK2 _ _ hP13.out.st rfl ?_
                clear hK2 K2
                obtain ⟨z12_0, z12_1, z12_2, z12_3, z12_4⟩ := V.box hX12_12.out
                have zl12 := hX12_12.out.lt
                have zf12 := fun j => hX12_12.out.frozen j
                simp only [V.zero] at z12_0 z12_1 z12_2 z12_3 z12_4
                have hfin := hid (next_fin_bb hP12.out.chg hX12_12.out (by have := hsz.out; omega) (x1 := x1) (x2 := x2))
                refine end_mk (l := [⟨_, _, _, _, _, _⟩, ⟨_, _, _, _, _, _⟩, ⟨_, _, _, _, _, _⟩, ⟨_, _, _, _, _, _⟩]) rfl (fun K2 hK2 => ?_)
                go_wp2_with fail
                refine hK2 _ _ rfl ?_
                clear hK2 K2
                refine stI_nil ?_
                go_wp2_with fail
                go_meet
                case rel => exact ⟨_, _, rfl, rfl, rfl, rfl, hfin⟩
              · have hP14 := hid (hPb.out.none_ ((((Chg.refl (fun _ => False) w2).alloc (.cells #[.int .i64 0, .int .i64 0, .int .i64 0, .string ⟨#[]⟩, .int .i64 0] 26)).alloc (.cells #[.int .i64 0, .int .i64 0, .int .i64 0, .string ⟨#[]⟩, .int .i64 0] 26)).drew))
                have hX14_12 := hid (show Bk ((w2.alloc (.cells #[.int .i64 0, .int .i64 0, .int .i64 0, .string ⟨#[]⟩, .int .i64 0] 26)).alloc (.cells #[.int .i64 0, .int .i64 0, .int .i64 0, .string ⟨#[]⟩, .int .i64 0] 26)).drew w2.heap.size 26 V.zero.cs from ((Bk.new w2 26 V.zero.cs).alloc (.cells #[.int .i64 0, .int .i64 0, .int .i64 0, .string ⟨#[]⟩, .int .i64 0] 26)).drew)
                have hX14_11 := hid (show Bk ((w2.alloc (.cells #[.int .i64 0, .int .i64 0, .int .i64 0, .string ⟨#[]⟩, .int .i64 0] 26)).alloc (.cells #[.int .i64 0, .int .i64 0, .int .i64 0, .string ⟨#[]⟩, .int .i64 0] 26)).drew (w2.heap.size + 1) 26 V.zero.cs from (Bk.new_at (w2.alloc (.cells #[.int .i64 0, .int .i64 0, .int .i64 0, .string ⟨#[]⟩, .int .i64 0] 26)) 26 V.zero.cs.toArray (w2.heap.size + 1) (by simp)).drew)
                go_wp2_with fail
                refine hK2 _ _ hP14.out.st rfl ?_
                clear hK2 K2
                refine tree_one (o := ⟨_, _, _, _, _, _⟩) rfl (fun K2 hK2 => ?_)
                go_wp2_with fail
                refine (hP14.out.one.next hbm.out hx.out).mono ?_
                rintro e w115 ⟨rfl, hc⟩
                have hP15 := hid (hP14.out.none_ hc)
                have hX15_12 := hid (hX14_12.out.none_ hc)
                have hX15_11 := hid (hX14_11.out.none_ hc)
                clear hc
                go_wp2_with fail
                refine hK2 _ _ hP15.out.st rfl ?_
                clear hK2 K2
                refine tree_wl ?_
                apply Exists.intro
                refine ⟨?_, ?_⟩
                focus
                  intro w'
                  iterate 5 (refine stW_step rfl (fun K hK => ?_); go_simp; refine hK _ ?_; clear hK K)
                  exact stW_nil rfl
                obtain ⟨z11_0, z11_1, z11_2, z11_3, z11_4⟩ := V.box hX15_11.out
                have zl11 := hX15_11.out.lt
                have zf11 := fun j => hX15_11.out.frozen j
                simp only [V.zero] at z11_0 z11_1 z11_2 z11_3 z11_4
                obtain ⟨z12_0, z12_1, z12_2, z12_3, z12_4⟩ := V.box hX15_12.out
                have zl12 := hX15_12.out.lt
                have zf12 := fun j => hX15_12.out.frozen j
                simp only [V.zero] at z12_0 z12_1 z12_2 z12_3 z12_4
                have hfin := hid (next_fin_cc hP15.out.chg hX15_11.out hX15_12.out (by have := hsz.out; simp) (by have := hsz.out; simp) (by simp) (x1 := x1) (x2 := x2))
                refine end_mk (l := [⟨_, _, _, _, _, _⟩, ⟨_, _, _, _, _, _⟩, ⟨_, _, _, _, _, _⟩, ⟨_, _, _, _, _, _⟩]) rfl (fun K2 hK2 => ?_)
                go_wp2_with fail
                refine hK2 _ _ rfl ?_
                clear hK2 K2
                refine stI_nil ?_
                go_wp2_with fail
                go_meet
                case rel => exact ⟨_, _, rfl, rfl, rfl, rfl, hfin⟩
          case rest =>
            obtain ⟨b1, b2, rfl, rfl, rfl, rfl, hF⟩ := hcut
            rename World => w3
            have hC3 := hid (hC2.out.trans_same hF.out.2.2.1)
            have hB3 := hid (And.intro (hB2.out.1.none_ hF.out.2.2.1) (hB2.out.2.none_ hF.out.2.2.1))
            have hT3 := hid (hT2.out.none_ hF.out.2.2.1)
            have hX3 := hid (And.intro hF.out.1 hF.out.2.1)
            have hlo3 := hid hF.out.2.2.2
            have hlw : w.heap.size + 1 + 1 < w2.heap.size := hB2.out.2.lt
            clear hC2 hB2 hT2 hF hP0 hPb hO hK2 hc1h hol2
            obtain ⟨be, hbe⟩ : ∃ b, (e1 != 0) = b := ⟨_, rfl⟩
            cases be
            case' false =>
              go_wp2_with fail
              have hS4 := hid (show Bk w3.drew b1 26 x1.cs ∧ Bk w3.drew b2 26 x2.cs from ⟨hX3.out.1.drew, hX3.out.2.drew⟩)
              have hS5 : Hid (Bk (put5 w3 (w.heap.size + 1) 0 x1).drew b1 26 x1.cs ∧ Bk (put5 w3 (w.heap.size + 1) 0 x1).drew b2 26 x2.cs) := hid ⟨(hX3.out.1.chg (put5_chg w3 (w.heap.size + 1) 0 x1) (by have := hlo3.out; omega)).drew, (hX3.out.2.chg (put5_chg w3 (w.heap.size + 1) 0 x1) (by have := hlo3.out; omega)).drew⟩
              refine wp_region_rc (id := 16) [.rd [0, 1], .wl [2, 3], .act 4] [5, 6, 7] [] (fun w' => Bk w' b1 26 x1.cs ∧ Bk w' b2 26 x2.cs) (by kernel_rfl) 116 rfl (by kernel_rfl) (fun _ _ _ _ _ h => h) hS4.out ?_
              refine steps_rdW ?_
              apply Exists.intro
              refine ⟨?_, ?_⟩
              focus
                rintro w' ⟨hSa, hSb⟩
                obtain ⟨p0, p1, p2, p3, p4⟩ := V.box hSa
                obtain ⟨q0, q1, q2, q3, q4⟩ := V.box hSb
                clear hSa hSb
                iterate 2 (refine stW_step rfl (fun K hK => ?_); go_simp; refine hK _ ?_; clear hK K)
                exact stW_nil rfl
              refine steps_wlW ?_
              apply Exists.intro
              refine ⟨?_, ?_⟩
              focus
                intro w'
                iterate 2 (refine stW_step rfl (fun K hK => ?_); go_simp; refine hK _ ?_; clear hK K)
                exact stW_nil rfl
              obtain ⟨z0, z1, z2, z3, z4⟩ := V.box hB3.out.1
              have hfz := fun j => hB3.out.1.frozen j
              obtain ⟨v0, v1, v2, v3, v4⟩ := V.box hB3.out.2
              have hfv := fun j => hB3.out.2.frozen j
              have hlz : w.heap.size + 1 + 1 < w3.heap.size := hB3.out.2.lt
              have hlz1 : w.heap.size + 1 < w3.heap.size := by omega
              simp only [V.zero] at z0 z1 z2 z3 z4 v0 v1 v2 v3 v4
              refine steps_act (o := ⟨_, _, _, _, _, _⟩) rfl (fun K2 hK2 => ?_)
              go_wp2_with fail
              refine hK2 _ _ hS5.out rfl ?_
              clear hK2 K2
              refine steps_nil (l := [⟨_, _, _, _, _, _⟩, ⟨_, _, _, _, _, _⟩, ⟨_, _, _, _, _, _⟩]) rfl (fun K2 hK2 => ?_)
              go_wp2_with fail
              refine hK2 _ _ rfl ?_
              clear hK2 K2
              refine stI_nil ?_
              go_wp2_with fail
              refine ret_vvbe (t1 := 4) (t2 := 5) (u1 := 6) (u2 := 7) (b1 := w.heap.size + 1) (b2 := w.heap.size + 1 + 1) (x1 := x1) (x2 := x2) rfl rfl rfl rfl rfl rfl (((put5_bk (y := x1) hB3.out.1).chg (put5_chg _ (w.heap.size + 1 + 1) 0 x2) (by omega)).drew) ((put5_bk (y := x2) (hB3.out.2.chg (put5_chg _ (w.heap.size + 1) 0 x1) (by omega))).drew) ⟨_, _, _, _, rfl, ?_⟩
              exact ((hC3.out.trans (put5_chg _ (w.heap.size + 1) 0 x1) (fun i hi e => by omega)).trans (put5_chg _ (w.heap.size + 1 + 1) 0 x2) (fun i hi e => by omega)).drew
            case' true =>
              refine (Classical.em (1 ≤ p)).elim ?isi ?noi
              case' isi =>
                intro hi
                obtain ⟨p1, p2, p3, p4, hz0⟩ : ∃ p1 p2 p3 p4, Hid (nextM m V.zero = (p1, p2, p3, p4)) := ⟨_, _, _, _, hid rfl⟩
                have t1 : decide ((1 : Int) ≤ p) = true := decide_eq_true hi
                clear hi
                obtain ⟨A4, cap4, c4, -, c1, -, hO4', -⟩ := hT3.out.cells hq.out
                have hO4 := hid hO4'
                have hol4 := hT3.out.lt
                clear hO4'
                go_wp2_with fail
                refine (hO4.out.next hbm.out hz0.out).mono ?_
                rintro e w4 ⟨rfl, hc4⟩
                have hC4 := hid (hC3.out.trans_same hc4)
                have hB4 := hid (And.intro (hB3.out.1.none_ hc4) (hB3.out.2.none_ hc4))
                clear hc4 hC3 hB3 hT3 hO4 c1
                obtain ⟨z0, z1, z2, z3, z4⟩ := V.box hB4.out.1
                have hfz := fun j => hB4.out.1.frozen j
                obtain ⟨v0, v1, v2, v3, v4⟩ := V.box hB4.out.2
                have hfv := fun j => hB4.out.2.frozen j
                have hlz : w.heap.size + 1 + 1 < w4.heap.size := hB4.out.2.lt
                have hlz1 : w.heap.size + 1 < w4.heap.size := by omega
                simp only [V.zero] at z0 z1 z2 z3 z4 v0 v1 v2 v3 v4
                go_wp2_with fail
                refine ret_vvbe (t1 := 4) (t2 := 5) (u1 := 6) (u2 := 7) (b1 := w.heap.size + 1) (b2 := w.heap.size + 1 + 1) (x1 := p1) (x2 := p2) rfl rfl rfl rfl rfl rfl ((put5_bk (y := p1) hB4.out.1).chg (put5_chg _ (w.heap.size + 1 + 1) 0 p2) (by omega)) (put5_bk (y := p2) (hB4.out.2.chg (put5_chg _ (w.heap.size + 1) 0 p1) (by omega))) ⟨_, _, _, _, rfl, ?_⟩
                exact (hC4.out.trans (put5_chg _ (w.heap.size + 1) 0 p1) (fun i hi e => by omega)).trans (put5_chg _ (w.heap.size + 1 + 1) 0 p2) (fun i hi e => by omega)
              case' noi =>
                intro hi
                have t1 : decide ((1 : Int) ≤ p) = false := decide_eq_false hi
                clear hi
                go_wp2_with fail
                have hS4 := hid (show Bk w3.drew b1 26 x1.cs ∧ Bk w3.drew b2 26 x2.cs from ⟨hX3.out.1.drew, hX3.out.2.drew⟩)
                have hS5 : Hid (Bk (put5 w3 (w.heap.size + 1) 0 x1).drew b1 26 x1.cs ∧ Bk (put5 w3 (w.heap.size + 1) 0 x1).drew b2 26 x2.cs) := hid ⟨(hX3.out.1.chg (put5_chg w3 (w.heap.size + 1) 0 x1) (by have := hlo3.out; omega)).drew, (hX3.out.2.chg (put5_chg w3 (w.heap.size + 1) 0 x1) (by have := hlo3.out; omega)).drew⟩
                refine wp_region_rc (id := 16) [.rd [0, 1], .wl [2, 3], .act 4] [5, 6, 7] [] (fun w' => Bk w' b1 26 x1.cs ∧ Bk w' b2 26 x2.cs) (by kernel_rfl) 116 rfl (by kernel_rfl) (fun _ _ _ _ _ h => h) hS4.out ?_
                refine steps_rdW ?_
                apply Exists.intro
                refine ⟨?_, ?_⟩
                focus
                  rintro w' ⟨hSa, hSb⟩
                  obtain ⟨p0, p1, p2, p3, p4⟩ := V.box hSa
                  obtain ⟨q0, q1, q2, q3, q4⟩ := V.box hSb
                  clear hSa hSb
                  iterate 2 (refine stW_step rfl (fun K hK => ?_); go_simp; refine hK _ ?_; clear hK K)
                  exact stW_nil rfl
                refine steps_wlW ?_
                apply Exists.intro
                refine ⟨?_, ?_⟩
                focus
                  intro w'
                  iterate 2 (refine stW_step rfl (fun K hK => ?_); go_simp; refine hK _ ?_; clear hK K)
                  exact stW_nil rfl
                obtain ⟨z0, z1, z2, z3, z4⟩ := V.box hB3.out.1
                have hfz := fun j => hB3.out.1.frozen j
                obtain ⟨v0, v1, v2, v3, v4⟩ := V.box hB3.out.2
                have hfv := fun j => hB3.out.2.frozen j
                have hlz : w.heap.size + 1 + 1 < w3.heap.size := hB3.out.2.lt
                have hlz1 : w.heap.size + 1 < w3.heap.size := by omega
                simp only [V.zero] at z0 z1 z2 z3 z4 v0 v1 v2 v3 v4
                refine steps_act (o := ⟨_, _, _, _, _, _⟩) rfl (fun K2 hK2 => ?_)
                go_wp2_with fail
                refine hK2 _ _ hS5.out rfl ?_
                clear hK2 K2
                refine steps_nil (l := [⟨_, _, _, _, _, _⟩, ⟨_, _, _, _, _, _⟩, ⟨_, _, _, _, _, _⟩]) rfl (fun K2 hK2 => ?_)
                go_wp2_with fail
                refine hK2 _ _ rfl ?_
                clear hK2 K2
                refine stI_nil ?_
                go_wp2_with fail
                refine ret_vvbe (t1 := 4) (t2 := 5) (u1 := 6) (u2 := 7) (b1 := w.heap.size + 1) (b2 := w.heap.size + 1 + 1) (x1 := x1) (x2 := x2) rfl rfl rfl rfl rfl rfl (((put5_bk (y := x1) hB3.out.1).chg (put5_chg _ (w.heap.size + 1 + 1) 0 x2) (by omega)).drew) ((put5_bk (y := x2) (hB3.out.2.chg (put5_chg _ (w.heap.size + 1) 0 x1) (by omega))).drew) ⟨_, _, _, _, rfl, ?_⟩
                exact ((hC3.out.trans (put5_chg _ (w.heap.size + 1) 0 x1) (fun i hi e => by omega)).trans (put5_chg _ (w.heap.size + 1 + 1) 0 x2) (fun i hi e => by omega)).drew
end
end Go.Proofs.Ytoelgnjnbelokaa
