/-
  Next of the program's map.
-/
import Derived.Deep.DeepCutAuto
import Derived.Deep.CutBlock
import Derived.Test.YtoelgnjnbelokaaLift
namespace Go.Proofs.Ytoelgnjnbelokaa
open Go.RowKit Go.Maps

theorem V.parts {k : V} (h : k ≠ V.zero) : k.k ≠ 0 ∨ (k.k = 0 ∧ k.p ≠ 0) ∨ (k.k = 0 ∧ k.p = 0 ∧ k.q ≠ 0) ∨ (k.k = 0 ∧ k.p = 0 ∧ k.q = 0 ∧ k.s ≠ ⟨#[]⟩) ∨ (k.k = 0 ∧ k.p = 0 ∧ k.q = 0 ∧ k.s = ⟨#[]⟩ ∧ k.r ≠ 0) := V.ne_cases h
/-- Two values in own blocks, a truth value and an error handed back. -/
theorem ret_vvbe {fn : Func} {t1 t2 u1 u2 : Nat} {R : Ending → World → Prop} {a : Act} {W : World} {b1 b2 : Nat} {x1 x2 : V} {bb : Bool} {e : Int} (hres : fn.results = #[.cell t1 26, .cell t2 26, .tmp u1, .tmp u2]) (ht1 : a.tmps.getD t1 undef = .pointer (some ⟨b1, 0, none⟩)) (ht2 : a.tmps.getD t2 undef = .pointer (some ⟨b2, 0, none⟩))
    (hu1 : a.tmps.getD u1 undef = .bool bb) (hu2 : a.tmps.getD u2 undef = .int .i64 e) (hd : a.defers = []) (hB1 : Bk W b1 26 x1.cs) (hB2 : Bk W b2 26 x2.cs) (hR : R (.returned (.tuple #[(.agg #[.int .i64 x1.k, .int .i64 x1.p, .int .i64 x1.q, .string x1.s, .int .i64 x1.r]), (.agg #[.int .i64 x2.k, .int .i64 x2.p, .int .i64 x2.q, .string x2.s, .int .i64 x2.r]), .bool bb, .int .i64 e])) W) : bodyPost Try.prog fn R .ret a W := by
  refine bodyPost_ret (v := .tuple #[(.agg #[.int .i64 x1.k, .int .i64 x1.p, .int .i64 x1.q, .string x1.s, .int .i64 x1.r]), (.agg #[.int .i64 x2.k, .int .i64 x2.p, .int .i64 x2.q, .string x2.s, .int .i64 x2.r]), .bool bb, .int .i64 e]) ?_ hd hR
  have h1 := load_val hB1
  have h2 := load_val hB2
  have ht1' : a.tmps[t1]?.getD undef = .pointer (some ⟨b1, 0, none⟩) := by simpa using ht1
  have ht2' : a.tmps[t2]?.getD undef = .pointer (some ⟨b2, 0, none⟩) := by simpa using ht2
  have hu1' : a.tmps[u1]?.getD undef = .bool bb := by simpa using hu1
  have hu2' : a.tmps[u2]?.getD undef = .int .i64 e := by simpa using hu2
  unfold results
  rw [hres]
  simp [ht1', ht2', hu1', hu2', asAddr, h1, h2]
section
variable {w w' : World} {c bm n : Nat} {vs : Value} {D : DataW Unit} {L : List Sl}
set_option maxRecDepth 100000 in
set_option maxHeartbeats 4000000 in
theorem own_next (h : OwnM w c vs bm n D L) (hn : L.length ≤ 1000000) {k : V} (hk : k.wf) {x1 x2 : V} {bb : Bool} {e1 : Int} (hx : nextM L k = (x1, x2, bb, e1)) :
    Calls Try.prog 27 #[.pointer (some ⟨c, 0, none⟩), (.agg #[.int .i64 k.k, .int .i64 k.p, .int .i64 k.q, .string k.s, .int .i64 k.r])] w fun e w' => e = .returned (.tuple #[(.agg #[.int .i64 x1.k, .int .i64 x1.p, .int .i64 x1.q, .string x1.s, .int .i64 x1.r]), (.agg #[.int .i64 x2.k, .int .i64 x2.p, .int .i64 x2.q, .string x2.s, .int .i64 x2.r]), .bool bb, .int .i64 e1]) ∧ Chg (fun _ => False) w w' := by
  obtain ⟨l, hl'⟩ := key_of hk
  have hl := hid hl'
  clear hl'
  obtain ⟨A, cap, hvs, _, hcap, hA, -⟩ := own_form h.row
  subst hvs
  have hcl := h.blk.lt
  have hcl1 : c < w.heap.size + 1 := by omega
  have hcl2 : c < w.heap.size + 1 + 1 := by omega
  have hc3 : Hid (Chg (fun _ => False) w (((w.alloc (.cells k.cs.toArray 26)).alloc (.cells V.zero.cs.toArray 26)).alloc (.cells V.zero.cs.toArray 26))) := hid ((((Chg.refl _ w).alloc _).alloc _).alloc _)
  have hB3 : Hid (Bk (((w.alloc (.cells k.cs.toArray 26)).alloc (.cells V.zero.cs.toArray 26)).alloc (.cells V.zero.cs.toArray 26)) w.heap.size 26 k.cs) := hid (((Bk.new w 26 k.cs).alloc _).alloc _)
  have hB4 : Hid (Bk (((w.alloc (.cells k.cs.toArray 26)).alloc (.cells V.zero.cs.toArray 26)).alloc (.cells V.zero.cs.toArray 26)) (w.heap.size + 1) 26 V.zero.cs) := hid (by have := (Bk.new (w.alloc (.cells k.cs.toArray 26)) 26 V.zero.cs).alloc (.cells V.zero.cs.toArray 26); rw [alloc_sz] at this; exact this)
  have hB5 : Hid (Bk (((w.alloc (.cells k.cs.toArray 26)).alloc (.cells V.zero.cs.toArray 26)).alloc (.cells V.zero.cs.toArray 26)) (w.heap.size + 1 + 1) 26 V.zero.cs) := hid (by have := Bk.new ((w.alloc (.cells k.cs.toArray 26)).alloc (.cells V.zero.cs.toArray 26)) 26 V.zero.cs; rw [alloc_sz, alloc_sz] at this; exact this)
  have hix := hid h.ix
  obtain ⟨m, hm⟩ : ∃ m, Hid (L.length = m) := ⟨_, hid rfl⟩
  have c0 : w.cell? ⟨c, 0, none⟩ = some (.slice A m cap) := by rw [← hm.out]; exact h.blk.cell 0
  have hmc : m ≤ cap := by rw [← hm.out]; omega
  have hmb : m ≤ 1000000 := by rw [← hm.out]; exact hn
  have hrow := hid (Rd.of_own h.row)
  have hL0 : Hid (OwnM ((((w.alloc (.cells k.cs.toArray 26)).alloc (.cells V.zero.cs.toArray 26)).alloc (.cells V.zero.cs.toArray 26)).drew) c (.slice A L.length cap) bm n D L) := hid (h.none_ (((((Chg.refl _ w).alloc _).alloc _).alloc _).drew))
  by_cases hz : k = V.zero
  · have hx' : Hid (entM L 0 = (x1, x2, bb, e1)) := hid (by unfold nextM at hx; rw [if_pos hz] at hx; exact hx)
    subst hz
    clear hx h hn hk hl hix hL0
    by_cases hm0 : m = 0
    · subst hm0
      have hres : Hid (entM L 0 = (V.zero, V.zero, false, 0)) := hid (by
        unfold entM
        rw [firstLive_no (fun a h1 h2 => by rw [hm.out] at h2; omega)])
      have hq := hid (hx'.out.symm.trans hres.out)
      clear hx' hA
      show Calls Try.prog 27 #[.pointer (some ⟨c, 0, none⟩), .agg #[.int .i64 0, .int .i64 0, .int .i64 0, .string ⟨#[]⟩, .int .i64 0]] w _
      cases A
      all_goals
        go_enter Try.func27, Try.ntmps27
        go_wp2_with fail
        go_loopw [42] (fun i wr => i = .int .i64 0 ∧ Hid (Chg (fun _ => False) w wr) ∧ Hid (Bk wr (w.heap.size + 1) 26 V.zero.cs ∧ Bk wr (w.heap.size + 1 + 1) 26 V.zero.cs)) (fun i _ => (0 : Nat))
        case atStart => exact ⟨rfl, hc3, hid ⟨hB4.out, hB5.out⟩⟩
        case round =>
          obtain ⟨rfl, hC, hB⟩ := hrel
          clear hc3 hB3 hB4 hB5
          have hlz : w.heap.size + 1 + 1 < wr.heap.size := hB.out.2.lt
          have hlz1 : w.heap.size + 1 < wr.heap.size := by omega
          obtain ⟨z0, z1, z2, z3, z4⟩ := V.box hB.out.1
          have hfz := fun j => hB.out.1.frozen j
          obtain ⟨v0, v1, v2, v3, v4⟩ := V.box hB.out.2
          have hfv := fun j => hB.out.2.frozen j
          simp only [V.zero] at z0 z1 z2 z3 z4 v0 v1 v2 v3 v4
          go_wp2_with fail
          refine ret_vvbe (t1 := 4) (t2 := 5) (u1 := 6) (u2 := 7) (b1 := w.heap.size + 1) (b2 := w.heap.size + 1 + 1) (x1 := V.zero) (x2 := V.zero) rfl rfl rfl rfl rfl rfl ((put5_bk (y := V.zero) hB.out.1).chg (put5_chg _ (w.heap.size + 1 + 1) 0 V.zero) (by omega)) (put5_bk (y := V.zero) (hB.out.2.chg (put5_chg _ (w.heap.size + 1) 0 V.zero) (by omega))) ⟨by
            have e := hq.out
            simp only [Prod.mk.injEq] at e
            obtain ⟨rfl, rfl, rfl, rfl⟩ := e
            rfl, ?_⟩
          exact (hC.out.trans (put5_chg _ (w.heap.size + 1) 0 V.zero) (fun j hj e => by omega)).trans (put5_chg _ (w.heap.size + 1 + 1) 0 V.zero) (fun j hj e => by omega)
    obtain ⟨g, rfl⟩ := hA (by rw [hm.out]; omega)
    clear hA
    show Calls Try.prog 27 #[.pointer (some ⟨c, 0, none⟩), .agg #[.int .i64 0, .int .i64 0, .int .i64 0, .string ⟨#[]⟩, .int .i64 0]] w _
    go_enter Try.func27, Try.ntmps27
    go_wp2_with fail
    go_loopw [42] (fun i wr => ∃ p : Nat, p ≤ m ∧ i = .int .i64 p ∧ Hid (∀ a, 0 ≤ a → a < p → (slAt L a).g = true) ∧ Hid (Chg (fun _ => False) w wr) ∧ Hid (Bk wr (w.heap.size + 1) 26 V.zero.cs ∧ Bk wr (w.heap.size + 1 + 1) 26 V.zero.cs)) (fun i _ => m - (intOf i).toNat)
    case atStart => exact ⟨0, by omega, rfl, hid (fun a h1 h2 => absurd h2 (by omega)), hc3, hid ⟨hB4.out, hB5.out⟩⟩
    case round =>
      obtain ⟨p, hp, rfl, hG, hC, hB⟩ := hrel
      clear hc3 hB3 hB4 hB5
      by_cases hlt : p < m
      · obtain ⟨g', o, e0, hg, hcell⟩ := Sl.at_ (hrow.out.none_ hC.out) (i := p) (by rw [hm.out]; exact hlt)
        obtain ⟨rfl, rfl⟩ : g = g' ∧ 0 = o := by injection e0 with e0; injection e0 with a b; exact ⟨a, b⟩
        clear e0
        have y0 := hcell 0 (by omega)
        have y1 := hcell 1 (by omega)
        have y2 := hcell 2 (by omega)
        have y3 := hcell 3 (by omega)
        have y4 := hcell 4 (by omega)
        have y5 := hcell 5 (by omega)
        have y6 := hcell 6 (by omega)
        have y7 := hcell 7 (by omega)
        have y8 := hcell 8 (by omega)
        have y9 := hcell 9 (by omega)
        have y10 := hcell 10 (by omega)
        simp only [Sl.cs, List.getElem?_cons_succ, List.getElem?_cons_zero, Nat.add_zero, Nat.zero_add] at y0 y1 y2 y3 y4 y5 y6 y7 y8 y9 y10
        clear hcell
        skip
        obtain ⟨a1, ha1⟩ : ∃ a, Hid ((slAt L p).k = a) := ⟨_, hid rfl⟩
        obtain ⟨a2, ha2⟩ : ∃ a, Hid ((slAt L p).v = a) := ⟨_, hid rfl⟩
        rw [ha1.out] at y0 y1 y2 y3 y4
        rw [ha2.out] at y5 y6 y7 y8 y9
        have hzl := hC.out.size
        obtain ⟨bg, hbg⟩ : ∃ b, Hid ((slAt L p).g = b) := ⟨_, hid rfl⟩
        rw [hbg.out] at y10
        cases bg
        case' true =>
          go_wp2_with fail
          go_roundw
          case rel => exact ⟨p + 1, by omega, by go_num, hid (fun a h1 h2 => by
            by_cases e : a = p
            · rw [e]; exact hbg.out
            · exact hG.out a h1 (by omega)), hid (hC.out.alloc _), hid ⟨hB.out.1.alloc _, hB.out.2.alloc _⟩⟩
          case measure => simp [intOf]; omega
        case' false =>
          have hres : Hid (entM L 0 = (a1, a2, true, 0)) := hid (by
            unfold entM
            rw [firstLive_of (by omega) (by rw [hm.out]; exact hlt) hbg.out (fun a h1 h2 => hG.out a h1 h2)]
            simp only [ha1.out, ha2.out])
          have hq := hid (hx'.out.symm.trans hres.out)
          go_wp2_with fail
          have hS : Hid (Bk ((wr.alloc (.cells (Sl.cs ⟨a1, a2, false⟩).toArray 72)).drew) wr.heap.size 72 (Sl.cs ⟨a1, a2, false⟩)) := hid (Bk.new wr 72 (Sl.cs ⟨a1, a2, false⟩)).drew
          have hW4 := hid ((hB.out.1.alloc (.cells (Sl.cs ⟨a1, a2, false⟩).toArray 72)).drew)
          have hW5 := hid ((hB.out.2.alloc (.cells (Sl.cs ⟨a1, a2, false⟩).toArray 72)).drew)
          have hlz : w.heap.size + 1 + 1 < wr.heap.size := hB.out.2.lt
          have hlz1 : w.heap.size + 1 < wr.heap.size := by omega
          obtain ⟨z0, z1, z2, z3, z4⟩ := V.box hB.out.1
          have hfz := fun j => hB.out.1.frozen j
          obtain ⟨v0, v1, v2, v3, v4⟩ := V.box hB.out.2
          have hfv := fun j => hB.out.2.frozen j
          simp only [V.zero] at z0 z1 z2 z3 z4 v0 v1 v2 v3 v4
          clear y0 y1 y2 y3 y4 y5 y6 y7 y8 y9 y10
          refine wp_region_rc (id := 13) [.rd [0, 1, 2, 3], .act 4] [5, 6, 7] [] (fun w' => Bk w' wr.heap.size 72 (Sl.cs ⟨a1, a2, false⟩)) (by kernel_rfl) 56 rfl (by kernel_rfl) (fun _ _ _ _ _ h => h) hS.out ?_
          refine steps_rdW ?_
          apply Exists.intro
          refine ⟨?_, ?_⟩
          focus
            intro w' hS1
            have s0 := hS1.cell 0
            have s1 := hS1.cell 1
            have s2 := hS1.cell 2
            have s3 := hS1.cell 3
            have s4 := hS1.cell 4
            have s5 := hS1.cell 5
            have s6 := hS1.cell 6
            have s7 := hS1.cell 7
            have s8 := hS1.cell 8
            have s9 := hS1.cell 9
            simp only [Sl.cs, List.getElem?_cons_succ, List.getElem?_cons_zero] at s0 s1 s2 s3 s4 s5 s6 s7 s8 s9
            clear hS1
            iterate 4 (refine stW_step rfl (fun K hK => ?_); go_simp; refine hK _ ?_; clear hK K)
            exact stW_nil rfl
          refine steps_act (o := ⟨_, _, _, _, _, _⟩) rfl (fun K2 hK2 => ?_)
          have hP3 : Hid (Bk (((put5 wr (w.heap.size + 1) 0 a1).alloc (.cells (Sl.cs ⟨a1, a2, false⟩).toArray 72)).drew) wr.heap.size 72 (Sl.cs ⟨a1, a2, false⟩)) := hid (Bk.new_at (put5 wr (w.heap.size + 1) 0 a1) 72 (Sl.cs ⟨a1, a2, false⟩).toArray wr.heap.size (by simp [put5])).drew
          go_wp2_with fail
          refine hK2 _ _ hP3.out rfl ?_
          clear hK2 K2
          refine steps_nil (l := [⟨_, _, _, _, _, _⟩, ⟨_, _, _, _, _, _⟩, ⟨_, _, _, _, _, _⟩]) rfl (fun K2 hK2 => ?_)
          go_wp2_with fail
          refine hK2 _ _ rfl ?_
          clear hK2 K2
          refine stI_nil ?_
          go_wp2_with fail
          refine ret_vvbe (t1 := 4) (t2 := 5) (u1 := 6) (u2 := 7) (b1 := w.heap.size + 1) (b2 := w.heap.size + 1 + 1) (x1 := a1) (x2 := a2) rfl rfl rfl rfl rfl rfl ((((put5_bk (y := a1) hB.out.1).chg (put5_chg _ (w.heap.size + 1 + 1) 0 a2) (by omega)).alloc (.cells (Sl.cs ⟨a1, a2, false⟩).toArray 72)).drew) (((put5_bk (y := a2) (hB.out.2.chg (put5_chg _ (w.heap.size + 1) 0 a1) (by omega))).alloc (.cells (Sl.cs ⟨a1, a2, false⟩).toArray 72)).drew) ⟨by
            have e := hq.out
            simp only [Prod.mk.injEq] at e
            obtain ⟨rfl, rfl, rfl, rfl⟩ := e
            rfl, ?_⟩
          exact (((hC.out.trans (put5_chg _ (w.heap.size + 1) 0 a1) (fun j hj e => by omega)).trans (put5_chg _ (w.heap.size + 1 + 1) 0 a2) (fun j hj e => by omega)).alloc _).drew
      · have hres : Hid (entM L 0 = (V.zero, V.zero, false, 0)) := hid (by
          unfold entM
          rw [firstLive_no (fun a h1 h2 => hG.out a h1 (by rw [hm.out] at h2; omega))])
        have hq := hid (hx'.out.symm.trans hres.out)
        have hlz : w.heap.size + 1 + 1 < wr.heap.size := hB.out.2.lt
        have hlz1 : w.heap.size + 1 < wr.heap.size := by omega
        obtain ⟨z0, z1, z2, z3, z4⟩ := V.box hB.out.1
        have hfz := fun j => hB.out.1.frozen j
        obtain ⟨v0, v1, v2, v3, v4⟩ := V.box hB.out.2
        have hfv := fun j => hB.out.2.frozen j
        simp only [V.zero] at z0 z1 z2 z3 z4 v0 v1 v2 v3 v4
        go_wp2_with fail
        refine ret_vvbe (t1 := 4) (t2 := 5) (u1 := 6) (u2 := 7) (b1 := w.heap.size + 1) (b2 := w.heap.size + 1 + 1) (x1 := V.zero) (x2 := V.zero) rfl rfl rfl rfl rfl rfl ((put5_bk (y := V.zero) hB.out.1).chg (put5_chg _ (w.heap.size + 1 + 1) 0 V.zero) (by omega)) (put5_bk (y := V.zero) (hB.out.2.chg (put5_chg _ (w.heap.size + 1) 0 V.zero) (by omega))) ⟨by
          have e := hq.out
          simp only [Prod.mk.injEq] at e
          obtain ⟨rfl, rfl, rfl, rfl⟩ := e
          rfl, ?_⟩
        exact (hC.out.trans (put5_chg _ (w.heap.size + 1) 0 V.zero) (fun j hj e => by omega)).trans (put5_chg _ (w.heap.size + 1 + 1) 0 V.zero) (fun j hj e => by omega)
  · obtain ⟨kk, kp, kq, ks, kr⟩ := k
    have hcs := V.parts hz
    simp only at hcs
    obtain ⟨y, hy⟩ : ∃ y, Hid (ixI L ⟨kk, kp, kq, ks, kr⟩ = y) := ⟨_, hid rfl⟩
    obtain ⟨b, hb⟩ : ∃ b, Hid ((lastIx L ⟨kk, kp, kq, ks, kr⟩).isSome = b) := ⟨_, hid rfl⟩
    have hb3 : Hid (Bk ((((w.alloc (.cells (V.cs ⟨kk, kp, kq, ks, kr⟩).toArray 26)).alloc (.cells V.zero.cs.toArray 26)).alloc (.cells V.zero.cs.toArray 26)).drew) w.heap.size 26 (V.cs ⟨kk, kp, kq, ks, kr⟩)) := hid hB3.out.drew
    have hxr : Hid (nextM L ⟨kk, kp, kq, ks, kr⟩ = (x1, x2, bb, e1)) := hid hx
    have hnz := hid hz
    clear hx h hn hk hz
    go_enter Try.func27, Try.ntmps27
    go_upto_region 4 with fail
    go_cut [19] (fun t wx => t = .bool true ∧ wx = (((w.alloc (.cells #[.int .i64 kk, .int .i64 kp, .int .i64 kq, .string ks, .int .i64 kr] 26)).alloc (.cells #[.int .i64 0, .int .i64 0, .int .i64 0, .string ⟨#[]⟩, .int .i64 0] 26)).alloc (.cells #[.int .i64 0, .int .i64 0, .int .i64 0, .string ⟨#[]⟩, .int .i64 0] 26)))
    case first =>
      rcases hcs with h | ⟨rfl, h⟩ | ⟨rfl, rfl, h⟩ | ⟨rfl, rfl, rfl, h⟩ | ⟨rfl, rfl, rfl, rfl, h⟩
      case' inr.inr.inr.inl => have h : ¬ ks.toList = [] := fun e => h (bytes_nil e)
      all_goals
        go_wp2_with fail
        go_meet
        case rel => exact ⟨rfl, rfl⟩
    case rest =>
      obtain ⟨rfl, rfl⟩ := hcut
      cases hi : lastIx L ⟨kk, kp, kq, ks, kr⟩ with
      | none =>
        have hb' : Hid ((lastIx L ⟨kk, kp, kq, ks, kr⟩).isSome = false) := hid (by rw [hi]; rfl)
        have hres : Hid (nextM L ⟨kk, kp, kq, ks, kr⟩ = (V.zero, V.zero, false, 13)) := hid (by unfold nextM; rw [if_neg hnz.out, hi])
        have hq := hid (hxr.out.symm.trans hres.out)
        clear hi hb
        go_wp2_with fail
        refine wp_region_rc (id := 5) [.rd [0, 1, 2, 3, 4, 5, 6, 7, 8, 9, 10]] [] [] (fun w' => w'.cell? ⟨c, 1, none⟩ = some (.map (some bm)) ∧ w'.ownsMap Try.prog 26 (plainElem Try.prog 3) bm n D ∧ Bk w' w.heap.size 26 (V.cs ⟨kk, kp, kq, ks, kr⟩)) (by kernel_rfl) 56 rfl (by kernel_rfl) (fun _ _ _ _ _ h => h) ⟨hL0.out.blk.cell 1, hL0.out.mp, hb3.out⟩ ?_
        refine steps_rdW ?_
        apply Exists.intro
        refine ⟨?_, ?_⟩
        focus
          rintro w' ⟨q1, hS2, hS3⟩
          obtain ⟨z0, z1, z2, z3, z4⟩ := V.box hS3
          simp only at z0 z1 z2 z3 z4
          have hrun := look_ok_run hS2 hix.out hl.out hy.out hb'.out
          clear hS2 hS3
          iterate 11 (refine stW_step rfl (fun K hK => ?_); go_simp; refine hK _ ?_; clear hK K)
          exact stW_nil rfl
        refine steps_end rfl ?_
        go_wp2_with fail
        refine ret_vvbe (t1 := 4) (t2 := 5) (u1 := 6) (u2 := 7) (b1 := w.heap.size + 1) (b2 := w.heap.size + 1 + 1) (x1 := V.zero) (x2 := V.zero) rfl rfl rfl rfl rfl rfl hB4.out.drew hB5.out.drew ⟨by
          have e := hq.out
          simp only [Prod.mk.injEq] at e
          obtain ⟨rfl, rfl, rfl, rfl⟩ := e
          rfl, ?_⟩
        exact hc3.out.drew
      | some i =>
        have hb' : Hid ((lastIx L ⟨kk, kp, kq, ks, kr⟩).isSome = true) := hid (by rw [hi]; rfl)
        have hy' : Hid (ixI L ⟨kk, kp, kq, ks, kr⟩ = (i : Int)) := hid (by unfold ixI; rw [hi])
        have hx' : Hid (entM L (i + 1) = (x1, x2, bb, e1)) := hid (by have := hxr.out; unfold nextM at this; rw [if_neg hnz.out, hi] at this; exact this)
        have him : i < m := by have := (lastIx_some hi).1; have := hm.out; omega
        have him2 : (i : Int) + 1 ≤ (m : Int) := by omega
        have hwi : IntKind.i64.wrap ((i : Int) + 1) = (i : Int) + 1 := by rw [IntKind.wrap_i64]; omega
        obtain ⟨g, rfl⟩ := hA (by rw [hm.out]; omega)
        clear hi hb hy hA
        refine (Classical.em (m = i + 1)).elim ?last ?more
        case' last =>
          intro he
          have hres : Hid (entM L (i + 1) = (V.zero, V.zero, false, 0)) := hid (by
            unfold entM
            rw [firstLive_no (fun a h1 h2 => by rw [hm.out] at h2; omega)])
          have hq := hid (hx'.out.symm.trans hres.out)
          subst he
        case' more =>
          intro he
          have hcn : ¬ cap = i + 1 := by omega
          have hpz := i
        all_goals
          go_wp2_with fail
          refine wp_region_rc (id := 5) [.rd [0, 1, 2, 3, 4, 5, 6, 7, 8, 9, 10]] [] [] (fun w' => w'.cell? ⟨c, 1, none⟩ = some (.map (some bm)) ∧ w'.ownsMap Try.prog 26 (plainElem Try.prog 3) bm n D ∧ Bk w' w.heap.size 26 (V.cs ⟨kk, kp, kq, ks, kr⟩)) (by kernel_rfl) 56 rfl (by kernel_rfl) (fun _ _ _ _ _ h => h) ⟨hL0.out.blk.cell 1, hL0.out.mp, hb3.out⟩ ?_
          refine steps_rdW ?_
          apply Exists.intro
          refine ⟨?_, ?_⟩
          focus
            rintro w' ⟨q1, hS2, hS3⟩
            obtain ⟨z0, z1, z2, z3, z4⟩ := V.box hS3
            simp only at z0 z1 z2 z3 z4
            have hrun := look_ok_run hS2 hix.out hl.out hy'.out hb'.out
            clear hS2 hS3
            iterate 11 (refine stW_step rfl (fun K hK => ?_); go_simp; refine hK _ ?_; clear hK K)
            exact stW_nil rfl
          refine steps_end rfl ?_
          go_wp2_with fail
        · have hc3 := hid hc3.out.drew
          have hB4 := hid hB4.out.drew
          have hB5 := hid hB5.out.drew
          go_loopw [42] (fun ii wr => ∃ p : Nat, (i + 1 + p) ≤ m ∧ ii = .int .i64 p ∧ Hid (∀ a, i + 1 ≤ a → a < (i + 1 + p) → (slAt L a).g = true) ∧ Hid (Chg (fun _ => False) w wr) ∧ Hid (Bk wr (w.heap.size + 1) 26 V.zero.cs ∧ Bk wr (w.heap.size + 1 + 1) 26 V.zero.cs)) (fun ii _ => m - (intOf ii).toNat)
          case atStart => exact ⟨0, by omega, rfl, hid (fun a h1 h2 => absurd h2 (by omega)), hc3, hid ⟨hB4.out, hB5.out⟩⟩
          case round =>
            obtain ⟨p, hp, rfl, hG, hC, hB⟩ := hrel
            clear hc3 hB3 hB4 hB5
            by_cases hlt : (i + 1 + p) < m
            · obtain ⟨g', o, e0, hg, hcell⟩ := Sl.at_ (hrow.out.none_ hC.out) (i := (i + 1 + p)) (by rw [hm.out]; exact hlt)
              obtain ⟨rfl, rfl⟩ : g = g' ∧ 0 = o := by injection e0 with e0; injection e0 with a b; exact ⟨a, b⟩
              clear e0
              have y0 := hcell 0 (by omega)
              have y1 := hcell 1 (by omega)
              have y2 := hcell 2 (by omega)
              have y3 := hcell 3 (by omega)
              have y4 := hcell 4 (by omega)
              have y5 := hcell 5 (by omega)
              have y6 := hcell 6 (by omega)
              have y7 := hcell 7 (by omega)
              have y8 := hcell 8 (by omega)
              have y9 := hcell 9 (by omega)
              have y10 := hcell 10 (by omega)
              simp only [Sl.cs, List.getElem?_cons_succ, List.getElem?_cons_zero, Nat.add_zero, Nat.zero_add] at y0 y1 y2 y3 y4 y5 y6 y7 y8 y9 y10
              clear hcell
              have hsp : (i + 1 + p) * 11 = (i + 1) * 11 + p * 11 := by omega
              rw [hsp] at y0 y1 y2 y3 y4 y5 y6 y7 y8 y9 y10
              clear hsp
              have hlt2 : p < m - (i + 1) := by omega
              obtain ⟨a1, ha1⟩ : ∃ a, Hid ((slAt L (i + 1 + p)).k = a) := ⟨_, hid rfl⟩
              obtain ⟨a2, ha2⟩ : ∃ a, Hid ((slAt L (i + 1 + p)).v = a) := ⟨_, hid rfl⟩
              rw [ha1.out] at y0 y1 y2 y3 y4
              rw [ha2.out] at y5 y6 y7 y8 y9
              have hzl := hC.out.size
              obtain ⟨bg, hbg⟩ : ∃ b, Hid ((slAt L (i + 1 + p)).g = b) := ⟨_, hid rfl⟩
              rw [hbg.out] at y10
              cases bg
              case' true =>
                go_wp2_with fail
                go_roundw
                case rel => exact ⟨p + 1, by omega, by go_num, hid (fun a h1 h2 => by
                  by_cases e : a = (i + 1 + p)
                  · rw [e]; exact hbg.out
                  · exact hG.out a h1 (by omega)), hid (hC.out.alloc _), hid ⟨hB.out.1.alloc _, hB.out.2.alloc _⟩⟩
                case measure => simp [intOf]; omega
              case' false =>
                have hres : Hid (entM L (i + 1) = (a1, a2, true, 0)) := hid (by
                  unfold entM
                  rw [firstLive_of (by omega) (by rw [hm.out]; exact hlt) hbg.out (fun a h1 h2 => hG.out a h1 h2)]
                  simp only [ha1.out, ha2.out])
                have hq := hid (hx'.out.symm.trans hres.out)
                go_wp2_with fail
                have hS : Hid (Bk ((wr.alloc (.cells (Sl.cs ⟨a1, a2, false⟩).toArray 72)).drew) wr.heap.size 72 (Sl.cs ⟨a1, a2, false⟩)) := hid (Bk.new wr 72 (Sl.cs ⟨a1, a2, false⟩)).drew
                have hW4 := hid ((hB.out.1.alloc (.cells (Sl.cs ⟨a1, a2, false⟩).toArray 72)).drew)
                have hW5 := hid ((hB.out.2.alloc (.cells (Sl.cs ⟨a1, a2, false⟩).toArray 72)).drew)
                have hlz : w.heap.size + 1 + 1 < wr.heap.size := hB.out.2.lt
                have hlz1 : w.heap.size + 1 < wr.heap.size := by omega
                obtain ⟨z0, z1, z2, z3, z4⟩ := V.box hB.out.1
                have hfz := fun j => hB.out.1.frozen j
                obtain ⟨v0, v1, v2, v3, v4⟩ := V.box hB.out.2
                have hfv := fun j => hB.out.2.frozen j
                simp only [V.zero] at z0 z1 z2 z3 z4 v0 v1 v2 v3 v4
                clear y0 y1 y2 y3 y4 y5 y6 y7 y8 y9 y10
                refine wp_region_rc (id := 13) [.rd [0, 1, 2, 3], .act 4] [5, 6, 7] [] (fun w' => Bk w' wr.heap.size 72 (Sl.cs ⟨a1, a2, false⟩)) (by kernel_rfl) 56 rfl (by kernel_rfl) (fun _ _ _ _ _ h => h) hS.out ?_
                refine steps_rdW ?_
                apply Exists.intro
                refine ⟨?_, ?_⟩
                focus
                  intro w' hS1
                  have s0 := hS1.cell 0
                  have s1 := hS1.cell 1
                  have s2 := hS1.cell 2
                  have s3 := hS1.cell 3
                  have s4 := hS1.cell 4
                  have s5 := hS1.cell 5
                  have s6 := hS1.cell 6
                  have s7 := hS1.cell 7
                  have s8 := hS1.cell 8
                  have s9 := hS1.cell 9
                  simp only [Sl.cs, List.getElem?_cons_succ, List.getElem?_cons_zero] at s0 s1 s2 s3 s4 s5 s6 s7 s8 s9
                  clear hS1
                  iterate 4 (refine stW_step rfl (fun K hK => ?_); go_simp; refine hK _ ?_; clear hK K)
                  exact stW_nil rfl
                refine steps_act (o := ⟨_, _, _, _, _, _⟩) rfl (fun K2 hK2 => ?_)
                have hP3 : Hid (Bk (((put5 wr (w.heap.size + 1) 0 a1).alloc (.cells (Sl.cs ⟨a1, a2, false⟩).toArray 72)).drew) wr.heap.size 72 (Sl.cs ⟨a1, a2, false⟩)) := hid (Bk.new_at (put5 wr (w.heap.size + 1) 0 a1) 72 (Sl.cs ⟨a1, a2, false⟩).toArray wr.heap.size (by simp [put5])).drew
                go_wp2_with fail
                refine hK2 _ _ hP3.out rfl ?_
                clear hK2 K2
                refine steps_nil (l := [⟨_, _, _, _, _, _⟩, ⟨_, _, _, _, _, _⟩, ⟨_, _, _, _, _, _⟩]) rfl (fun K2 hK2 => ?_)
                go_wp2_with fail
                refine hK2 _ _ rfl ?_
                clear hK2 K2
                refine stI_nil ?_
                go_wp2_with fail
                refine ret_vvbe (t1 := 4) (t2 := 5) (u1 := 6) (u2 := 7) (b1 := w.heap.size + 1) (b2 := w.heap.size + 1 + 1) (x1 := a1) (x2 := a2) rfl rfl rfl rfl rfl rfl ((((put5_bk (y := a1) hB.out.1).chg (put5_chg _ (w.heap.size + 1 + 1) 0 a2) (by omega)).alloc (.cells (Sl.cs ⟨a1, a2, false⟩).toArray 72)).drew) (((put5_bk (y := a2) (hB.out.2.chg (put5_chg _ (w.heap.size + 1) 0 a1) (by omega))).alloc (.cells (Sl.cs ⟨a1, a2, false⟩).toArray 72)).drew) ⟨by
                  have e := hq.out
                  simp only [Prod.mk.injEq] at e
                  obtain ⟨rfl, rfl, rfl, rfl⟩ := e
                  rfl, ?_⟩
                exact (((hC.out.trans (put5_chg _ (w.heap.size + 1) 0 a1) (fun j hj e => by omega)).trans (put5_chg _ (w.heap.size + 1 + 1) 0 a2) (fun j hj e => by omega)).alloc _).drew
            · have hres : Hid (entM L (i + 1) = (V.zero, V.zero, false, 0)) := hid (by
                unfold entM
                rw [firstLive_no (fun a h1 h2 => hG.out a h1 (by rw [hm.out] at h2; omega))])
              have hq := hid (hx'.out.symm.trans hres.out)
              have hlz : w.heap.size + 1 + 1 < wr.heap.size := hB.out.2.lt
              have hlz1 : w.heap.size + 1 < wr.heap.size := by omega
              obtain ⟨z0, z1, z2, z3, z4⟩ := V.box hB.out.1
              have hfz := fun j => hB.out.1.frozen j
              obtain ⟨v0, v1, v2, v3, v4⟩ := V.box hB.out.2
              have hfv := fun j => hB.out.2.frozen j
              simp only [V.zero] at z0 z1 z2 z3 z4 v0 v1 v2 v3 v4
              go_wp2_with fail
              refine ret_vvbe (t1 := 4) (t2 := 5) (u1 := 6) (u2 := 7) (b1 := w.heap.size + 1) (b2 := w.heap.size + 1 + 1) (x1 := V.zero) (x2 := V.zero) rfl rfl rfl rfl rfl rfl ((put5_bk (y := V.zero) hB.out.1).chg (put5_chg _ (w.heap.size + 1 + 1) 0 V.zero) (by omega)) (put5_bk (y := V.zero) (hB.out.2.chg (put5_chg _ (w.heap.size + 1) 0 V.zero) (by omega))) ⟨by
                have e := hq.out
                simp only [Prod.mk.injEq] at e
                obtain ⟨rfl, rfl, rfl, rfl⟩ := e
                rfl, ?_⟩
              exact (hC.out.trans (put5_chg _ (w.heap.size + 1) 0 V.zero) (fun j hj e => by omega)).trans (put5_chg _ (w.heap.size + 1 + 1) 0 V.zero) (fun j hj e => by omega)
        all_goals
          have hc3 := hid hc3.out.drew
          have hB4 := hid hB4.out.drew
          have hB5 := hid hB5.out.drew
          go_loopw [42] (fun i wr => i = .int .i64 0 ∧ Hid (Chg (fun _ => False) w wr) ∧ Hid (Bk wr (w.heap.size + 1) 26 V.zero.cs ∧ Bk wr (w.heap.size + 1 + 1) 26 V.zero.cs)) (fun i _ => (0 : Nat))
          case atStart => exact ⟨rfl, hc3, hid ⟨hB4.out, hB5.out⟩⟩
          case round =>
            obtain ⟨rfl, hC, hB⟩ := hrel
            clear hc3 hB3 hB4 hB5
            have hlz : w.heap.size + 1 + 1 < wr.heap.size := hB.out.2.lt
            have hlz1 : w.heap.size + 1 < wr.heap.size := by omega
            obtain ⟨z0, z1, z2, z3, z4⟩ := V.box hB.out.1
            have hfz := fun j => hB.out.1.frozen j
            obtain ⟨v0, v1, v2, v3, v4⟩ := V.box hB.out.2
            have hfv := fun j => hB.out.2.frozen j
            simp only [V.zero] at z0 z1 z2 z3 z4 v0 v1 v2 v3 v4
            go_wp2_with fail
            refine ret_vvbe (t1 := 4) (t2 := 5) (u1 := 6) (u2 := 7) (b1 := w.heap.size + 1) (b2 := w.heap.size + 1 + 1) (x1 := V.zero) (x2 := V.zero) rfl rfl rfl rfl rfl rfl ((put5_bk (y := V.zero) hB.out.1).chg (put5_chg _ (w.heap.size + 1 + 1) 0 V.zero) (by omega)) (put5_bk (y := V.zero) (hB.out.2.chg (put5_chg _ (w.heap.size + 1) 0 V.zero) (by omega))) ⟨by
              have e := hq.out
              simp only [Prod.mk.injEq] at e
              obtain ⟨rfl, rfl, rfl, rfl⟩ := e
              rfl, ?_⟩
            exact (hC.out.trans (put5_chg _ (w.heap.size + 1) 0 V.zero) (fun j hj e => by omega)).trans (put5_chg _ (w.heap.size + 1 + 1) 0 V.zero) (fun j hj e => by omega)
end
end Go.Proofs.Ytoelgnjnbelokaa
