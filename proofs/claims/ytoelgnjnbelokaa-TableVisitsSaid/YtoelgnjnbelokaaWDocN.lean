/-
  Next of the document's map.
-/
import Derived.Test.YtoelgnjnbelokaaWNext
namespace Go.Proofs.Ytoelgnjnbelokaa
open Go.RowKit Go.Maps

/-- The document's map and one of its slots in memory. -/
def DSlot (w : World) (c g o p m cap : Nat) (x : Sl) : Prop := (Bk w c 82 [.slice (some ⟨g, o, none⟩) m cap] ∧ g < w.heap.size) ∧ ∀ j, j < 11 → w.cell? ⟨g, o + p * 11 + j, none⟩ = x.cs[j]?
theorem DSlot.chg {S : Nat → Prop} {w w' : World} {c g o p m cap : Nat} {x : Sl} (h : DSlot w c g o p m cap x) (hc : Chg S w w') (h1 : ¬ S c) (h2 : ¬ S g) : DSlot w' c g o p m cap x :=
  ⟨⟨h.1.1.chg hc h1, Nat.lt_of_lt_of_le h.1.2 hc.size⟩, fun j hj => (hc.cell (p := ⟨g, o + p * 11 + j, none⟩) h.1.2 h2).trans (h.2 j hj)⟩
section
variable {w w' : World} {c bm n : Nat} {vs : Value} {D : DataW Unit} {L : List Sl}
set_option maxRecDepth 100000 in
set_option maxHeartbeats 16000000 in
theorem doc_next (h : DocM w c vs L) (hn : L.length ≤ 1000000) {k : V} {x1 x2 : V} {bb : Bool} {e1 : Int} (hx : nextM L k = (x1, x2, bb, e1)) :
    Calls Try.prog 57 #[.pointer (some ⟨c, 0, none⟩), (.agg #[.int .i64 k.k, .int .i64 k.p, .int .i64 k.q, .string k.s, .int .i64 k.r])] w fun e w' => e = .returned (.tuple #[(.agg #[.int .i64 x1.k, .int .i64 x1.p, .int .i64 x1.q, .string x1.s, .int .i64 x1.r]), (.agg #[.int .i64 x2.k, .int .i64 x2.p, .int .i64 x2.q, .string x2.s, .int .i64 x2.r]), .bool bb, .int .i64 e1]) ∧ Chg (fun _ => False) w w' := by
  obtain ⟨A, cap, hvs, _, hcap, hA, -⟩ := own_form h.row
  subst hvs
  have hcl := h.blk.lt
  have hcl1 : c < w.heap.size + 1 := by omega
  have hcl2 : c < w.heap.size + 1 + 1 := by omega
  have hc3 : Hid (Chg (fun _ => False) w (((w.alloc (.cells k.cs.toArray 26)).alloc (.cells V.zero.cs.toArray 26)).alloc (.cells V.zero.cs.toArray 26))) := hid ((((Chg.refl _ w).alloc _).alloc _).alloc _)
  have hB3 : Hid (Bk (((w.alloc (.cells k.cs.toArray 26)).alloc (.cells V.zero.cs.toArray 26)).alloc (.cells V.zero.cs.toArray 26)) w.heap.size 26 k.cs) := hid (((Bk.new w 26 k.cs).alloc _).alloc _)
  have hB4 : Hid (Bk (((w.alloc (.cells k.cs.toArray 26)).alloc (.cells V.zero.cs.toArray 26)).alloc (.cells V.zero.cs.toArray 26)) (w.heap.size + 1) 26 V.zero.cs) := hid (by have := (Bk.new (w.alloc (.cells k.cs.toArray 26)) 26 V.zero.cs).alloc (.cells V.zero.cs.toArray 26); rw [alloc_sz] at this; exact this)
  have hB5 : Hid (Bk (((w.alloc (.cells k.cs.toArray 26)).alloc (.cells V.zero.cs.toArray 26)).alloc (.cells V.zero.cs.toArray 26)) (w.heap.size + 1 + 1) 26 V.zero.cs) := hid (by have := Bk.new ((w.alloc (.cells k.cs.toArray 26)).alloc (.cells V.zero.cs.toArray 26)) 26 V.zero.cs; rw [alloc_sz, alloc_sz] at this; exact this)
  have hH0 := hid (h.none_ hc3.out)
  obtain ⟨m, hm⟩ : ∃ m, Hid (L.length = m) := ⟨_, hid rfl⟩
  have hblk : Hid (Bk w c 82 [.slice A m cap]) := hid (by rw [← hm.out]; exact h.blk)
  have hmb : m ≤ 1000000 := by rw [← hm.out]; exact hn
  have hrow := hid (Rd.of_own h.row)
  have hn' := hid hn
  by_cases hz : k = V.zero
  · have hx' : Hid (entM L 0 = (x1, x2, bb, e1)) := hid (by unfold nextM at hx; rw [if_pos hz] at hx; exact hx)
    subst hz
    clear hx h hn hA hH0 hn'
    show Calls Try.prog 57 #[.pointer (some ⟨c, 0, none⟩), .agg #[.int .i64 0, .int .i64 0, .int .i64 0, .string ⟨#[]⟩, .int .i64 0]] w _
    go_enter Try.func57, Try.ntmps57
    go_wp2_with fail
    go_loopw [9] (fun ii wr => ∃ p : Nat, 0 ≤ p ∧ p ≤ m ∧ ii = .int .i64 p ∧ Hid (∀ a, 0 ≤ a → a < p → (slAt L a).g = true) ∧ Hid (Chg (fun _ => False) w wr) ∧ Hid (Bk wr (w.heap.size + 1) 26 V.zero.cs ∧ Bk wr (w.heap.size + 1 + 1) 26 V.zero.cs)) (fun ii _ => m - (intOf ii).toNat)
    case atStart => exact ⟨0, by omega, by omega, by first | rfl | go_num, hid (fun a h1 h2 => absurd h2 (by omega)), hc3, hid ⟨hB4.out, hB5.out⟩⟩
    case round =>
      obtain ⟨p, hfp, hp, rfl, hG, hC, hB⟩ := hrel
      clear hc3 hB3 hB4 hB5
      have c0 := (hblk.out.none_ hC.out).cell 0
      simp only [List.getElem?_cons_zero] at c0
      by_cases hlt : p < m
      · obtain ⟨g0, o0, e0, hgw0, -⟩ := Sl.at_ hrow.out (i := p) (by rw [hm.out]; exact hlt)
        obtain ⟨g, o, rfl, hg, hcell⟩ := Sl.at_ (hrow.out.none_ hC.out) (i := p) (by rw [hm.out]; exact hlt)
        have hgw : Hid (g < w.heap.size) := hid (by injection e0 with e0; injection e0 with e1 e2; omega)
        have hcellh := hid hcell
        clear e0 hgw0
        have y0 := hcell 0 (by omega)
        have y1 := hcell 1 (by omega)
        have y2 := hcell 2 (by omega)
        have y3 := hcell 3 (by omega)
        have y4 := hcell 4 (by omega)
        have y5 := hcell 5 (by omega)
        have y6 := hcell 6 (by omega)
        have y7 := hcell 7 (by omega)
        have y8 := hcell 8 (by omega)
        have y9 := hcell 9 (by omega)
        have y10 := hcell 10 (by omega)
        simp only [Sl.cs, List.getElem?_cons_succ, List.getElem?_cons_zero, Nat.add_zero] at y0 y1 y2 y3 y4 y5 y6 y7 y8 y9 y10
        rw [← Nat.add_assoc] at y1 y2 y3 y4 y5 y6 y7 y8 y9 y10
        clear hcell
        obtain ⟨a1, ha1⟩ : ∃ a, Hid ((slAt L p).k = a) := ⟨_, hid rfl⟩
        obtain ⟨a2, ha2⟩ : ∃ a, Hid ((slAt L p).v = a) := ⟨_, hid rfl⟩
        rw [ha1.out] at y0 y1 y2 y3 y4
        rw [ha2.out] at y5 y6 y7 y8 y9
        have hpm : (p : Int) < (m : Int) := by omega
        obtain ⟨bg, hbg⟩ : ∃ b, Hid ((slAt L p).g = b) := ⟨_, hid rfl⟩
        rw [hbg.out] at y10
        cases bg
        case' true =>
          clear y0 y1 y2 y3 y4 y5 y6 y7 y8 y9
          go_wp2_with fail
          go_roundw
          case rel => exact ⟨p + 1, by omega, by omega, by go_num, hid (fun a h1 h2 => by
            by_cases e : a = p
            · rw [e]; exact hbg.out
            · exact hG.out a h1 (by omega)), hC, hB⟩
          case measure => simp [intOf]; omega
        case' false =>
          have hres : Hid (entM L 0 = (a1, a2, true, 0)) := hid (by
            unfold entM
            rw [firstLive_of (by omega) (by rw [hm.out]; exact hlt) hbg.out (fun a h1 h2 => hG.out a h1 h2)]
            simp only [ha1.out, ha2.out])
          have hq := hid (hx'.out.symm.trans hres.out)
          have hce : Hid (∀ j, j < 11 → wr.cell? ⟨g, o + (p * 11 + j), none⟩ = (Sl.cs ⟨a1, a2, false⟩)[j]?) := hid (fun j hj => by have h0 := hcellh.out j hj; rw [h0, ← ha1.out, ← ha2.out, ← hbg.out])
          go_wp2_with fail
          have hSw : Hid (DSlot wr c g o p m cap ⟨a1, a2, false⟩) := hid ⟨⟨hblk.out.none_ hC.out, hg⟩, fun j hj => by have h0 := hce.out j hj; rw [Nat.add_assoc]; exact h0⟩
          have hS0 : Hid (DSlot wr.drew c g o p m cap ⟨a1, a2, false⟩) := hid (DSlot.chg (S := fun _ => False) hSw.out ((Chg.refl (fun _ => False) wr).drew) id id)
          have hS1 : Hid (DSlot (put5 wr (w.heap.size + 1) 0 a1).drew c g o p m cap ⟨a1, a2, false⟩) := hid (DSlot.chg (S := fun k => k = w.heap.size + 1) hSw.out (put5_chg wr (w.heap.size + 1) 0 a1).drew (fun (e : c = w.heap.size + 1) => by omega) (fun (e : g = w.heap.size + 1) => by have := hgw.out; omega))
          clear y0 y1 y2 y3 y4 y5 y6 y7 y8 y9 y10 c0
          refine wp_region_rc (id := 12) [.rd [0, 1, 2, 3, 4, 5, 6, 7, 8, 9, 10, 11, 12, 13, 14, 15], .act 16] [17, 18, 19] [] (fun w' => DSlot w' c g o p m cap ⟨a1, a2, false⟩) (by kernel_rfl) 62 rfl (by kernel_rfl) (fun _ _ _ _ _ h => h) hS0.out ?_
          refine steps_rdW ?_
          apply Exists.intro
          refine ⟨?_, ?_⟩
          focus
            rintro w' ⟨⟨hSa, -⟩, hSb⟩
            have c0 := hSa.cell 0
            simp only [List.getElem?_cons_zero] at c0
            have y0 := hSb 0 (by omega)
            have y1 := hSb 1 (by omega)
            have y2 := hSb 2 (by omega)
            have y3 := hSb 3 (by omega)
            have y4 := hSb 4 (by omega)
            have y5 := hSb 5 (by omega)
            have y6 := hSb 6 (by omega)
            have y7 := hSb 7 (by omega)
            have y8 := hSb 8 (by omega)
            have y9 := hSb 9 (by omega)
            simp only [Sl.cs, List.getElem?_cons_succ, List.getElem?_cons_zero, Nat.add_zero] at y0 y1 y2 y3 y4 y5 y6 y7 y8 y9
            clear hSa hSb
            iterate 16 (refine stW_step rfl (fun K hK => ?_); go_simp; refine hK _ ?_; clear hK K)
            exact stW_nil rfl
          have hlz : w.heap.size + 1 + 1 < wr.heap.size := hB.out.2.lt
          have hlz1 : w.heap.size + 1 < wr.heap.size := by omega
          obtain ⟨z0, z1, z2, z3, z4⟩ := V.box hB.out.1
          have hfz := fun j => hB.out.1.frozen j
          obtain ⟨v0, v1, v2, v3, v4⟩ := V.box hB.out.2
          have hfv := fun j => hB.out.2.frozen j
          simp only [V.zero] at z0 z1 z2 z3 z4 v0 v1 v2 v3 v4
          refine steps_act (o := ⟨_, _, _, _, _, _⟩) rfl (fun K2 hK2 => ?_)
          go_wp2_with fail
          refine hK2 _ _ hS1.out rfl ?_
          clear hK2 K2
          refine steps_nil (l := [⟨_, _, _, _, _, _⟩, ⟨_, _, _, _, _, _⟩, ⟨_, _, _, _, _, _⟩]) rfl (fun K2 hK2 => ?_)
          go_wp2_with fail
          refine hK2 _ _ rfl ?_
          clear hK2 K2
          refine stI_nil ?_
          go_wp2_with fail
          refine ret_vvbe (t1 := 4) (t2 := 5) (u1 := 6) (u2 := 7) (b1 := w.heap.size + 1) (b2 := w.heap.size + 1 + 1) (x1 := a1) (x2 := a2) rfl rfl rfl rfl rfl rfl (((put5_bk (y := a1) hB.out.1).chg (put5_chg _ (w.heap.size + 1 + 1) 0 a2) (by omega)).drew) ((put5_bk (y := a2) (hB.out.2.chg (put5_chg _ (w.heap.size + 1) 0 a1) (by omega))).drew) ⟨by
            have e := hq.out
            simp only [Prod.mk.injEq] at e
            obtain ⟨rfl, rfl, rfl, rfl⟩ := e
            rfl, ?_⟩
          exact ((hC.out.trans (put5_chg _ (w.heap.size + 1) 0 a1) (fun j hj e => by omega)).trans (put5_chg _ (w.heap.size + 1 + 1) 0 a2) (fun j hj e => by omega)).drew
      · have hpm : p = m := by omega
        subst hpm
        have hres : Hid (entM L 0 = (V.zero, V.zero, false, 0)) := hid (by
          unfold entM
          rw [firstLive_no (fun a h1 h2 => hG.out a h1 (by rw [hm.out] at h2; omega))])
        have hq := hid (hx'.out.symm.trans hres.out)
        have hlz : w.heap.size + 1 + 1 < wr.heap.size := hB.out.2.lt
        have hlz1 : w.heap.size + 1 < wr.heap.size := by omega
        obtain ⟨z0, z1, z2, z3, z4⟩ := V.box hB.out.1
        have hfz := fun j => hB.out.1.frozen j
        obtain ⟨v0, v1, v2, v3, v4⟩ := V.box hB.out.2
        have hfv := fun j => hB.out.2.frozen j
        simp only [V.zero] at z0 z1 z2 z3 z4 v0 v1 v2 v3 v4
        go_wp2_with fail
        refine ret_vvbe (t1 := 4) (t2 := 5) (u1 := 6) (u2 := 7) (b1 := w.heap.size + 1) (b2 := w.heap.size + 1 + 1) (x1 := V.zero) (x2 := V.zero) rfl rfl rfl rfl rfl rfl ((put5_bk (y := V.zero) hB.out.1).chg (put5_chg _ (w.heap.size + 1 + 1) 0 V.zero) (by omega)) (put5_bk (y := V.zero) (hB.out.2.chg (put5_chg _ (w.heap.size + 1) 0 V.zero) (by omega))) ⟨by
          have e := hq.out
          simp only [Prod.mk.injEq] at e
          obtain ⟨rfl, rfl, rfl, rfl⟩ := e
          rfl, ?_⟩
        exact (hC.out.trans (put5_chg _ (w.heap.size + 1) 0 V.zero) (fun j hj e => by omega)).trans (put5_chg _ (w.heap.size + 1 + 1) 0 V.zero) (fun j hj e => by omega)
  · obtain ⟨kk, kp, kq, ks, kr⟩ := k
    have hcs := V.parts hz
    simp only at hcs
    have hxr : Hid (nextM L ⟨kk, kp, kq, ks, kr⟩ = (x1, x2, bb, e1)) := hid hx
    have hnz := hid hz
    clear hx h hn hz
    go_enter Try.func57, Try.ntmps57
    go_upto_region 4 with fail
    go_cut [16] (fun t wx => t = .bool true ∧ wx = (((w.alloc (.cells #[.int .i64 kk, .int .i64 kp, .int .i64 kq, .string ks, .int .i64 kr] 26)).alloc (.cells #[.int .i64 0, .int .i64 0, .int .i64 0, .string ⟨#[]⟩, .int .i64 0] 26)).alloc (.cells #[.int .i64 0, .int .i64 0, .int .i64 0, .string ⟨#[]⟩, .int .i64 0] 26)))
    case first =>
      rcases hcs with h | ⟨rfl, h⟩ | ⟨rfl, rfl, h⟩ | ⟨rfl, rfl, rfl, h⟩ | ⟨rfl, rfl, rfl, rfl, h⟩
      case' inr.inr.inr.inl => have h : ¬ ks.toList = [] := fun e => h (bytes_nil e)
      all_goals
        go_wp2_with fail
        go_meet
        case rel => exact ⟨rfl, rfl⟩
    case rest =>
      obtain ⟨rfl, rfl⟩ := hcut
      clear hcs
      cases hi : lastIx L ⟨kk, kp, kq, ks, kr⟩ with
      | none =>
        have hf : Hid (findI L ⟨kk, kp, kq, ks, kr⟩ = -1) := hid (by unfold findI; rw [hi])
        have hres : Hid (nextM L ⟨kk, kp, kq, ks, kr⟩ = (V.zero, V.zero, false, 13)) := hid (by unfold nextM; rw [if_neg hnz.out, hi])
        have hq := hid (hxr.out.symm.trans hres.out)
        clear hi hA
        go_wp2_with fail
        refine (doc_find hH0.out hn'.out ⟨kk, kp, kq, ks, kr⟩ hf.out).mono ?_
        rintro e wr ⟨rfl, hcf⟩
        have hC := hid (hc3.out.trans_same hcf)
        have hB := hid (show Bk wr (w.heap.size + 1) 26 V.zero.cs ∧ Bk wr (w.heap.size + 1 + 1) 26 V.zero.cs from ⟨hB4.out.none_ hcf, hB5.out.none_ hcf⟩)
        clear hcf hc3 hB3 hB4 hB5
        have hlz : w.heap.size + 1 + 1 < wr.heap.size := hB.out.2.lt
        have hlz1 : w.heap.size + 1 < wr.heap.size := by omega
        obtain ⟨z0, z1, z2, z3, z4⟩ := V.box hB.out.1
        have hfz := fun j => hB.out.1.frozen j
        obtain ⟨v0, v1, v2, v3, v4⟩ := V.box hB.out.2
        have hfv := fun j => hB.out.2.frozen j
        simp only [V.zero] at z0 z1 z2 z3 z4 v0 v1 v2 v3 v4
        go_wp2_with fail
        refine ret_vvbe (t1 := 4) (t2 := 5) (u1 := 6) (u2 := 7) (b1 := w.heap.size + 1) (b2 := w.heap.size + 1 + 1) (x1 := V.zero) (x2 := V.zero) rfl rfl rfl rfl rfl rfl ((put5_bk (y := V.zero) hB.out.1).chg (put5_chg _ (w.heap.size + 1 + 1) 0 V.zero) (by omega)) (put5_bk (y := V.zero) (hB.out.2.chg (put5_chg _ (w.heap.size + 1) 0 V.zero) (by omega))) ⟨by
          have e := hq.out
          simp only [Prod.mk.injEq] at e
          obtain ⟨rfl, rfl, rfl, rfl⟩ := e
          rfl, ?_⟩
        exact (hC.out.trans (put5_chg _ (w.heap.size + 1) 0 V.zero) (fun j hj e => by omega)).trans (put5_chg _ (w.heap.size + 1 + 1) 0 V.zero) (fun j hj e => by omega)
      | some i =>
        have hf : Hid (findI L ⟨kk, kp, kq, ks, kr⟩ = (i : Int)) := hid (by unfold findI; rw [hi])
        have hx' : Hid (entM L (i + 1) = (x1, x2, bb, e1)) := hid (by have := hxr.out; unfold nextM at this; rw [if_neg hnz.out, hi] at this; exact this)
        have him : i < m := by have := (lastIx_some hi).1; have := hm.out; omega
        have hwi : IntKind.i64.wrap ((i : Int) + 1) = ((i + 1 : Nat) : Int) := by rw [IntKind.wrap_i64] <;> omega
        clear hi hA
        go_wp2_with fail
        refine (doc_find hH0.out hn'.out ⟨kk, kp, kq, ks, kr⟩ hf.out).mono ?_
        rintro e w3 ⟨rfl, hcf⟩
        have hc4 := hid (hc3.out.trans_same hcf)
        have hB6 := hid (hB4.out.none_ hcf)
        have hB7 := hid (hB5.out.none_ hcf)
        clear hcf hc3 hB3 hB4 hB5
        go_wp2_with fail
        go_loopw [9] (fun ii wr => ∃ p : Nat, (i + 1) ≤ p ∧ p ≤ m ∧ ii = .int .i64 p ∧ Hid (∀ a, (i + 1) ≤ a → a < p → (slAt L a).g = true) ∧ Hid (Chg (fun _ => False) w wr) ∧ Hid (Bk wr (w.heap.size + 1) 26 V.zero.cs ∧ Bk wr (w.heap.size + 1 + 1) 26 V.zero.cs)) (fun ii _ => m - (intOf ii).toNat)
        case atStart => exact ⟨(i + 1), by omega, by omega, by first | rfl | go_num, hid (fun a h1 h2 => absurd h2 (by omega)), hc4, hid ⟨hB6.out, hB7.out⟩⟩
        case round =>
          obtain ⟨p, hfp, hp, rfl, hG, hC, hB⟩ := hrel
          clear hc4 hB6 hB7
          have c0 := (hblk.out.none_ hC.out).cell 0
          simp only [List.getElem?_cons_zero] at c0
          by_cases hlt : p < m
          · obtain ⟨g0, o0, e0, hgw0, -⟩ := Sl.at_ hrow.out (i := p) (by rw [hm.out]; exact hlt)
            obtain ⟨g, o, rfl, hg, hcell⟩ := Sl.at_ (hrow.out.none_ hC.out) (i := p) (by rw [hm.out]; exact hlt)
            have hgw : Hid (g < w.heap.size) := hid (by injection e0 with e0; injection e0 with e1 e2; omega)
            have hcellh := hid hcell
            clear e0 hgw0
            have y0 := hcell 0 (by omega)
            have y1 := hcell 1 (by omega)
            have y2 := hcell 2 (by omega)
            have y3 := hcell 3 (by omega)
            have y4 := hcell 4 (by omega)
            have y5 := hcell 5 (by omega)
            have y6 := hcell 6 (by omega)
            have y7 := hcell 7 (by omega)
            have y8 := hcell 8 (by omega)
            have y9 := hcell 9 (by omega)
            have y10 := hcell 10 (by omega)
            simp only [Sl.cs, List.getElem?_cons_succ, List.getElem?_cons_zero, Nat.add_zero] at y0 y1 y2 y3 y4 y5 y6 y7 y8 y9 y10
            rw [← Nat.add_assoc] at y1 y2 y3 y4 y5 y6 y7 y8 y9 y10
            clear hcell
            obtain ⟨a1, ha1⟩ : ∃ a, Hid ((slAt L p).k = a) := ⟨_, hid rfl⟩
            obtain ⟨a2, ha2⟩ : ∃ a, Hid ((slAt L p).v = a) := ⟨_, hid rfl⟩
            rw [ha1.out] at y0 y1 y2 y3 y4
            rw [ha2.out] at y5 y6 y7 y8 y9
            have hpm : (p : Int) < (m : Int) := by omega
            obtain ⟨bg, hbg⟩ : ∃ b, Hid ((slAt L p).g = b) := ⟨_, hid rfl⟩
            rw [hbg.out] at y10
            cases bg
            case' true =>
              clear y0 y1 y2 y3 y4 y5 y6 y7 y8 y9
              go_wp2_with fail
              go_roundw
              case rel => exact ⟨p + 1, by omega, by omega, by go_num, hid (fun a h1 h2 => by
                by_cases e : a = p
                · rw [e]; exact hbg.out
                · exact hG.out a h1 (by omega)), hC, hB⟩
              case measure => simp [intOf]; omega
            case' false =>
              have hres : Hid (entM L (i + 1) = (a1, a2, true, 0)) := hid (by
                unfold entM
                rw [firstLive_of (by omega) (by rw [hm.out]; exact hlt) hbg.out (fun a h1 h2 => hG.out a h1 h2)]
                simp only [ha1.out, ha2.out])
              have hq := hid (hx'.out.symm.trans hres.out)
              have hce : Hid (∀ j, j < 11 → wr.cell? ⟨g, o + (p * 11 + j), none⟩ = (Sl.cs ⟨a1, a2, false⟩)[j]?) := hid (fun j hj => by have h0 := hcellh.out j hj; rw [h0, ← ha1.out, ← ha2.out, ← hbg.out])
              go_wp2_with fail
              have hSw : Hid (DSlot wr c g o p m cap ⟨a1, a2, false⟩) := hid ⟨⟨hblk.out.none_ hC.out, hg⟩, fun j hj => by have h0 := hce.out j hj; rw [Nat.add_assoc]; exact h0⟩
              have hS0 : Hid (DSlot wr.drew c g o p m cap ⟨a1, a2, false⟩) := hid (DSlot.chg (S := fun _ => False) hSw.out ((Chg.refl (fun _ => False) wr).drew) id id)
              have hS1 : Hid (DSlot (put5 wr (w.heap.size + 1) 0 a1).drew c g o p m cap ⟨a1, a2, false⟩) := hid (DSlot.chg (S := fun k => k = w.heap.size + 1) hSw.out (put5_chg wr (w.heap.size + 1) 0 a1).drew (fun (e : c = w.heap.size + 1) => by omega) (fun (e : g = w.heap.size + 1) => by have := hgw.out; omega))
              clear y0 y1 y2 y3 y4 y5 y6 y7 y8 y9 y10 c0
              refine wp_region_rc (id := 12) [.rd [0, 1, 2, 3, 4, 5, 6, 7, 8, 9, 10, 11, 12, 13, 14, 15], .act 16] [17, 18, 19] [] (fun w' => DSlot w' c g o p m cap ⟨a1, a2, false⟩) (by kernel_rfl) 62 rfl (by kernel_rfl) (fun _ _ _ _ _ h => h) hS0.out ?_
              refine steps_rdW ?_
              apply Exists.intro
              refine ⟨?_, ?_⟩
              focus
                rintro w' ⟨⟨hSa, -⟩, hSb⟩
                have c0 := hSa.cell 0
                simp only [List.getElem?_cons_zero] at c0
                have y0 := hSb 0 (by omega)
                have y1 := hSb 1 (by omega)
                have y2 := hSb 2 (by omega)
                have y3 := hSb 3 (by omega)
                have y4 := hSb 4 (by omega)
                have y5 := hSb 5 (by omega)
                have y6 := hSb 6 (by omega)
                have y7 := hSb 7 (by omega)
                have y8 := hSb 8 (by omega)
                have y9 := hSb 9 (by omega)
                simp only [Sl.cs, List.getElem?_cons_succ, List.getElem?_cons_zero, Nat.add_zero] at y0 y1 y2 y3 y4 y5 y6 y7 y8 y9
                clear hSa hSb
                iterate 16 (refine stW_step rfl (fun K hK => ?_); go_simp; refine hK _ ?_; clear hK K)
                exact stW_nil rfl
              have hlz : w.heap.size + 1 + 1 < wr.heap.size := hB.out.2.lt
              have hlz1 : w.heap.size + 1 < wr.heap.size := by omega
              obtain ⟨z0, z1, z2, z3, z4⟩ := V.box hB.out.1
              have hfz := fun j => hB.out.1.frozen j
              obtain ⟨v0, v1, v2, v3, v4⟩ := V.box hB.out.2
              have hfv := fun j => hB.out.2.frozen j
              simp only [V.zero] at z0 z1 z2 z3 z4 v0 v1 v2 v3 v4
              refine steps_act (o := ⟨_, _, _, _, _, _⟩) rfl (fun K2 hK2 => ?_)
              go_wp2_with fail
              refine hK2 _ _ hS1.out rfl ?_
              clear hK2 K2
              refine steps_nil (l := [⟨_, _, _, _, _, _⟩, ⟨_, _, _, _, _, _⟩, ⟨_, _, _, _, _, _⟩]) rfl (fun K2 hK2 => ?_)
              go_wp2_with fail
              refine hK2 _ _ rfl ?_
              clear hK2 K2
              refine stI_nil ?_
              go_wp2_with fail
              refine ret_vvbe (t1 := 4) (t2 := 5) (u1 := 6) (u2 := 7) (b1 := w.heap.size + 1) (b2 := w.heap.size + 1 + 1) (x1 := a1) (x2 := a2) rfl rfl rfl rfl rfl rfl (((put5_bk (y := a1) hB.out.1).chg (put5_chg _ (w.heap.size + 1 + 1) 0 a2) (by omega)).drew) ((put5_bk (y := a2) (hB.out.2.chg (put5_chg _ (w.heap.size + 1) 0 a1) (by omega))).drew) ⟨by
                have e := hq.out
                simp only [Prod.mk.injEq] at e
                obtain ⟨rfl, rfl, rfl, rfl⟩ := e
                rfl, ?_⟩
              exact ((hC.out.trans (put5_chg _ (w.heap.size + 1) 0 a1) (fun j hj e => by omega)).trans (put5_chg _ (w.heap.size + 1 + 1) 0 a2) (fun j hj e => by omega)).drew
          · have hpm : p = m := by omega
            subst hpm
            have hres : Hid (entM L (i + 1) = (V.zero, V.zero, false, 0)) := hid (by
              unfold entM
              rw [firstLive_no (fun a h1 h2 => hG.out a h1 (by rw [hm.out] at h2; omega))])
            have hq := hid (hx'.out.symm.trans hres.out)
            have hlz : w.heap.size + 1 + 1 < wr.heap.size := hB.out.2.lt
            have hlz1 : w.heap.size + 1 < wr.heap.size := by omega
            obtain ⟨z0, z1, z2, z3, z4⟩ := V.box hB.out.1
            have hfz := fun j => hB.out.1.frozen j
            obtain ⟨v0, v1, v2, v3, v4⟩ := V.box hB.out.2
            have hfv := fun j => hB.out.2.frozen j
            simp only [V.zero] at z0 z1 z2 z3 z4 v0 v1 v2 v3 v4
            go_wp2_with fail
            refine ret_vvbe (t1 := 4) (t2 := 5) (u1 := 6) (u2 := 7) (b1 := w.heap.size + 1) (b2 := w.heap.size + 1 + 1) (x1 := V.zero) (x2 := V.zero) rfl rfl rfl rfl rfl rfl ((put5_bk (y := V.zero) hB.out.1).chg (put5_chg _ (w.heap.size + 1 + 1) 0 V.zero) (by omega)) (put5_bk (y := V.zero) (hB.out.2.chg (put5_chg _ (w.heap.size + 1) 0 V.zero) (by omega))) ⟨by
              have e := hq.out
              simp only [Prod.mk.injEq] at e
              obtain ⟨rfl, rfl, rfl, rfl⟩ := e
              rfl, ?_⟩
            exact (hC.out.trans (put5_chg _ (w.heap.size + 1) 0 V.zero) (fun j hj e => by omega)).trans (put5_chg _ (w.heap.size + 1 + 1) 0 V.zero) (fun j hj e => by omega)
end
end Go.Proofs.Ytoelgnjnbelokaa
