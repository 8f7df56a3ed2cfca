/-
  Set of the program where the key has a slot that is not removed.
-/
import Derived.Test.YtoelgnjnbelokaaWSet
namespace Go.Proofs.Ytoelgnjnbelokaa
open Go.RowKit Go.Maps

section
variable {w w' : World} {c bm n : Nat} {vs : Value} {D : DataW Unit} {L : List Sl}
theorem OwnM.lt (h : OwnM w c vs bm n D L) {k : Nat} (hk : ownF c vs bm k) : k < w.heap.size := by
  rcases hk with rfl | hk | rfl
  · exact h.blk.lt
  · exact own_lt h.row hk
  · exact h.mp.lt
theorem OwnPost.after {w3 W : World} {L' : List Sl} {m : Nat} (hc : Chg (fun _ => False) w w3) (h : OwnPost w3 W c vs bm m L') : OwnPost w W c vs bm m L' := by
  obtain ⟨vs', n', D', h1, h2, h3, h4⟩ := h
  exact ⟨vs', n', D', h1, h2, (hc.mono fun _ _ h => h.elim).trans_same h3, fun k hk => (h4 k hk).imp id fun e => Nat.le_trans hc.size e⟩
theorem set_put_fin {g cap i : Nat} {k v : V} (h : OwnM w c (.slice (some ⟨g, 0, none⟩) L.length cap) bm n D L) (hi : i < L.length) (hg : (slAt L i).g = false) (hk : (slAt L i).k = k) (hv : vok v = true ∧ v.k ≠ 0) :
    OwnPost w (put5 w g (i * 11 + 5) v) c (.slice (some ⟨g, 0, none⟩) L.length cap) bm n (L.set i ⟨k, v, false⟩) := by
  have hgc : g ≠ c := fun e => h.sep.2.2 (by rw [e]; rfl)
  have hd1 : Chg (fun k => k = c ∨ k = g) w (put5 w g (i * 11 + 5) v) := ((put5_chg w g (i * 11 + 5) v).mono (T := fun k => k = c ∨ k = g) fun _ _ h => .inr h)
  have hb2 : Bk (put5 w g (i * 11 + 5) v) c 70 [.slice (some ⟨g, 0, none⟩) L.length cap, .map (some bm), .int .i64 (nOf L : Int)] := h.blk.chg (put5_chg w g (i * 11 + 5) v) (fun e => hgc e.symm)
  have hr2 := own_putV h.row hi v
  rw [hk, hg] at hr2
  refine own_set_fin h hi hg hk.symm (fun _ => hv) (fun h => by cases h) ?_ hr2 hd1 (Nat.le_refl _)
  rw [nOf_set_live hi hg rfl]
  exact hb2
theorem set_gone_fin {g cap i q : Nat} {k : V} (h : OwnM w c (.slice (some ⟨g, 0, none⟩) L.length cap) bm n D L) (hi : i < L.length) (hg : (slAt L i).g = false) (hk : (slAt L i).k = k) (hq : nOf (L.set i ⟨k, V.zero, true⟩) = q) :
    OwnPost w ((putS w g (i * 11) ⟨k, V.zero, true⟩).setCell ⟨c, 2, none⟩ (.int .i64 (q : Int))) c (.slice (some ⟨g, 0, none⟩) L.length cap) bm n (L.set i ⟨k, V.zero, true⟩) := by
  have hgc : g ≠ c := fun e => h.sep.2.2 (by rw [e]; rfl)
  have hp := putS_chg w g (i * 11) ⟨k, V.zero, true⟩
  have hr2 := own_putS h.row hi ⟨k, V.zero, true⟩
  have hb2 : Bk (putS w g (i * 11) ⟨k, V.zero, true⟩) c 70 [.slice (some ⟨g, 0, none⟩) L.length cap, .map (some bm), .int .i64 (nOf L : Int)] := h.blk.chg hp (fun e => hgc e.symm)
  generalize putS w g (i * 11) ⟨k, V.zero, true⟩ = W at hp hr2 hb2 ⊢
  have hd1 : Chg (fun k => k = c ∨ k = g) w (W.setCell ⟨c, 2, none⟩ (.int .i64 (q : Int))) := (hp.mono (T := fun k => k = c ∨ k = g) fun _ _ h => .inr h).setCell (p := ⟨c, 2, none⟩) (fun _ => .inl rfl) _
  have e1 := hb2.ne_row hr2 (by decide)
  have hb3 := hb2.set_ 2 (.int .i64 (q : Int))
  have hr3 := own_far hr2 (p := ⟨c, 2, none⟩) e1 (.int .i64 (q : Int))
  refine own_set_fin h hi hg hk.symm (fun h => by cases h) (fun _ => rfl) ?_ hr3 hd1 (Nat.le_refl _)
  rw [hq]
  exact hb3
theorem OwnPost.drew {L' : List Sl} {m : Nat} (h : OwnPost w w' c vs bm m L') : OwnPost w w'.drew c vs bm m L' := by
  obtain ⟨vs', n', D', h1, h2, h3, h4⟩ := h
  exact ⟨vs', n', D', h1.none_ ((Chg.refl _ _).drew), h2, h3.drew, h4⟩
set_option maxRecDepth 100000 in
set_option maxHeartbeats 8000000 in
theorem own_set_gone (h : OwnM w c vs bm n D L) (hn : L.length ≤ 1000) {k v : V} (hk : k.wf) (hkv : vok k = true ∧ k.k ≠ 0) (hv : vok v = true) {i : Nat} (ht : thereM L k = some i) (hz : (v.k == 0) = true) {x : Sl} (hx : x = if v.k = 0 then ⟨k, V.zero, true⟩ else ⟨k, v, false⟩) :
    Calls Try.prog 32 #[.pointer (some ⟨c, 0, none⟩), (.agg #[.int .i64 k.k, .int .i64 k.p, .int .i64 k.q, .string k.s, .int .i64 k.r]), (.agg #[.int .i64 v.k, .int .i64 v.p, .int .i64 v.q, .string v.s, .int .i64 v.r])] w fun e w' => e = .returned (.int .i64 0) ∧ OwnPost w w' c vs bm n (L.set i x) := by
  obtain ⟨hi1, hi2, hi3, hi4⟩ := there_some ht
  have hB0 := hid ((Bk.new w 26 k.cs).alloc (.cells v.cs.toArray 26))
  have hV0 := hid (Bk.new_at (w.alloc (.cells k.cs.toArray 26)) 26 v.cs.toArray (w.heap.size + 1) (by simp))
  have hC0 := hid (((Chg.refl (fun _ => False) w).alloc (.cells k.cs.toArray 26)).alloc (.cells v.cs.toArray 26))
  have e0 : (k.k == 0) = false := by simpa using hkv.2
  have hkh := hid hkv.1
  have hvh := hid hv
  obtain ⟨l, hl⟩ := key_of hk
  have hlh := hid hl
  obtain ⟨A, cap, hvs, _, _, hA, -⟩ := own_form h.row
  subst hvs
  obtain ⟨g, rfl⟩ := hA (by omega)
  obtain ⟨m, hm⟩ : ∃ m, Hid (L.length = m) := ⟨_, hid rfl⟩
  have hL := hid h
  have hy : Hid (ixI L k = (i : Int)) := hid (by unfold ixI; rw [hi1])
  have hb : Hid ((lastIx L k).isSome = true) := hid (by rw [hi1]; rfl)
  have him : i < m := by have := hm.out; omega
  have him2 : (i : Int) < (m : Int) := by omega
  have hih := hid hi2
  have hg := hid hi4
  have hkk := hid hi3
  have hxh := hid hx
  have hcl := h.blk.lt
  obtain ⟨q, hq⟩ : ∃ q, Hid (nOf (L.set i x) = q) := ⟨_, hid rfl⟩
  have hzz : Hid ((v.k == 0) = true) := hid hz
  rw [hm.out] at hn
  clear h hkv hv hl hi1 hi2 hi3 hi4 hx ht hA hk
  go_enter Try.func32, Try.ntmps32
  go_wp2_with fail
  refine (val_valid_eq hkh.out).mono ?_
  rintro e w1 ⟨rfl, hc1⟩
  have hB1 := hid (hB0.out.none_ hc1)
  have hV1 := hid (hV0.out.none_ hc1)
  have hC1 := hid (hC0.out.trans_same hc1)
  obtain ⟨z0, z1, z2, z3, z4⟩ := V.box hV1.out
  have hlz := hV1.out.lt
  clear hc1 hB0 hV0 hC0
  go_wp2_with fail
  refine (val_valid_eq hvh.out).mono ?_
  rintro e w2 ⟨rfl, hc2⟩
  have hB2 := hid (hB1.out.none_ hc2).drew
  have hV2 := hid (hV1.out.none_ hc2).drew
  have hC2 := hid (hC1.out.trans_same hc2).drew
  clear hc2 hB1 hV1 hC1 z0 z1 z2 z3 z4 hlz
  have hL2 := hid (hL.out.none_ hC2.out)
  go_wp2_with fail
  refine wp_region_rc (id := 7) [.rd [0, 1, 2, 3, 4, 5, 6, 7, 8, 9, 10]] [] [] (fun w' => w'.cell? ⟨c, 1, none⟩ = some (.map (some bm)) ∧ w'.ownsMap Try.prog 26 (plainElem Try.prog 3) bm n D ∧ Bk w' w.heap.size 26 k.cs) (by kernel_rfl) 130 rfl (by kernel_rfl) (fun _ _ _ _ _ h => h) ⟨hL2.out.blk.cell 1, hL2.out.mp, hB2.out⟩ ?_
  refine steps_rdW ?_
  apply Exists.intro
  refine ⟨?_, ?_⟩
  focus
    rintro w' ⟨q1, hS2, hS3⟩
    obtain ⟨z0, z1, z2, z3, z4⟩ := V.box hS3
    have hrun := look_ok_run hS2 hL.out.ix hlh.out hy.out hb.out
    clear hS2 hS3
    iterate 11 (refine stW_step rfl (fun K hK => ?_); go_simp; refine hK _ ?_; clear hK K)
    exact stW_nil rfl
  refine steps_end rfl ?_
  generalize w2.drew = w3 at hB2 hV2 hC2 hL2 ⊢
  have hrow := hid hL2.out.row
  rw [hm.out] at hrow
  have c0 : w3.cell? ⟨c, 0, none⟩ = some (.slice (some ⟨g, 0, none⟩) m cap) := by rw [← hm.out]; exact hL2.out.blk.cell 0
  have hf : ∀ j, w3.frozen? ⟨g, j, none⟩ = false := fun j => hrow.out.frozenAt j
  have hgl : g < w3.heap.size := own_lt hrow.out (k := g) rfl
  have hgc : g ≠ c := fun e => hL2.out.sep.2.2 (by rw [e]; rfl)
  have hcell : ∀ j, j < 11 → w3.cell? ⟨g, i * 11 + j, none⟩ = (slAt L i).cs[j]? := by
    obtain ⟨b', o', e1, _, h2⟩ := Sl.at_ (Rd.of_own hL2.out.row) hih.out
    injection e1 with e1
    injection e1 with e1 e2
    subst e1; subst e2
    intro j hj
    have := h2 j hj
    rwa [Nat.zero_add] at this
  have y0 := hcell 0 (by omega)
  have y1 := hcell 1 (by omega)
  have y2 := hcell 2 (by omega)
  have y3 := hcell 3 (by omega)
  have y4 := hcell 4 (by omega)
  have y5 := hcell 5 (by omega)
  have y6 := hcell 6 (by omega)
  have y7 := hcell 7 (by omega)
  have y8 := hcell 8 (by omega)
  have y9 := hcell 9 (by omega)
  have y10 := hcell 10 (by omega)
  simp only [Sl.cs, List.getElem?_cons_succ, List.getElem?_cons_zero, Nat.add_zero] at y0 y1 y2 y3 y4 y5 y6 y7 y8 y9 y10
  rw [hg.out] at y10
  obtain ⟨x0, x1, x2, x3, x4⟩ := V.box hB2.out
  obtain ⟨u0, u1, u2, u3, u4⟩ := V.box hV2.out
  have hxl := hB2.out.lt
  have hul := hV2.out.lt
  have kf : w3.frozen? ⟨c, 2, none⟩ = false := hL2.out.blk.frozen 2
  have hxe : Hid (x = ⟨k, V.zero, true⟩) := hid (by rw [hxh.out, if_pos (by have := hzz.out; simpa using this)])
  have hn1 : Hid (nOf L = q + 1) := hid (by rw [← hq.out]; exact nOf_set_gone hih.out hg.out (by rw [hxe.out]))
  have c2 : w3.cell? ⟨c, 2, none⟩ = some (.int .i64 ((q : Int) + 1)) := by have := hL2.out.blk.cell 2; rw [hn1.out] at this; exact this
  have hqm : q + 1 ≤ 1000 := by have := nOf_le L; rw [hn1.out, hm.out] at this; omega
  have hq2 : Hid (nOf (L.set i ⟨k, V.zero, true⟩) = q) := hid (by rw [← hxe.out]; exact hq.out)
  have fin := hid ((set_gone_fin hL2.out hih.out hg.out hkk.out hq2.out).after hC2.out)
  clear hzz hL2 hrow hcell hB2 hV2 hC2
  go_wp2
  (refine wp_region_rc (id := 15) [.rd [0, 1, 2, 3, 4, 5, 6, 7]] [8] [] (fun w' => w' = _) (by kernel_rfl) 130 rfl (by kernel_rfl) (fun _ _ _ _ _ h => h) rfl ?_; refine steps_rdW ?_; apply Exists.intro; refine ⟨?_, ?_⟩; (focus (rintro w' rfl; (iterate 8 (refine stW_step rfl (fun K hK => ?_); go_simp; refine hK _ ?_; clear hK K)); exact stW_nil rfl)); refine steps_nil (l := [⟨_, _, _, _, _, _⟩]) rfl (fun K2 hK2 => ?_); go_wp2; refine hK2 _ _ rfl ?_; clear hK2 K2; refine stI_nil ?_)
  go_wp2
  go_ret
  exact ⟨rfl, by rw [hxe.out]; exact fin.out.drew⟩
set_option maxRecDepth 100000 in
set_option maxHeartbeats 8000000 in
theorem own_set_put (h : OwnM w c vs bm n D L) (hn : L.length ≤ 1000) {k v : V} (hk : k.wf) (hkv : vok k = true ∧ k.k ≠ 0) (hv : vok v = true) {i : Nat} (ht : thereM L k = some i) (hz : (v.k == 0) = false) {x : Sl} (hx : x = if v.k = 0 then ⟨k, V.zero, true⟩ else ⟨k, v, false⟩) :
    Calls Try.prog 32 #[.pointer (some ⟨c, 0, none⟩), (.agg #[.int .i64 k.k, .int .i64 k.p, .int .i64 k.q, .string k.s, .int .i64 k.r]), (.agg #[.int .i64 v.k, .int .i64 v.p, .int .i64 v.q, .string v.s, .int .i64 v.r])] w fun e w' => e = .returned (.int .i64 0) ∧ OwnPost w w' c vs bm n (L.set i x) := by
  obtain ⟨hi1, hi2, hi3, hi4⟩ := there_some ht
  have hB0 := hid ((Bk.new w 26 k.cs).alloc (.cells v.cs.toArray 26))
  have hV0 := hid (Bk.new_at (w.alloc (.cells k.cs.toArray 26)) 26 v.cs.toArray (w.heap.size + 1) (by simp))
  have hC0 := hid (((Chg.refl (fun _ => False) w).alloc (.cells k.cs.toArray 26)).alloc (.cells v.cs.toArray 26))
  have e0 : (k.k == 0) = false := by simpa using hkv.2
  have hkh := hid hkv.1
  have hvh := hid hv
  obtain ⟨l, hl⟩ := key_of hk
  have hlh := hid hl
  obtain ⟨A, cap, hvs, _, _, hA, -⟩ := own_form h.row
  subst hvs
  obtain ⟨g, rfl⟩ := hA (by omega)
  obtain ⟨m, hm⟩ : ∃ m, Hid (L.length = m) := ⟨_, hid rfl⟩
  have hL := hid h
  have hy : Hid (ixI L k = (i : Int)) := hid (by unfold ixI; rw [hi1])
  have hb : Hid ((lastIx L k).isSome = true) := hid (by rw [hi1]; rfl)
  have him : i < m := by have := hm.out; omega
  have him2 : (i : Int) < (m : Int) := by omega
  have hih := hid hi2
  have hg := hid hi4
  have hkk := hid hi3
  have hxh := hid hx
  have hcl := h.blk.lt
  obtain ⟨q, hq⟩ : ∃ q, Hid (nOf (L.set i x) = q) := ⟨_, hid rfl⟩
  have hzz : Hid ((v.k == 0) = false) := hid hz
  rw [hm.out] at hn
  clear h hkv hv hl hi1 hi2 hi3 hi4 hx ht hA hk
  go_enter Try.func32, Try.ntmps32
  go_wp2_with fail
  refine (val_valid_eq hkh.out).mono ?_
  rintro e w1 ⟨rfl, hc1⟩
  have hB1 := hid (hB0.out.none_ hc1)
  have hV1 := hid (hV0.out.none_ hc1)
  have hC1 := hid (hC0.out.trans_same hc1)
  obtain ⟨z0, z1, z2, z3, z4⟩ := V.box hV1.out
  have hlz := hV1.out.lt
  clear hc1 hB0 hV0 hC0
  go_wp2_with fail
  refine (val_valid_eq hvh.out).mono ?_
  rintro e w2 ⟨rfl, hc2⟩
  have hB2 := hid (hB1.out.none_ hc2).drew
  have hV2 := hid (hV1.out.none_ hc2).drew
  have hC2 := hid (hC1.out.trans_same hc2).drew
  clear hc2 hB1 hV1 hC1 z0 z1 z2 z3 z4 hlz
  have hL2 := hid (hL.out.none_ hC2.out)
  go_wp2_with fail
  refine wp_region_rc (id := 7) [.rd [0, 1, 2, 3, 4, 5, 6, 7, 8, 9, 10]] [] [] (fun w' => w'.cell? ⟨c, 1, none⟩ = some (.map (some bm)) ∧ w'.ownsMap Try.prog 26 (plainElem Try.prog 3) bm n D ∧ Bk w' w.heap.size 26 k.cs) (by kernel_rfl) 130 rfl (by kernel_rfl) (fun _ _ _ _ _ h => h) ⟨hL2.out.blk.cell 1, hL2.out.mp, hB2.out⟩ ?_
  refine steps_rdW ?_
  apply Exists.intro
  refine ⟨?_, ?_⟩
  focus
    rintro w' ⟨q1, hS2, hS3⟩
    obtain ⟨z0, z1, z2, z3, z4⟩ := V.box hS3
    have hrun := look_ok_run hS2 hL.out.ix hlh.out hy.out hb.out
    clear hS2 hS3
    iterate 11 (refine stW_step rfl (fun K hK => ?_); go_simp; refine hK _ ?_; clear hK K)
    exact stW_nil rfl
  refine steps_end rfl ?_
  generalize w2.drew = w3 at hB2 hV2 hC2 hL2 ⊢
  have hrow := hid hL2.out.row
  rw [hm.out] at hrow
  have c0 : w3.cell? ⟨c, 0, none⟩ = some (.slice (some ⟨g, 0, none⟩) m cap) := by rw [← hm.out]; exact hL2.out.blk.cell 0
  have hf : ∀ j, w3.frozen? ⟨g, j, none⟩ = false := fun j => hrow.out.frozenAt j
  have hgl : g < w3.heap.size := own_lt hrow.out (k := g) rfl
  have hgc : g ≠ c := fun e => hL2.out.sep.2.2 (by rw [e]; rfl)
  have hcell : ∀ j, j < 11 → w3.cell? ⟨g, i * 11 + j, none⟩ = (slAt L i).cs[j]? := by
    obtain ⟨b', o', e1, _, h2⟩ := Sl.at_ (Rd.of_own hL2.out.row) hih.out
    injection e1 with e1
    injection e1 with e1 e2
    subst e1; subst e2
    intro j hj
    have := h2 j hj
    rwa [Nat.zero_add] at this
  have y0 := hcell 0 (by omega)
  have y1 := hcell 1 (by omega)
  have y2 := hcell 2 (by omega)
  have y3 := hcell 3 (by omega)
  have y4 := hcell 4 (by omega)
  have y5 := hcell 5 (by omega)
  have y6 := hcell 6 (by omega)
  have y7 := hcell 7 (by omega)
  have y8 := hcell 8 (by omega)
  have y9 := hcell 9 (by omega)
  have y10 := hcell 10 (by omega)
  simp only [Sl.cs, List.getElem?_cons_succ, List.getElem?_cons_zero, Nat.add_zero] at y0 y1 y2 y3 y4 y5 y6 y7 y8 y9 y10
  rw [hg.out] at y10
  obtain ⟨x0, x1, x2, x3, x4⟩ := V.box hB2.out
  obtain ⟨u0, u1, u2, u3, u4⟩ := V.box hV2.out
  have hxl := hB2.out.lt
  have hul := hV2.out.lt
  have kf : w3.frozen? ⟨c, 2, none⟩ = false := hL2.out.blk.frozen 2
  have hxe : Hid (x = ⟨k, v, false⟩) := hid (by rw [hxh.out, if_neg (by have := hzz.out; simpa using this)])
  have hv0 : Hid (v.k ≠ 0) := hid (by have := hzz.out; simpa using this)
  have fin := hid ((set_put_fin hL2.out hih.out hg.out hkk.out ⟨hvh.out, hv0.out⟩).after hC2.out)
  clear hzz hL2 hrow hcell hB2 hV2 hC2 hv0
  go_wp2
  (refine wp_region_rc (id := 19) [.rd [0, 1, 2, 3, 4, 5, 6, 7]] [8] [] (fun w' => w' = _) (by kernel_rfl) 130 rfl (by kernel_rfl) (fun _ _ _ _ _ h => h) rfl ?_; refine steps_rdW ?_; apply Exists.intro; refine ⟨?_, ?_⟩; (focus (rintro w' rfl; (iterate 8 (refine stW_step rfl (fun K hK => ?_); go_simp; refine hK _ ?_; clear hK K)); exact stW_nil rfl)); refine steps_nil (l := [⟨_, _, _, _, _, _⟩]) rfl (fun K2 hK2 => ?_); go_wp2; refine hK2 _ _ rfl ?_; clear hK2 K2; refine stI_nil ?_)
  go_wp2
  go_ret
  exact ⟨rfl, by rw [hxe.out]; exact fin.out.drew⟩
end
end Go.Proofs.Ytoelgnjnbelokaa
