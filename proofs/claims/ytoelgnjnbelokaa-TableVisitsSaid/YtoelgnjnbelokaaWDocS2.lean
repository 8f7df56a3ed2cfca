/-
  Set of the document's map.
-/
import Derived.Test.YtoelgnjnbelokaaWDocS
namespace Go.Proofs.Ytoelgnjnbelokaa
open Go.RowKit Go.Maps

section
variable {w w' : World} {c : Nat} {vs : Value} {L : List Sl}
set_option maxRecDepth 100000 in
set_option maxHeartbeats 4000000 in
theorem doc_set_bad (w : World) (c : Nat) (k v : V) {x : Int} (hx : (k.k = 0 ∨ vok k = false) ∧ x = 13 ∨ ¬ (k.k = 0 ∨ vok k = false) ∧ vok v = false ∧ x = 2) :
    Calls Try.prog 52 #[.pointer (some ⟨c, 0, none⟩), (.agg #[.int .i64 k.k, .int .i64 k.p, .int .i64 k.q, .string k.s, .int .i64 k.r]), (.agg #[.int .i64 v.k, .int .i64 v.p, .int .i64 v.q, .string v.s, .int .i64 v.r])] w fun e w' => e = .returned (.int .i64 x) ∧ Chg (fun _ => False) w w' := by
  have hb0 := hid ((Bk.new w 26 k.cs).alloc (.cells v.cs.toArray 26))
  have hc0 := hid (Bk.new_at (w.alloc (.cells k.cs.toArray 26)) 26 v.cs.toArray (w.heap.size + 1) (by simp))
  have hC0 := hid (((Chg.refl (fun _ => False) w).alloc (.cells k.cs.toArray 26)).alloc (.cells v.cs.toArray 26))
  rcases hx with ⟨h, rfl⟩ | ⟨h, hv, rfl⟩
  · by_cases hk0 : k.k = 0
    · have e0 : (k.k == 0) = true := by simpa using hk0
      clear h hk0
      go_enter Try.func52, Try.ntmps52
      go_wp2
      go_ret
      exact ⟨rfl, hC0.out⟩
    · have e0 : (k.k == 0) = false := by simpa using hk0
      have hk := hid (h.resolve_left hk0)
      clear h hk0
      go_enter Try.func52, Try.ntmps52
      go_wp2_with fail
      refine (doc_valid_eq hk.out).mono ?_
      rintro e w1 ⟨rfl, hc1⟩
      have fin := hid (hC0.out.trans_same hc1)
      clear hc1
      go_wp2
      go_ret
      exact ⟨rfl, fin.out⟩
  · have e0 : (k.k == 0) = false := by simpa using fun e => h (.inl e)
    have hk : Hid (vok k = true) := hid (by cases e : vok k with | true => rfl | false => exact absurd (.inr e) h)
    have hvh := hid hv
    clear h hv
    go_enter Try.func52, Try.ntmps52
    go_wp2_with fail
    refine (doc_valid_eq hk.out).mono ?_
    rintro e w1 ⟨rfl, hc1⟩
    have hV1 := hid (hc0.out.none_ hc1)
    obtain ⟨z0, z1, z2, z3, z4⟩ := V.box hV1.out
    have hlz := hV1.out.lt
    have hC1 := hid (hC0.out.trans_same hc1)
    clear hc1
    go_wp2_with fail
    refine (doc_valid_eq hvh.out).mono ?_
    rintro e w2 ⟨rfl, hc2⟩
    have fin := hid (hC1.out.trans_same hc2)
    clear hc2
    go_wp2
    go_ret
    exact ⟨rfl, fin.out⟩
set_option maxRecDepth 100000 in
set_option maxHeartbeats 8000000 in
theorem doc_set_gone (h : DocM w c vs L) (hn : L.length ≤ 999) {k v : V} (hkv : vok k = true ∧ k.k ≠ 0) (hv : vok v = true) {i : Nat} (hi : lastIx L k = some i) (hz : (v.k == 0) = true) :
    Calls Try.prog 52 #[.pointer (some ⟨c, 0, none⟩), (.agg #[.int .i64 k.k, .int .i64 k.p, .int .i64 k.q, .string k.s, .int .i64 k.r]), (.agg #[.int .i64 v.k, .int .i64 v.p, .int .i64 v.q, .string v.s, .int .i64 v.r])] w fun e w' => e = .returned (.int .i64 0) ∧ DocPost w w' c vs (L.set i ⟨k, V.zero, true⟩) := by
  obtain ⟨hi2, hi3, _⟩ := lastIx_some hi
  have hB0 := hid ((Bk.new w 26 k.cs).alloc (.cells v.cs.toArray 26))
  have hV0 := hid (Bk.new_at (w.alloc (.cells k.cs.toArray 26)) 26 v.cs.toArray (w.heap.size + 1) (by simp))
  have hC0 := hid (((Chg.refl (fun _ => False) w).alloc (.cells k.cs.toArray 26)).alloc (.cells v.cs.toArray 26))
  have e0 : (k.k == 0) = false := by simpa using hkv.2
  have hkh := hid hkv.1
  have hkvh := hid hkv
  have hvh := hid hv
  have hL := hid h
  have hzz := hid hz
  have hnh := hid (show L.length ≤ 1000000 by omega)
  obtain ⟨A, cap, hvs, _, _, hA, -⟩ := own_form h.row
  subst hvs
  obtain ⟨m, hm⟩ : ∃ m, Hid (L.length = m) := ⟨_, hid rfl⟩
  have hcl := h.blk.lt
  rw [hm.out] at hn
  obtain ⟨g, rfl⟩ := hA (by omega)
  have hf : Hid (findI L k = (i : Int)) := hid (by unfold findI; rw [hi])
  have him : i < m := by have := hm.out; omega
  have him2 : (i : Int) < (m : Int) := by omega
  have hih := hid hi2
  have hkk := hid hi3
  clear h hkv hv hi hi2 hi3 hA
  go_enter Try.func52, Try.ntmps52
  go_wp2_with fail
  refine (doc_valid_eq hkh.out).mono ?_
  rintro e w1 ⟨rfl, hc1⟩
  have hB1 := hid (hB0.out.none_ hc1)
  have hV1 := hid (hV0.out.none_ hc1)
  have hC1 := hid (hC0.out.trans_same hc1)
  obtain ⟨z0, z1, z2, z3, z4⟩ := V.box hV1.out
  have hlz := hV1.out.lt
  clear hc1 hB0 hV0 hC0
  go_wp2_with fail
  refine (doc_valid_eq hvh.out).mono ?_
  rintro e w2 ⟨rfl, hc2⟩
  have hB2 := hid (hB1.out.none_ hc2)
  have hV2 := hid (hV1.out.none_ hc2)
  have hC2 := hid (hC1.out.trans_same hc2)
  clear hc2 hB1 hV1 hC1 z0 z1 z2 z3 z4 hlz
  have hL2 := hid (hL.out.none_ hC2.out)
  obtain ⟨z0, z1, z2, z3, z4⟩ := V.box hB2.out
  have hlz := hB2.out.lt
  go_wp2_with fail
  refine (doc_find hL2.out hnh.out k hf.out).mono ?_
  rintro e w3 ⟨rfl, hc3⟩
  have hB3 := hid (hB2.out.none_ hc3)
  have hV3 := hid (hV2.out.none_ hc3)
  have hC3 := hid (hC2.out.trans_same hc3)
  have hL3 := hid (hL2.out.none_ hc3)
  clear hc3 hB2 hV2 hC2 hL2 z0 z1 z2 z3 z4 hlz
  obtain ⟨x0, x1, x2, x3, x4⟩ := V.box hB3.out
  obtain ⟨u0, u1, u2, u3, u4⟩ := V.box hV3.out
  have hxl := hB3.out.lt
  have hul := hV3.out.lt
  have hrow := hid hL3.out.row
  rw [hm.out] at hrow
  have c0 : w3.cell? ⟨c, 0, none⟩ = some (.slice (some ⟨g, 0, none⟩) m cap) := by rw [← hm.out]; exact hL3.out.blk.cell 0
  have hfz : ∀ j, w3.frozen? ⟨g, j, none⟩ = false := fun j => hrow.out.frozenAt j
  have hgl : g < w3.heap.size := own_lt hrow.out (k := g) rfl
  have hgc : g ≠ c := fun e => hL3.out.sep (by rw [e]; rfl)
  have hcell : ∀ j, j < 11 → w3.cell? ⟨g, i * 11 + j, none⟩ = (slAt L i).cs[j]? := by
    obtain ⟨b', o', e1, _, h2⟩ := Sl.at_ (Rd.of_own hL3.out.row) hih.out
    injection e1 with e1
    injection e1 with e1 e2
    subst e1; subst e2
    intro j hj
    have := h2 j hj
    rwa [Nat.zero_add] at this
  have y0 := hcell 0 (by omega)
  have y1 := hcell 1 (by omega)
  have y2 := hcell 2 (by omega)
  have y3 := hcell 3 (by omega)
  have y4 := hcell 4 (by omega)
  have y5 := hcell 5 (by omega)
  have y6 := hcell 6 (by omega)
  have y7 := hcell 7 (by omega)
  have y8 := hcell 8 (by omega)
  have y9 := hcell 9 (by omega)
  have y10 := hcell 10 (by omega)
  simp only [Sl.cs, List.getElem?_cons_succ, List.getElem?_cons_zero, Nat.add_zero] at y0 y1 y2 y3 y4 y5 y6 y7 y8 y9 y10
  have fin := hid ((doc_gone_fin hL3.out hih.out (inv_gone hL3.out.inv hih.out hkk.out)).after hC3.out)
  clear hzz hL3 hrow hcell hB3 hV3 hC3
  go_wp2_with fail
  (refine wp_region_rc (id := 10) [.rd [0, 1, 2, 3, 4, 5, 6, 7]] [8] [] (fun w' => w' = _) (by kernel_rfl) 117 rfl (by kernel_rfl) (fun _ _ _ _ _ h => h) rfl ?_; refine steps_rdW ?_; apply Exists.intro; refine ⟨?_, ?_⟩; (focus (rintro w' rfl; (iterate 8 (refine stW_step rfl (fun K hK => ?_); go_simp; refine hK _ ?_; clear hK K)); exact stW_nil rfl)); refine steps_nil (l := [⟨_, _, _, _, _, _⟩]) rfl (fun K2 hK2 => ?_); go_wp2; refine hK2 _ _ rfl ?_; clear hK2 K2; refine stI_nil ?_)
  go_wp2_with fail
  go_ret
  exact ⟨rfl, fin.out.drew⟩
set_option maxRecDepth 100000 in
set_option maxHeartbeats 8000000 in
theorem doc_set_none0 (h : DocM w c vs L) (hn : L.length ≤ 999) {k v : V} (hkv : vok k = true ∧ k.k ≠ 0) (hv : vok v = true) (hi : lastIx L k = none) (hz : (v.k == 0) = true) :
    Calls Try.prog 52 #[.pointer (some ⟨c, 0, none⟩), (.agg #[.int .i64 k.k, .int .i64 k.p, .int .i64 k.q, .string k.s, .int .i64 k.r]), (.agg #[.int .i64 v.k, .int .i64 v.p, .int .i64 v.q, .string v.s, .int .i64 v.r])] w fun e w' => e = .returned (.int .i64 0) ∧ Chg (fun _ => False) w w' := by
  have hB0 := hid ((Bk.new w 26 k.cs).alloc (.cells v.cs.toArray 26))
  have hV0 := hid (Bk.new_at (w.alloc (.cells k.cs.toArray 26)) 26 v.cs.toArray (w.heap.size + 1) (by simp))
  have hC0 := hid (((Chg.refl (fun _ => False) w).alloc (.cells k.cs.toArray 26)).alloc (.cells v.cs.toArray 26))
  have e0 : (k.k == 0) = false := by simpa using hkv.2
  have hkh := hid hkv.1
  have hkvh := hid hkv
  have hvh := hid hv
  have hL := hid h
  have hzz := hid hz
  have hnh := hid (show L.length ≤ 1000000 by omega)
  obtain ⟨A, cap, hvs, _, _, hA, -⟩ := own_form h.row
  subst hvs
  obtain ⟨m, hm⟩ : ∃ m, Hid (L.length = m) := ⟨_, hid rfl⟩
  have hcl := h.blk.lt
  rw [hm.out] at hn
  have hf : Hid (findI L k = -1) := hid (by unfold findI; rw [hi])
  clear h hkv hv hi hA
  go_enter Try.func52, Try.ntmps52
  go_wp2_with fail
  refine (doc_valid_eq hkh.out).mono ?_
  rintro e w1 ⟨rfl, hc1⟩
  have hB1 := hid (hB0.out.none_ hc1)
  have hV1 := hid (hV0.out.none_ hc1)
  have hC1 := hid (hC0.out.trans_same hc1)
  obtain ⟨z0, z1, z2, z3, z4⟩ := V.box hV1.out
  have hlz := hV1.out.lt
  clear hc1 hB0 hV0 hC0
  go_wp2_with fail
  refine (doc_valid_eq hvh.out).mono ?_
  rintro e w2 ⟨rfl, hc2⟩
  have hB2 := hid (hB1.out.none_ hc2)
  have hV2 := hid (hV1.out.none_ hc2)
  have hC2 := hid (hC1.out.trans_same hc2)
  clear hc2 hB1 hV1 hC1 z0 z1 z2 z3 z4 hlz
  have hL2 := hid (hL.out.none_ hC2.out)
  obtain ⟨z0, z1, z2, z3, z4⟩ := V.box hB2.out
  have hlz := hB2.out.lt
  go_wp2_with fail
  refine (doc_find hL2.out hnh.out k hf.out).mono ?_
  rintro e w3 ⟨rfl, hc3⟩
  have hB3 := hid (hB2.out.none_ hc3)
  have hV3 := hid (hV2.out.none_ hc3)
  have hC3 := hid (hC2.out.trans_same hc3)
  have hL3 := hid (hL2.out.none_ hc3)
  clear hc3 hB2 hV2 hC2 hL2 z0 z1 z2 z3 z4 hlz
  obtain ⟨x0, x1, x2, x3, x4⟩ := V.box hB3.out
  obtain ⟨u0, u1, u2, u3, u4⟩ := V.box hV3.out
  have hxl := hB3.out.lt
  have hul := hV3.out.lt
  go_wp2_with fail
  go_ret
  exact ⟨rfl, hC3.out⟩
set_option maxRecDepth 100000 in
set_option maxHeartbeats 8000000 in
theorem doc_set_put (h : DocM w c vs L) (hn : L.length ≤ 999) {k v : V} (hkv : vok k = true ∧ k.k ≠ 0) (hv : vok v = true) {i : Nat} (ht : thereM L k = some i) (hz : (v.k == 0) = false) :
    Calls Try.prog 52 #[.pointer (some ⟨c, 0, none⟩), (.agg #[.int .i64 k.k, .int .i64 k.p, .int .i64 k.q, .string k.s, .int .i64 k.r]), (.agg #[.int .i64 v.k, .int .i64 v.p, .int .i64 v.q, .string v.s, .int .i64 v.r])] w fun e w' => e = .returned (.int .i64 0) ∧ DocPost w w' c vs (L.set i ⟨k, v, false⟩) := by
  obtain ⟨hi, hi2, hi3, hi4⟩ := there_some ht
  have hB0 := hid ((Bk.new w 26 k.cs).alloc (.cells v.cs.toArray 26))
  have hV0 := hid (Bk.new_at (w.alloc (.cells k.cs.toArray 26)) 26 v.cs.toArray (w.heap.size + 1) (by simp))
  have hC0 := hid (((Chg.refl (fun _ => False) w).alloc (.cells k.cs.toArray 26)).alloc (.cells v.cs.toArray 26))
  have e0 : (k.k == 0) = false := by simpa using hkv.2
  have hkh := hid hkv.1
  have hkvh := hid hkv
  have hvh := hid hv
  have hL := hid h
  have hzz := hid hz
  have hnh := hid (show L.length ≤ 1000000 by omega)
  obtain ⟨A, cap, hvs, _, _, hA, -⟩ := own_form h.row
  subst hvs
  obtain ⟨m, hm⟩ : ∃ m, Hid (L.length = m) := ⟨_, hid rfl⟩
  have hcl := h.blk.lt
  rw [hm.out] at hn
  obtain ⟨g, rfl⟩ := hA (by omega)
  have hf : Hid (findI L k = (i : Int)) := hid (by unfold findI; rw [hi])
  have him : i < m := by have := hm.out; omega
  have him2 : (i : Int) < (m : Int) := by omega
  have hih := hid hi2
  have hkk := hid hi3
  have hgg := hid hi4
  clear h hkv hv hi hi2 hi3 hi4 hA ht
  go_enter Try.func52, Try.ntmps52
  go_wp2_with fail
  refine (doc_valid_eq hkh.out).mono ?_
  rintro e w1 ⟨rfl, hc1⟩
  have hB1 := hid (hB0.out.none_ hc1)
  have hV1 := hid (hV0.out.none_ hc1)
  have hC1 := hid (hC0.out.trans_same hc1)
  obtain ⟨z0, z1, z2, z3, z4⟩ := V.box hV1.out
  have hlz := hV1.out.lt
  clear hc1 hB0 hV0 hC0
  go_wp2_with fail
  refine (doc_valid_eq hvh.out).mono ?_
  rintro e w2 ⟨rfl, hc2⟩
  have hB2 := hid (hB1.out.none_ hc2)
  have hV2 := hid (hV1.out.none_ hc2)
  have hC2 := hid (hC1.out.trans_same hc2)
  clear hc2 hB1 hV1 hC1 z0 z1 z2 z3 z4 hlz
  have hL2 := hid (hL.out.none_ hC2.out)
  obtain ⟨z0, z1, z2, z3, z4⟩ := V.box hB2.out
  have hlz := hB2.out.lt
  go_wp2_with fail
  refine (doc_find hL2.out hnh.out k hf.out).mono ?_
  rintro e w3 ⟨rfl, hc3⟩
  have hB3 := hid (hB2.out.none_ hc3)
  have hV3 := hid (hV2.out.none_ hc3)
  have hC3 := hid (hC2.out.trans_same hc3)
  have hL3 := hid (hL2.out.none_ hc3)
  clear hc3 hB2 hV2 hC2 hL2 z0 z1 z2 z3 z4 hlz
  obtain ⟨x0, x1, x2, x3, x4⟩ := V.box hB3.out
  obtain ⟨u0, u1, u2, u3, u4⟩ := V.box hV3.out
  have hxl := hB3.out.lt
  have hul := hV3.out.lt
  have hrow := hid hL3.out.row
  rw [hm.out] at hrow
  have c0 : w3.cell? ⟨c, 0, none⟩ = some (.slice (some ⟨g, 0, none⟩) m cap) := by rw [← hm.out]; exact hL3.out.blk.cell 0
  have hfz : ∀ j, w3.frozen? ⟨g, j, none⟩ = false := fun j => hrow.out.frozenAt j
  have hgl : g < w3.heap.size := own_lt hrow.out (k := g) rfl
  have hgc : g ≠ c := fun e => hL3.out.sep (by rw [e]; rfl)
  have hcell : ∀ j, j < 11 → w3.cell? ⟨g, i * 11 + j, none⟩ = (slAt L i).cs[j]? := by
    obtain ⟨b', o', e1, _, h2⟩ := Sl.at_ (Rd.of_own hL3.out.row) hih.out
    injection e1 with e1
    injection e1 with e1 e2
    subst e1; subst e2
    intro j hj
    have := h2 j hj
    rwa [Nat.zero_add] at this
  have y0 := hcell 0 (by omega)
  have y1 := hcell 1 (by omega)
  have y2 := hcell 2 (by omega)
  have y3 := hcell 3 (by omega)
  have y4 := hcell 4 (by omega)
  have y5 := hcell 5 (by omega)
  have y6 := hcell 6 (by omega)
  have y7 := hcell 7 (by omega)
  have y8 := hcell 8 (by omega)
  have y9 := hcell 9 (by omega)
  have y10 := hcell 10 (by omega)
  simp only [Sl.cs, List.getElem?_cons_succ, List.getElem?_cons_zero, Nat.add_zero] at y0 y1 y2 y3 y4 y5 y6 y7 y8 y9 y10
  rw [hgg.out] at y10
  have hv0 : Hid (v.k ≠ 0) := hid (by have := hzz.out; simpa using this)
  have fin := hid ((doc_put_fin hL3.out hih.out hkk.out hgg.out (hL3.out.inv.set hih.out hgg.out hkk.out.symm (fun _ => ⟨hvh.out, hv0.out⟩) fun h => by cases h)).after hC3.out)
  clear hzz hL3 hrow hcell hB3 hV3 hC3 hv0
  go_wp2_with fail
  (refine wp_region_rc (id := 13) [.rd [0, 1, 2, 3, 4, 5, 6, 7]] [8] [] (fun w' => w' = _) (by kernel_rfl) 117 rfl (by kernel_rfl) (fun _ _ _ _ _ h => h) rfl ?_; refine steps_rdW ?_; apply Exists.intro; refine ⟨?_, ?_⟩; (focus (rintro w' rfl; (iterate 8 (refine stW_step rfl (fun K hK => ?_); go_simp; refine hK _ ?_; clear hK K)); exact stW_nil rfl)); refine steps_nil (l := [⟨_, _, _, _, _, _⟩]) rfl (fun K2 hK2 => ?_); go_wp2; refine hK2 _ _ rfl ?_; clear hK2 K2; refine stI_nil ?_)
  go_wp2_with fail
  go_ret
  exact ⟨rfl, fin.out.drew⟩
set_option maxRecDepth 100000 in
set_option maxHeartbeats 8000000 in
theorem doc_set_ins_a (h : DocM w c vs L) (hn : L.length ≤ 999) {k v : V} (hkv : vok k = true ∧ k.k ≠ 0) (hv : vok v = true) (hi : lastIx L k = none) (ht : thereM L k = none) (hz : (v.k == 0) = false) :
    Calls Try.prog 52 #[.pointer (some ⟨c, 0, none⟩), (.agg #[.int .i64 k.k, .int .i64 k.p, .int .i64 k.q, .string k.s, .int .i64 k.r]), (.agg #[.int .i64 v.k, .int .i64 v.p, .int .i64 v.q, .string v.s, .int .i64 v.r])] w fun e w' => e = .returned (.int .i64 0) ∧ DocPost w w' c vs (insM L k v) := by
  have hB0 := hid ((Bk.new w 26 k.cs).alloc (.cells v.cs.toArray 26))
  have hV0 := hid (Bk.new_at (w.alloc (.cells k.cs.toArray 26)) 26 v.cs.toArray (w.heap.size + 1) (by simp))
  have hC0 := hid (((Chg.refl (fun _ => False) w).alloc (.cells k.cs.toArray 26)).alloc (.cells v.cs.toArray 26))
  have e0 : (k.k == 0) = false := by simpa using hkv.2
  have hkh := hid hkv.1
  have hkvh := hid hkv
  have hvh := hid hv
  have hL := hid h
  have hzz := hid hz
  have hnh := hid (show L.length ≤ 1000000 by omega)
  obtain ⟨A, cap, hvs, _, _, hA, -⟩ := own_form h.row
  subst hvs
  obtain ⟨m, hm⟩ : ∃ m, Hid (L.length = m) := ⟨_, hid rfl⟩
  have hcl := h.blk.lt
  rw [hm.out] at hn
  have hno0 := hid (there_none h.inv ht)
  obtain ⟨i66, hi66, hz66, hs66, hb66⟩ := info_parts Try.info87
  obtain ⟨q, hq⟩ : ∃ q, Hid (nOf L = q) := ⟨_, hid rfl⟩
  have hqm : q ≤ m := by have := nOf_le L; rw [hq.out, hm.out] at this; exact this
  have hf : Hid (findI L k = -1) := hid (by unfold findI; rw [hi])
  clear h hkv hv hi hA ht
  go_enter Try.func52, Try.ntmps52
  go_wp2_with fail
  refine (doc_valid_eq hkh.out).mono ?_
  rintro e w1 ⟨rfl, hc1⟩
  have hB1 := hid (hB0.out.none_ hc1)
  have hV1 := hid (hV0.out.none_ hc1)
  have hC1 := hid (hC0.out.trans_same hc1)
  obtain ⟨z0, z1, z2, z3, z4⟩ := V.box hV1.out
  have hlz := hV1.out.lt
  clear hc1 hB0 hV0 hC0
  go_wp2_with fail
  refine (doc_valid_eq hvh.out).mono ?_
  rintro e w2 ⟨rfl, hc2⟩
  have hB2 := hid (hB1.out.none_ hc2)
  have hV2 := hid (hV1.out.none_ hc2)
  have hC2 := hid (hC1.out.trans_same hc2)
  clear hc2 hB1 hV1 hC1 z0 z1 z2 z3 z4 hlz
  have hL2 := hid (hL.out.none_ hC2.out)
  obtain ⟨z0, z1, z2, z3, z4⟩ := V.box hB2.out
  have hlz := hB2.out.lt
  go_wp2_with fail
  refine (doc_find hL2.out hnh.out k hf.out).mono ?_
  rintro e w3 ⟨rfl, hc3⟩
  have hB3 := hid (hB2.out.none_ hc3)
  have hV3 := hid (hV2.out.none_ hc3)
  have hC3 := hid (hC2.out.trans_same hc3)
  have hL3 := hid (hL2.out.none_ hc3)
  clear hc3 hB2 hV2 hC2 hL2 z0 z1 z2 z3 z4 hlz
  obtain ⟨x0, x1, x2, x3, x4⟩ := V.box hB3.out
  obtain ⟨u0, u1, u2, u3, u4⟩ := V.box hV3.out
  have hxl := hB3.out.lt
  have hul := hV3.out.lt
  have c0 : w3.cell? ⟨c, 0, none⟩ = some (.slice A m cap) := by rw [← hm.out]; exact hL3.out.blk.cell 0
  have hv0 : Hid (v.k ≠ 0) := hid (by have := hzz.out; simpa using this)
  have hw1 : IntKind.i64.wrap ((m : Int) - (q : Int)) = (m : Int) - (q : Int) := by rw [IntKind.wrap_i64]; omega
  have hw2 : IntKind.i64.wrap ((q : Int) + 8) = (q : Int) + 8 := by rw [IntKind.wrap_i64]; omega
  obtain ⟨bd, hbd⟩ : ∃ bd, decide ((q : Int) + 8 < (m : Int) - (q : Int)) = bd := ⟨_, rfl⟩
  have hbdh := hid hbd
  go_wp2_with fail
  refine (doc_len hL3.out hnh.out hq.out).mono ?_
  rintro e wq ⟨rfl, rfl⟩
  cases bd
  case' false =>
    have hins : Hid (insM L k v = L ++ [⟨k, v, false⟩]) := hid (by
      unfold insM
      rw [if_neg]
      have := hbdh.out
      rw [hq.out, hm.out]
      simp at this
      omega)
    go_wp2_with fail
    clear hw1 hw2 hbd
    obtain ⟨L1, hL1⟩ : ∃ L1, L1 = L := ⟨L, rfl⟩
    obtain ⟨m1, hmm⟩ : ∃ m1, m1 = m := ⟨m, rfl⟩
    obtain ⟨A1, hA1⟩ : ∃ A1 : Option Addr, A1 = A := ⟨_, rfl⟩
    obtain ⟨cap1, hcap1⟩ : ∃ cap1, cap1 = cap := ⟨cap, rfl⟩
    have hD4 : Hid (DocM w3 c (.slice A1 m1 cap1) L1) := hid (by have h1 := hL3.out; rw [hm.out] at h1; rw [hA1, hmm, hcap1, hL1]; exact h1)
    have hB4 := hB3
    have hV4 := hV3
    have hcw : Hid (Chg (docF c (.slice A m cap)) w w3) := hid (hC3.out.mono fun _ _ h => h.elim)
    have hfw : Hid (∀ k, docF c (.slice A1 m1 cap1) k → docF c (.slice A m cap) k ∨ w.heap.size ≤ k) := hid fun k hk => .inl (by rw [← hA1, ← hmm, ← hcap1]; exact hk)
    have hno : Hid (∀ i, i < L1.length → (slAt L1 i).k = k → (slAt L1 i).g = true) := hid (by rw [hL1]; exact hno0.out)
    have hm1 : Hid (L1.length = m1) := hid (by rw [hL1, hmm]; exact hm.out)
    have hm1l : m1 ≤ 999 := by omega
    have hins := hid (show insM L k v = L1 ++ [⟨k, v, false⟩] by rw [hL1]; exact hins.out)
    clear hB3 hV3 hC3 hL3 x0 x1 x2 x3 x4 u0 u1 u2 u3 u4 hxl hul c0 hmm hA1 hcap1 hL1
    generalize w3 = w4 at hD4 hB4 hV4 hcw ⊢
    have s0 := hD4.out.blk
    have hS4 : Hid (Bk w4.drew c 82 [.slice A1 m1 cap1] ∧ Bk w4.drew w.heap.size 26 k.cs ∧ Bk w4.drew (w.heap.size + 1) 26 v.cs) := hid ⟨hD4.out.blk.drew, hB4.out.drew, hV4.out.drew⟩
    have hS6 : Hid (Bk ((w4.alloc (.cells (Sl.cs ⟨k, v, false⟩).toArray 87)).drew) c 82 [.slice A1 m1 cap1] ∧ Bk ((w4.alloc (.cells (Sl.cs ⟨k, v, false⟩).toArray 87)).drew) w.heap.size 26 k.cs ∧ Bk ((w4.alloc (.cells (Sl.cs ⟨k, v, false⟩).toArray 87)).drew) (w.heap.size + 1) 26 v.cs) := hid ⟨hD4.out.blk.alloc _, hB4.out.alloc _, hV4.out.alloc _⟩
    have hr6 : Hid (Rd ((w4.alloc (.cells (Sl.cs ⟨k, v, false⟩).toArray 87)).drew) 11 (some ⟨w4.heap.size, 0, none⟩) 1 (Sl.cs ⟨k, v, false⟩)) := hid (one_slot66 w4 ⟨k, v, false⟩ w4.heap.size rfl).drew
    have hR6 : Hid (((w4.alloc (.cells (Sl.cs ⟨k, v, false⟩).toArray 87)).drew).ownsRow 0 87 11 (.slice A1 m1 cap1) m1 (L1.flatMap Sl.cs)) := hid (by
      have h1 := hD4.out.row
      rw [hm1.out] at h1
      exact own_chg h1 (((Chg.refl (fun _ => False) w4).alloc (.cells (Sl.cs ⟨k, v, false⟩).toArray 87)).drew) fun _ _ h => h)
    clear s0
    refine wp_region_rc (id := 24) [.wl [0], .rd [1, 2, 3, 4, 5, 6, 7], .act 8] [9, 10, 11, 12] [] (fun w' => Bk w' c 82 [.slice A1 m1 cap1] ∧ Bk w' w.heap.size 26 k.cs ∧ Bk w' (w.heap.size + 1) 26 v.cs) (by kernel_rfl) 117 rfl (by kernel_rfl) (fun _ _ _ _ _ h => h) hS4.out ?_
    refine steps_wlW ?_
    apply Exists.intro
    refine ⟨?_, ?_⟩
    focus
      intro w'
      iterate 1 (refine stW_step rfl (fun K hK => ?_); go_simp; refine hK _ ?_; clear hK K)
      exact stW_nil rfl
    refine steps_rdW ?_
    apply Exists.intro
    refine ⟨?_, ?_⟩
    focus
      rintro w' ⟨hSa, hSb, hSc⟩
      have q0 := hSa.cell 0
      simp only [List.getElem?_cons_zero] at q0
      obtain ⟨z0, z1, z2, z3, z4⟩ := V.box hSb
      obtain ⟨y0, y1, y2, y3, y4⟩ := V.box hSc
      clear hSa hSb hSc
      iterate 7 (refine stW_step rfl (fun K hK => ?_); go_simp; refine hK _ ?_; clear hK K)
      exact stW_nil rfl
    refine steps_act (o := ⟨_, _, _, _, _, _⟩) rfl (fun K2 hK2 => ?_)
    go_wp2_with fail
    refine hK2 _ _ hS6.out rfl ?_
    clear hK2 K2
    refine steps_nil (l := [⟨_, _, _, _, _, _⟩, ⟨_, _, _, _, _, _⟩, ⟨_, _, _, _, _, _⟩, ⟨_, _, _, _, _, _⟩]) rfl (fun K2 hK2 => ?_)
    go_wp2_with ((with_reducible show wpList _ _ _ ((⟨some 114, _, _, _, _, _⟩ : Oper) :: _) _ _); refine wpList_append_rd (o := ⟨some 114, _, _, _, _, _⟩) rfl (.tmp 109) (.tmp 113) 80 rfl 87 i66 _ 11 104 Try.underlying80 hi66 hz66 hs66 hb66 rfl (by omega) (.slice A1 m1 cap1) m1 _ rfl hR6.out (some ⟨w4.heap.size, 0, none⟩) 1 1 (Sl.cs ⟨k, v, false⟩) rfl hr6.out (Sl.ones1 _) (by unfold maxLen; omega) (by omega) (w4.heap.size + 1) (by simp) ?_; intro A7 c7 w7 hown7' hg7' hat7'; have b7 := hid (hS6.out.1.grown hg7' (Ne.symm (hS6.out.1.ne_row hR6.out (by decide)))); have k0 : w7.cell? ⟨c, 0, none⟩ = some (.slice A1 m1 cap1) := b7.out.cell 0; have kf := fun j => b7.out.frozen j; have kl := b7.out.lt; have fin := hid (doc_ins_fin hD4.out hm1.out hkvh.out ⟨hvh.out, hv0.out⟩ hno.out hown7' hg7' hat7'); clear hown7' hg7' hat7')
    refine hK2 _ _ rfl ?_
    clear hK2 K2
    refine stI_nil ?_
    go_wp2_with fail
    go_ret
    refine ⟨rfl, ?_⟩
    rw [hins.out, hm.out]
    exact fin.out.trans hcw.out hfw.out
  case' true =>
    have hins : Hid (insM L k v = liveL L ++ [⟨k, v, false⟩]) := hid (by
      unfold insM
      rw [if_pos]
      have := hbdh.out
      rw [hq.out, hm.out]
      simp at this
      omega)
    have hno : Hid (∀ i, i < (liveL L).length → (slAt (liveL L) i).k = k → (slAt (liveL L) i).g = true) := hid fun i hi e => by
      obtain ⟨a, a1, a2, a3, a4⟩ := liveL_all hi
      rw [a4] at e ⊢
      exact hno0.out a a1 e
    have hblk : Hid (Bk w3 c 82 [.slice A m cap]) := hid (by rw [← hm.out]; exact hL3.out.blk)
    have hrw := hid (Rd.of_own hL3.out.row)
    have hcl3 : c < w3.heap.size := hL3.out.blk.lt
    go_wp2_with fail
    clear hw1 hw2 hbd x0 x1 x2 x3 x4 u0 u1 u2 u3 u4 c0
    go_loopw [9, 10] (fun s ii wr => ∃ j q : Nat, j ≤ m ∧ q ≤ j ∧ ii = .int .i64 j ∧ Hid (nOf (L.take j) = q) ∧ Hid (OwnR w3 wr 87 11 s q ((liveL (L.take j)).flatMap Sl.cs) ∧ Chg (fun _ => False) w3 wr)) (fun _ ii _ => m - (intOf ii).toNat)
    case atStart => exact ⟨0, 0, Nat.zero_le _, Nat.le_refl _, rfl, hid rfl, hid ⟨OwnR.nil w3 w3 87 11, Chg.refl _ w3⟩⟩
    case round =>
      obtain ⟨j, m1, hj, hp, rfl, hN, hS⟩ := hrel
      obtain ⟨A1, cap1, rfl⟩ := hS.out.1.form
      have c0 := (hblk.out.none_ hS.out.2).cell 0
      simp only [List.getElem?_cons_zero] at c0
      by_cases hlt : j < m
      · obtain ⟨gg, oo, egg, hgg, hcell⟩ := Sl.at_ (hrw.out.none_ hS.out.2) (i := j) (by have := hm.out; omega)
        subst egg
        obtain ⟨⟨sk, sv, sg⟩, hsl⟩ : ∃ sl, Hid (slAt L j = sl) := ⟨_, hid rfl⟩
        rw [hsl.out] at hcell
        have y0 := hcell 0 (by omega)
        have y1 := hcell 1 (by omega)
        have y2 := hcell 2 (by omega)
        have y3 := hcell 3 (by omega)
        have y4 := hcell 4 (by omega)
        have y5 := hcell 5 (by omega)
        have y6 := hcell 6 (by omega)
        have y7 := hcell 7 (by omega)
        have y8 := hcell 8 (by omega)
        have y9 := hcell 9 (by omega)
        have y10 := hcell 10 (by omega)
        simp only [Sl.cs, List.getElem?_cons_succ, List.getElem?_cons_zero, Nat.add_zero] at y0 y1 y2 y3 y4 y5 y6 y7 y8 y9 y10
        rw [← Nat.add_assoc] at y1 y2 y3 y4 y5 y6 y7 y8 y9 y10
        have htk := nOf_take_succ (L := L) (j := j) (by have := hm.out; omega)
        have hlk := liveL_take_succ (L := L) (j := j) (by have := hm.out; omega)
        rw [hsl.out] at htk hlk
        have hjm : (j : Int) < (m : Int) := by omega
        cases sg with
        | true =>
          have hN' : Hid (nOf (L.take (j + 1)) = m1) := hid (by rw [htk]; exact hN.out)
          have hS' : Hid (OwnR w3 _ 87 11 (.slice A1 m1 cap1) m1 ((liveL (L.take (j + 1))).flatMap Sl.cs) ∧ Chg (fun _ => False) w3 _) := hid (by rw [hlk]; exact hS.out)
          clear htk hlk hcell
          go_wp2_with fail
          go_roundw
          case rel => exact ⟨j + 1, m1, by omega, by omega, by go_num, hN', hS'⟩
          case measure => simp [intOf] <;> omega
        | false =>
          have hN' : Hid (nOf (L.take (j + 1)) = m1 + 1) := hid (by rw [htk]; simp [hN.out])
          have hlcap1 : Hid (liveL (L.take (j + 1)) = liveL (L.take j) ++ [⟨sk, sv, false⟩]) := hid (by rw [hlk]; simp)
          have hz := hS.out.2.size
          clear htk hlk hcell
          go_wp2_with ((with_reducible show wpList _ _ _ ((⟨some 100, _, _, _, _, _⟩ : Oper) :: _) _ _); refine wpList_append_rd (o := ⟨some 100, _, _, _, _, _⟩) rfl (.tmp 91) (.tmp 99) 80 rfl 87 i66 _ 11 104 Try.underlying80 hi66 hz66 hs66 hb66 rfl (by omega) (.slice A1 m1 cap1) m1 _ rfl (hS.out.1.alloc _).own (some ⟨wr.heap.size, 0, none⟩) 1 1 (Sl.cs ⟨sk, sv, false⟩) rfl (one_slot66 wr ⟨sk, sv, false⟩ wr.heap.size rfl) (Sl.ones1 _) (by unfold maxLen; omega) (by omega) (wr.heap.size + 1) (by simp) ?_; intro A5 c5 w5 hown5' hg5' hat5'; have fin := hid (slots_more hS.out.1 hS.out.2 ((Chg.refl (fun _ => False) _).alloc _) hown5' hg5' hat5' (by omega)); clear hown5' hg5' hat5')
          go_roundw
          case rel => exact ⟨j + 1, m1 + 1, by omega, by omega, by go_num, hN', hid (by rw [hlcap1.out]; exact fin.out)⟩
          case measure => simp [intOf] <;> omega
      · have hjm : j = m := by omega
        subst hjm
        have htake : Hid (L.take j = L) := hid (by rw [List.take_of_length_le (by have := hm.out; omega)])
        have hpq : Hid (nOf L = m1) := hid (by have := hN.out; rw [htake.out] at this; exact this)
        have hSS : Hid (OwnR w3 wr 87 11 (.slice A1 m1 cap1) m1 ((liveL L).flatMap Sl.cs)) := hid (by have := hS.out.1; rw [htake.out] at this; exact this)
        have hdd := hid (doc_dropped (by have h1 := hL3.out; rw [hm.out] at h1; exact h1) hSS.out hpq.out hS.out.2)
        have hcf := (hblk.out.none_ hS.out.2).frozen 0
        have hclr : c < wr.heap.size := (hblk.out.none_ hS.out.2).lt
        go_wp2_with fail
        have hD4 : Hid (DocM (wr.setCell ⟨c, 0, none⟩ (.slice A1 m1 cap1)) c (.slice A1 m1 cap1) (liveL L)) := hid hdd.out.1
        have hfr : ∀ b, w.heap.size ≤ b → ¬ docF c (.slice A j cap) b := fun b hb e => by
          have h1 := hL.out
          rw [hm.out] at h1
          have := h1.lt e
          omega
        have hB4 := hid (hB3.out.chg hdd.out.2.1 (hfr _ (Nat.le_refl _)))
        have hV4 := hid (hV3.out.chg hdd.out.2.1 (hfr _ (Nat.le_succ _)))
        have hcw : Hid (Chg (docF c (.slice A j cap)) w (wr.setCell ⟨c, 0, none⟩ (.slice A1 m1 cap1))) := hid ((hC3.out.mono fun _ _ h => h.elim).trans_same hdd.out.2.1)
        have hfw : Hid (∀ b, docF c (.slice A1 m1 cap1) b → docF c (.slice A j cap) b ∨ w.heap.size ≤ b) := hid fun b hb => (hdd.out.2.2 b hb).imp id fun e => Nat.le_trans hC3.out.size e
        have hm1 : Hid ((liveL L).length = m1) := hid hpq.out
        clear hdd hfr hB3 hV3 hC3 hL3 c0 hxl hul hcf hclr hSS hpq hS
        generalize liveL L = L1 at hins hno hm1 hD4
        generalize (wr.setCell ⟨c, 0, none⟩ (.slice A1 m1 cap1)) = w4 at hD4 hB4 hV4 hcw ⊢
        have s0 := hD4.out.blk
        have hS4 : Hid (Bk w4.drew c 82 [.slice A1 m1 cap1] ∧ Bk w4.drew w.heap.size 26 k.cs ∧ Bk w4.drew (w.heap.size + 1) 26 v.cs) := hid ⟨hD4.out.blk.drew, hB4.out.drew, hV4.out.drew⟩
        have hS6 : Hid (Bk ((w4.alloc (.cells (Sl.cs ⟨k, v, false⟩).toArray 87)).drew) c 82 [.slice A1 m1 cap1] ∧ Bk ((w4.alloc (.cells (Sl.cs ⟨k, v, false⟩).toArray 87)).drew) w.heap.size 26 k.cs ∧ Bk ((w4.alloc (.cells (Sl.cs ⟨k, v, false⟩).toArray 87)).drew) (w.heap.size + 1) 26 v.cs) := hid ⟨hD4.out.blk.alloc _, hB4.out.alloc _, hV4.out.alloc _⟩
        have hr6 : Hid (Rd ((w4.alloc (.cells (Sl.cs ⟨k, v, false⟩).toArray 87)).drew) 11 (some ⟨w4.heap.size, 0, none⟩) 1 (Sl.cs ⟨k, v, false⟩)) := hid (one_slot66 w4 ⟨k, v, false⟩ w4.heap.size rfl).drew
        have hR6 : Hid (((w4.alloc (.cells (Sl.cs ⟨k, v, false⟩).toArray 87)).drew).ownsRow 0 87 11 (.slice A1 m1 cap1) m1 (L1.flatMap Sl.cs)) := hid (by
          have h1 := hD4.out.row
          rw [hm1.out] at h1
          exact own_chg h1 (((Chg.refl (fun _ => False) w4).alloc (.cells (Sl.cs ⟨k, v, false⟩).toArray 87)).drew) fun _ _ h => h)
        clear s0
        refine wp_region_rc (id := 24) [.wl [0], .rd [1, 2, 3, 4, 5, 6, 7], .act 8] [9, 10, 11, 12] [] (fun w' => Bk w' c 82 [.slice A1 m1 cap1] ∧ Bk w' w.heap.size 26 k.cs ∧ Bk w' (w.heap.size + 1) 26 v.cs) (by kernel_rfl) 117 rfl (by kernel_rfl) (fun _ _ _ _ _ h => h) hS4.out ?_
        refine steps_wlW ?_
        apply Exists.intro
        refine ⟨?_, ?_⟩
        focus
          intro w'
          iterate 1 (refine stW_step rfl (fun K hK => ?_); go_simp; refine hK _ ?_; clear hK K)
          exact stW_nil rfl
        refine steps_rdW ?_
        apply Exists.intro
        refine ⟨?_, ?_⟩
        focus
          rintro w' ⟨hSa, hSb, hSc⟩
          have q0 := hSa.cell 0
          simp only [List.getElem?_cons_zero] at q0
          obtain ⟨z0, z1, z2, z3, z4⟩ := V.box hSb
          obtain ⟨y0, y1, y2, y3, y4⟩ := V.box hSc
          clear hSa hSb hSc
          iterate 7 (refine stW_step rfl (fun K hK => ?_); go_simp; refine hK _ ?_; clear hK K)
          exact stW_nil rfl
        refine steps_act (o := ⟨_, _, _, _, _, _⟩) rfl (fun K2 hK2 => ?_)
        go_wp2_with fail
        refine hK2 _ _ hS6.out rfl ?_
        clear hK2 K2
        refine steps_nil (l := [⟨_, _, _, _, _, _⟩, ⟨_, _, _, _, _, _⟩, ⟨_, _, _, _, _, _⟩, ⟨_, _, _, _, _, _⟩]) rfl (fun K2 hK2 => ?_)
        go_wp2_with ((with_reducible show wpList _ _ _ ((⟨some 114, _, _, _, _, _⟩ : Oper) :: _) _ _); refine wpList_append_rd (o := ⟨some 114, _, _, _, _, _⟩) rfl (.tmp 109) (.tmp 113) 80 rfl 87 i66 _ 11 104 Try.underlying80 hi66 hz66 hs66 hb66 rfl (by omega) (.slice A1 m1 cap1) m1 _ rfl hR6.out (some ⟨w4.heap.size, 0, none⟩) 1 1 (Sl.cs ⟨k, v, false⟩) rfl hr6.out (Sl.ones1 _) (by unfold maxLen; omega) (by omega) (w4.heap.size + 1) (by simp) ?_; intro A7 c7 w7 hown7' hg7' hat7'; have b7 := hid (hS6.out.1.grown hg7' (Ne.symm (hS6.out.1.ne_row hR6.out (by decide)))); have k0 : w7.cell? ⟨c, 0, none⟩ = some (.slice A1 m1 cap1) := b7.out.cell 0; have kf := fun j => b7.out.frozen j; have kl := b7.out.lt; have fin := hid (doc_ins_fin hD4.out hm1.out hkvh.out ⟨hvh.out, hv0.out⟩ hno.out hown7' hg7' hat7'); clear hown7' hg7' hat7')
        refine hK2 _ _ rfl ?_
        clear hK2 K2
        refine stI_nil ?_
        go_wp2_with fail
        go_ret
        refine ⟨rfl, ?_⟩
        rw [hins.out, hm.out]
        exact fin.out.trans hcw.out hfw.out
set_option maxRecDepth 100000 in
set_option maxHeartbeats 8000000 in
theorem doc_set_ins_b (h : DocM w c vs L) (hn : L.length ≤ 999) {k v : V} (hkv : vok k = true ∧ k.k ≠ 0) (hv : vok v = true) {i : Nat} (hi : lastIx L k = some i) (hig : (slAt L i).g = true) (ht : thereM L k = none) (hz : (v.k == 0) = false) :
    Calls Try.prog 52 #[.pointer (some ⟨c, 0, none⟩), (.agg #[.int .i64 k.k, .int .i64 k.p, .int .i64 k.q, .string k.s, .int .i64 k.r]), (.agg #[.int .i64 v.k, .int .i64 v.p, .int .i64 v.q, .string v.s, .int .i64 v.r])] w fun e w' => e = .returned (.int .i64 0) ∧ DocPost w w' c vs (insM L k v) := by
  obtain ⟨hi2, hi3, _⟩ := lastIx_some hi
  have hB0 := hid ((Bk.new w 26 k.cs).alloc (.cells v.cs.toArray 26))
  have hV0 := hid (Bk.new_at (w.alloc (.cells k.cs.toArray 26)) 26 v.cs.toArray (w.heap.size + 1) (by simp))
  have hC0 := hid (((Chg.refl (fun _ => False) w).alloc (.cells k.cs.toArray 26)).alloc (.cells v.cs.toArray 26))
  have e0 : (k.k == 0) = false := by simpa using hkv.2
  have hkh := hid hkv.1
  have hkvh := hid hkv
  have hvh := hid hv
  have hL := hid h
  have hzz := hid hz
  have hnh := hid (show L.length ≤ 1000000 by omega)
  obtain ⟨A, cap, hvs, _, _, hA, -⟩ := own_form h.row
  subst hvs
  obtain ⟨m, hm⟩ : ∃ m, Hid (L.length = m) := ⟨_, hid rfl⟩
  have hcl := h.blk.lt
  rw [hm.out] at hn
  have hno0 := hid (there_none h.inv ht)
  obtain ⟨i66, hi66, hz66, hs66, hb66⟩ := info_parts Try.info87
  obtain ⟨q, hq⟩ : ∃ q, Hid (nOf L = q) := ⟨_, hid rfl⟩
  have hqm : q ≤ m := by have := nOf_le L; rw [hq.out, hm.out] at this; exact this
  obtain ⟨g, rfl⟩ := hA (by omega)
  have hf : Hid (findI L k = (i : Int)) := hid (by unfold findI; rw [hi])
  have him : i < m := by have := hm.out; omega
  have him2 : (i : Int) < (m : Int) := by omega
  have hih := hid hi2
  have hkk := hid hi3
  have hgg := hid hig
  clear h hkv hv hi hi2 hi3 hA ht hig
  go_enter Try.func52, Try.ntmps52
  go_wp2_with fail
  refine (doc_valid_eq hkh.out).mono ?_
  rintro e w1 ⟨rfl, hc1⟩
  have hB1 := hid (hB0.out.none_ hc1)
  have hV1 := hid (hV0.out.none_ hc1)
  have hC1 := hid (hC0.out.trans_same hc1)
  obtain ⟨z0, z1, z2, z3, z4⟩ := V.box hV1.out
  have hlz := hV1.out.lt
  clear hc1 hB0 hV0 hC0
  go_wp2_with fail
  refine (doc_valid_eq hvh.out).mono ?_
  rintro e w2 ⟨rfl, hc2⟩
  have hB2 := hid (hB1.out.none_ hc2)
  have hV2 := hid (hV1.out.none_ hc2)
  have hC2 := hid (hC1.out.trans_same hc2)
  clear hc2 hB1 hV1 hC1 z0 z1 z2 z3 z4 hlz
  have hL2 := hid (hL.out.none_ hC2.out)
  obtain ⟨z0, z1, z2, z3, z4⟩ := V.box hB2.out
  have hlz := hB2.out.lt
  go_wp2_with fail
  refine (doc_find hL2.out hnh.out k hf.out).mono ?_
  rintro e w3 ⟨rfl, hc3⟩
  have hB3 := hid (hB2.out.none_ hc3)
  have hV3 := hid (hV2.out.none_ hc3)
  have hC3 := hid (hC2.out.trans_same hc3)
  have hL3 := hid (hL2.out.none_ hc3)
  clear hc3 hB2 hV2 hC2 hL2 z0 z1 z2 z3 z4 hlz
  obtain ⟨x0, x1, x2, x3, x4⟩ := V.box hB3.out
  obtain ⟨u0, u1, u2, u3, u4⟩ := V.box hV3.out
  have hxl := hB3.out.lt
  have hul := hV3.out.lt
  have hrow := hid hL3.out.row
  rw [hm.out] at hrow
  have c0 : w3.cell? ⟨c, 0, none⟩ = some (.slice (some ⟨g, 0, none⟩) m cap) := by rw [← hm.out]; exact hL3.out.blk.cell 0
  have hfz : ∀ j, w3.frozen? ⟨g, j, none⟩ = false := fun j => hrow.out.frozenAt j
  have hgl : g < w3.heap.size := own_lt hrow.out (k := g) rfl
  have hgc : g ≠ c := fun e => hL3.out.sep (by rw [e]; rfl)
  have hcell : ∀ j, j < 11 → w3.cell? ⟨g, i * 11 + j, none⟩ = (slAt L i).cs[j]? := by
    obtain ⟨b', o', e1, _, h2⟩ := Sl.at_ (Rd.of_own hL3.out.row) hih.out
    injection e1 with e1
    injection e1 with e1 e2
    subst e1; subst e2
    intro j hj
    have := h2 j hj
    rwa [Nat.zero_add] at this
  have y0 := hcell 0 (by omega)
  have y1 := hcell 1 (by omega)
  have y2 := hcell 2 (by omega)
  have y3 := hcell 3 (by omega)
  have y4 := hcell 4 (by omega)
  have y5 := hcell 5 (by omega)
  have y6 := hcell 6 (by omega)
  have y7 := hcell 7 (by omega)
  have y8 := hcell 8 (by omega)
  have y9 := hcell 9 (by omega)
  have y10 := hcell 10 (by omega)
  simp only [Sl.cs, List.getElem?_cons_succ, List.getElem?_cons_zero, Nat.add_zero] at y0 y1 y2 y3 y4 y5 y6 y7 y8 y9 y10
  rw [hgg.out] at y10
  clear y0 y1 y2 y3 y4 y5 y6 y7 y8 y9 hcell hrow
  have hv0 : Hid (v.k ≠ 0) := hid (by have := hzz.out; simpa using this)
  have hw1 : IntKind.i64.wrap ((m : Int) - (q : Int)) = (m : Int) - (q : Int) := by rw [IntKind.wrap_i64]; omega
  have hw2 : IntKind.i64.wrap ((q : Int) + 8) = (q : Int) + 8 := by rw [IntKind.wrap_i64]; omega
  obtain ⟨bd, hbd⟩ : ∃ bd, decide ((q : Int) + 8 < (m : Int) - (q : Int)) = bd := ⟨_, rfl⟩
  have hbdh := hid hbd
  go_wp2_with fail
  refine (doc_len hL3.out hnh.out hq.out).mono ?_
  rintro e wq ⟨rfl, rfl⟩
  cases bd
  case' false =>
    have hins : Hid (insM L k v = L ++ [⟨k, v, false⟩]) := hid (by
      unfold insM
      rw [if_neg]
      have := hbdh.out
      rw [hq.out, hm.out]
      simp at this
      omega)
    go_wp2_with fail
    clear hw1 hw2 hbd
    obtain ⟨L1, hL1⟩ : ∃ L1, L1 = L := ⟨L, rfl⟩
    obtain ⟨m1, hmm⟩ : ∃ m1, m1 = m := ⟨m, rfl⟩
    obtain ⟨A1, hA1⟩ : ∃ A1 : Option Addr, A1 = (some ⟨g, 0, none⟩) := ⟨_, rfl⟩
    obtain ⟨cap1, hcap1⟩ : ∃ cap1, cap1 = cap := ⟨cap, rfl⟩
    have hD4 : Hid (DocM w3 c (.slice A1 m1 cap1) L1) := hid (by have h1 := hL3.out; rw [hm.out] at h1; rw [hA1, hmm, hcap1, hL1]; exact h1)
    have hB4 := hB3
    have hV4 := hV3
    have hcw : Hid (Chg (docF c (.slice (some ⟨g, 0, none⟩) m cap)) w w3) := hid (hC3.out.mono fun _ _ h => h.elim)
    have hfw : Hid (∀ k, docF c (.slice A1 m1 cap1) k → docF c (.slice (some ⟨g, 0, none⟩) m cap) k ∨ w.heap.size ≤ k) := hid fun k hk => .inl (by rw [← hA1, ← hmm, ← hcap1]; exact hk)
    have hno : Hid (∀ i, i < L1.length → (slAt L1 i).k = k → (slAt L1 i).g = true) := hid (by rw [hL1]; exact hno0.out)
    have hm1 : Hid (L1.length = m1) := hid (by rw [hL1, hmm]; exact hm.out)
    have hm1l : m1 ≤ 999 := by omega
    have hins := hid (show insM L k v = L1 ++ [⟨k, v, false⟩] by rw [hL1]; exact hins.out)
    clear hB3 hV3 hC3 hL3 x0 x1 x2 x3 x4 u0 u1 u2 u3 u4 hxl hul c0 y10 hfz hgl hgc hmm hA1 hcap1 hL1
    generalize w3 = w4 at hD4 hB4 hV4 hcw ⊢
    have s0 := hD4.out.blk
    have hS4 : Hid (Bk w4.drew c 82 [.slice A1 m1 cap1] ∧ Bk w4.drew w.heap.size 26 k.cs ∧ Bk w4.drew (w.heap.size + 1) 26 v.cs) := hid ⟨hD4.out.blk.drew, hB4.out.drew, hV4.out.drew⟩
    have hS6 : Hid (Bk ((w4.alloc (.cells (Sl.cs ⟨k, v, false⟩).toArray 87)).drew) c 82 [.slice A1 m1 cap1] ∧ Bk ((w4.alloc (.cells (Sl.cs ⟨k, v, false⟩).toArray 87)).drew) w.heap.size 26 k.cs ∧ Bk ((w4.alloc (.cells (Sl.cs ⟨k, v, false⟩).toArray 87)).drew) (w.heap.size + 1) 26 v.cs) := hid ⟨hD4.out.blk.alloc _, hB4.out.alloc _, hV4.out.alloc _⟩
    have hr6 : Hid (Rd ((w4.alloc (.cells (Sl.cs ⟨k, v, false⟩).toArray 87)).drew) 11 (some ⟨w4.heap.size, 0, none⟩) 1 (Sl.cs ⟨k, v, false⟩)) := hid (one_slot66 w4 ⟨k, v, false⟩ w4.heap.size rfl).drew
    have hR6 : Hid (((w4.alloc (.cells (Sl.cs ⟨k, v, false⟩).toArray 87)).drew).ownsRow 0 87 11 (.slice A1 m1 cap1) m1 (L1.flatMap Sl.cs)) := hid (by
      have h1 := hD4.out.row
      rw [hm1.out] at h1
      exact own_chg h1 (((Chg.refl (fun _ => False) w4).alloc (.cells (Sl.cs ⟨k, v, false⟩).toArray 87)).drew) fun _ _ h => h)
    clear s0
    refine wp_region_rc (id := 24) [.wl [0], .rd [1, 2, 3, 4, 5, 6, 7], .act 8] [9, 10, 11, 12] [] (fun w' => Bk w' c 82 [.slice A1 m1 cap1] ∧ Bk w' w.heap.size 26 k.cs ∧ Bk w' (w.heap.size + 1) 26 v.cs) (by kernel_rfl) 117 rfl (by kernel_rfl) (fun _ _ _ _ _ h => h) hS4.out ?_
    refine steps_wlW ?_
    apply Exists.intro
    refine ⟨?_, ?_⟩
    focus
      intro w'
      iterate 1 (refine stW_step rfl (fun K hK => ?_); go_simp; refine hK _ ?_; clear hK K)
      exact stW_nil rfl
    refine steps_rdW ?_
    apply Exists.intro
    refine ⟨?_, ?_⟩
    focus
      rintro w' ⟨hSa, hSb, hSc⟩
      have q0 := hSa.cell 0
      simp only [List.getElem?_cons_zero] at q0
      obtain ⟨z0, z1, z2, z3, z4⟩ := V.box hSb
      obtain ⟨y0, y1, y2, y3, y4⟩ := V.box hSc
      clear hSa hSb hSc
      iterate 7 (refine stW_step rfl (fun K hK => ?_); go_simp; refine hK _ ?_; clear hK K)
      exact stW_nil rfl
    refine steps_act (o := ⟨_, _, _, _, _, _⟩) rfl (fun K2 hK2 => ?_)
    go_wp2_with fail
    refine hK2 _ _ hS6.out rfl ?_
    clear hK2 K2
    refine steps_nil (l := [⟨_, _, _, _, _, _⟩, ⟨_, _, _, _, _, _⟩, ⟨_, _, _, _, _, _⟩, ⟨_, _, _, _, _, _⟩]) rfl (fun K2 hK2 => ?_)
    go_wp2_with ((with_reducible show wpList _ _ _ ((⟨some 114, _, _, _, _, _⟩ : Oper) :: _) _ _); refine wpList_append_rd (o := ⟨some 114, _, _, _, _, _⟩) rfl (.tmp 109) (.tmp 113) 80 rfl 87 i66 _ 11 104 Try.underlying80 hi66 hz66 hs66 hb66 rfl (by omega) (.slice A1 m1 cap1) m1 _ rfl hR6.out (some ⟨w4.heap.size, 0, none⟩) 1 1 (Sl.cs ⟨k, v, false⟩) rfl hr6.out (Sl.ones1 _) (by unfold maxLen; omega) (by omega) (w4.heap.size + 1) (by simp) ?_; intro A7 c7 w7 hown7' hg7' hat7'; have b7 := hid (hS6.out.1.grown hg7' (Ne.symm (hS6.out.1.ne_row hR6.out (by decide)))); have k0 : w7.cell? ⟨c, 0, none⟩ = some (.slice A1 m1 cap1) := b7.out.cell 0; have kf := fun j => b7.out.frozen j; have kl := b7.out.lt; have fin := hid (doc_ins_fin hD4.out hm1.out hkvh.out ⟨hvh.out, hv0.out⟩ hno.out hown7' hg7' hat7'); clear hown7' hg7' hat7')
    refine hK2 _ _ rfl ?_
    clear hK2 K2
    refine stI_nil ?_
    go_wp2_with fail
    go_ret
    refine ⟨rfl, ?_⟩
    rw [hins.out, hm.out]
    exact fin.out.trans hcw.out hfw.out
  case' true =>
    have hins : Hid (insM L k v = liveL L ++ [⟨k, v, false⟩]) := hid (by
      unfold insM
      rw [if_pos]
      have := hbdh.out
      rw [hq.out, hm.out]
      simp at this
      omega)
    have hno : Hid (∀ i, i < (liveL L).length → (slAt (liveL L) i).k = k → (slAt (liveL L) i).g = true) := hid fun i hi e => by
      obtain ⟨a, a1, a2, a3, a4⟩ := liveL_all hi
      rw [a4] at e ⊢
      exact hno0.out a a1 e
    have hblk : Hid (Bk w3 c 82 [.slice (some ⟨g, 0, none⟩) m cap]) := hid (by rw [← hm.out]; exact hL3.out.blk)
    have hrw := hid (Rd.of_own hL3.out.row)
    have hcl3 : c < w3.heap.size := hL3.out.blk.lt
    go_wp2_with fail
    clear hw1 hw2 hbd x0 x1 x2 x3 x4 u0 u1 u2 u3 u4 c0 y10 hfz hgl hgc
    go_loopw [9, 10] (fun s ii wr => ∃ j q : Nat, j ≤ m ∧ q ≤ j ∧ ii = .int .i64 j ∧ Hid (nOf (L.take j) = q) ∧ Hid (OwnR w3 wr 87 11 s q ((liveL (L.take j)).flatMap Sl.cs) ∧ Chg (fun _ => False) w3 wr)) (fun _ ii _ => m - (intOf ii).toNat)
    case atStart => exact ⟨0, 0, Nat.zero_le _, Nat.le_refl _, rfl, hid rfl, hid ⟨OwnR.nil w3 w3 87 11, Chg.refl _ w3⟩⟩
    case round =>
      obtain ⟨j, m1, hj, hp, rfl, hN, hS⟩ := hrel
      obtain ⟨A1, cap1, rfl⟩ := hS.out.1.form
      have c0 := (hblk.out.none_ hS.out.2).cell 0
      simp only [List.getElem?_cons_zero] at c0
      by_cases hlt : j < m
      · obtain ⟨gg, oo, egg, hgg, hcell⟩ := Sl.at_ (hrw.out.none_ hS.out.2) (i := j) (by have := hm.out; omega)
        obtain ⟨rfl, rfl⟩ : g = gg ∧ 0 = oo := by injection egg with egg; injection egg with e1 e2; exact ⟨e1, e2⟩
        clear egg
        obtain ⟨⟨sk, sv, sg⟩, hsl⟩ : ∃ sl, Hid (slAt L j = sl) := ⟨_, hid rfl⟩
        rw [hsl.out] at hcell
        have y0 := hcell 0 (by omega)
        have y1 := hcell 1 (by omega)
        have y2 := hcell 2 (by omega)
        have y3 := hcell 3 (by omega)
        have y4 := hcell 4 (by omega)
        have y5 := hcell 5 (by omega)
        have y6 := hcell 6 (by omega)
        have y7 := hcell 7 (by omega)
        have y8 := hcell 8 (by omega)
        have y9 := hcell 9 (by omega)
        have y10 := hcell 10 (by omega)
        simp only [Sl.cs, List.getElem?_cons_succ, List.getElem?_cons_zero, Nat.add_zero, Nat.zero_add] at y0 y1 y2 y3 y4 y5 y6 y7 y8 y9 y10
        skip
        have htk := nOf_take_succ (L := L) (j := j) (by have := hm.out; omega)
        have hlk := liveL_take_succ (L := L) (j := j) (by have := hm.out; omega)
        rw [hsl.out] at htk hlk
        have hjm : (j : Int) < (m : Int) := by omega
        cases sg with
        | true =>
          have hN' : Hid (nOf (L.take (j + 1)) = m1) := hid (by rw [htk]; exact hN.out)
          have hS' : Hid (OwnR w3 _ 87 11 (.slice A1 m1 cap1) m1 ((liveL (L.take (j + 1))).flatMap Sl.cs) ∧ Chg (fun _ => False) w3 _) := hid (by rw [hlk]; exact hS.out)
          clear htk hlk hcell
          go_wp2_with fail
          go_roundw
          case rel => exact ⟨j + 1, m1, by omega, by omega, by go_num, hN', hS'⟩
          case measure => simp [intOf] <;> omega
        | false =>
          have hN' : Hid (nOf (L.take (j + 1)) = m1 + 1) := hid (by rw [htk]; simp [hN.out])
          have hlcap1 : Hid (liveL (L.take (j + 1)) = liveL (L.take j) ++ [⟨sk, sv, false⟩]) := hid (by rw [hlk]; simp)
          have hz := hS.out.2.size
          clear htk hlk hcell
          go_wp2_with ((with_reducible show wpList _ _ _ ((⟨some 100, _, _, _, _, _⟩ : Oper) :: _) _ _); refine wpList_append_rd (o := ⟨some 100, _, _, _, _, _⟩) rfl (.tmp 91) (.tmp 99) 80 rfl 87 i66 _ 11 104 Try.underlying80 hi66 hz66 hs66 hb66 rfl (by omega) (.slice A1 m1 cap1) m1 _ rfl (hS.out.1.alloc _).own (some ⟨wr.heap.size, 0, none⟩) 1 1 (Sl.cs ⟨sk, sv, false⟩) rfl (one_slot66 wr ⟨sk, sv, false⟩ wr.heap.size rfl) (Sl.ones1 _) (by unfold maxLen; omega) (by omega) (wr.heap.size + 1) (by simp) ?_; intro A5 c5 w5 hown5' hg5' hat5'; have fin := hid (slots_more hS.out.1 hS.out.2 ((Chg.refl (fun _ => False) _).alloc _) hown5' hg5' hat5' (by omega)); clear hown5' hg5' hat5')
          go_roundw
          case rel => exact ⟨j + 1, m1 + 1, by omega, by omega, by go_num, hN', hid (by rw [hlcap1.out]; exact fin.out)⟩
          case measure => simp [intOf] <;> omega
      · have hjm : j = m := by omega
        subst hjm
        have htake : Hid (L.take j = L) := hid (by rw [List.take_of_length_le (by have := hm.out; omega)])
        have hpq : Hid (nOf L = m1) := hid (by have := hN.out; rw [htake.out] at this; exact this)
        have hSS : Hid (OwnR w3 wr 87 11 (.slice A1 m1 cap1) m1 ((liveL L).flatMap Sl.cs)) := hid (by have := hS.out.1; rw [htake.out] at this; exact this)
        have hdd := hid (doc_dropped (by have h1 := hL3.out; rw [hm.out] at h1; exact h1) hSS.out hpq.out hS.out.2)
        have hcf := (hblk.out.none_ hS.out.2).frozen 0
        have hclr : c < wr.heap.size := (hblk.out.none_ hS.out.2).lt
        go_wp2_with fail
        have hD4 : Hid (DocM (wr.setCell ⟨c, 0, none⟩ (.slice A1 m1 cap1)) c (.slice A1 m1 cap1) (liveL L)) := hid hdd.out.1
        have hfr : ∀ b, w.heap.size ≤ b → ¬ docF c (.slice (some ⟨g, 0, none⟩) j cap) b := fun b hb e => by
          have h1 := hL.out
          rw [hm.out] at h1
          have := h1.lt e
          omega
        have hB4 := hid (hB3.out.chg hdd.out.2.1 (hfr _ (Nat.le_refl _)))
        have hV4 := hid (hV3.out.chg hdd.out.2.1 (hfr _ (Nat.le_succ _)))
        have hcw : Hid (Chg (docF c (.slice (some ⟨g, 0, none⟩) j cap)) w (wr.setCell ⟨c, 0, none⟩ (.slice A1 m1 cap1))) := hid ((hC3.out.mono fun _ _ h => h.elim).trans_same hdd.out.2.1)
        have hfw : Hid (∀ b, docF c (.slice A1 m1 cap1) b → docF c (.slice (some ⟨g, 0, none⟩) j cap) b ∨ w.heap.size ≤ b) := hid fun b hb => (hdd.out.2.2 b hb).imp id fun e => Nat.le_trans hC3.out.size e
        have hm1 : Hid ((liveL L).length = m1) := hid hpq.out
        clear hdd hfr hB3 hV3 hC3 hL3 c0 hxl hul hcf hclr hSS hpq hS
        generalize liveL L = L1 at hins hno hm1 hD4
        generalize (wr.setCell ⟨c, 0, none⟩ (.slice A1 m1 cap1)) = w4 at hD4 hB4 hV4 hcw ⊢
        have s0 := hD4.out.blk
        have hS4 : Hid (Bk w4.drew c 82 [.slice A1 m1 cap1] ∧ Bk w4.drew w.heap.size 26 k.cs ∧ Bk w4.drew (w.heap.size + 1) 26 v.cs) := hid ⟨hD4.out.blk.drew, hB4.out.drew, hV4.out.drew⟩
        have hS6 : Hid (Bk ((w4.alloc (.cells (Sl.cs ⟨k, v, false⟩).toArray 87)).drew) c 82 [.slice A1 m1 cap1] ∧ Bk ((w4.alloc (.cells (Sl.cs ⟨k, v, false⟩).toArray 87)).drew) w.heap.size 26 k.cs ∧ Bk ((w4.alloc (.cells (Sl.cs ⟨k, v, false⟩).toArray 87)).drew) (w.heap.size + 1) 26 v.cs) := hid ⟨hD4.out.blk.alloc _, hB4.out.alloc _, hV4.out.alloc _⟩
        have hr6 : Hid (Rd ((w4.alloc (.cells (Sl.cs ⟨k, v, false⟩).toArray 87)).drew) 11 (some ⟨w4.heap.size, 0, none⟩) 1 (Sl.cs ⟨k, v, false⟩)) := hid (one_slot66 w4 ⟨k, v, false⟩ w4.heap.size rfl).drew
        have hR6 : Hid (((w4.alloc (.cells (Sl.cs ⟨k, v, false⟩).toArray 87)).drew).ownsRow 0 87 11 (.slice A1 m1 cap1) m1 (L1.flatMap Sl.cs)) := hid (by
          have h1 := hD4.out.row
          rw [hm1.out] at h1
          exact own_chg h1 (((Chg.refl (fun _ => False) w4).alloc (.cells (Sl.cs ⟨k, v, false⟩).toArray 87)).drew) fun _ _ h => h)
        clear s0
        refine wp_region_rc (id := 24) [.wl [0], .rd [1, 2, 3, 4, 5, 6, 7], .act 8] [9, 10, 11, 12] [] (fun w' => Bk w' c 82 [.slice A1 m1 cap1] ∧ Bk w' w.heap.size 26 k.cs ∧ Bk w' (w.heap.size + 1) 26 v.cs) (by kernel_rfl) 117 rfl (by kernel_rfl) (fun _ _ _ _ _ h => h) hS4.out ?_
        refine steps_wlW ?_
        apply Exists.intro
        refine ⟨?_, ?_⟩
        focus
          intro w'
          iterate 1 (refine stW_step rfl (fun K hK => ?_); go_simp; refine hK _ ?_; clear hK K)
          exact stW_nil rfl
        refine steps_rdW ?_
        apply Exists.intro
        refine ⟨?_, ?_⟩
        focus
          rintro w' ⟨hSa, hSb, hSc⟩
          have q0 := hSa.cell 0
          simp only [List.getElem?_cons_zero] at q0
          obtain ⟨z0, z1, z2, z3, z4⟩ := V.box hSb
          obtain ⟨y0, y1, y2, y3, y4⟩ := V.box hSc
          clear hSa hSb hSc
          iterate 7 (refine stW_step rfl (fun K hK => ?_); go_simp; refine hK _ ?_; clear hK K)
          exact stW_nil rfl
        refine steps_act (o := ⟨_, _, _, _, _, _⟩) rfl (fun K2 hK2 => ?_)
        go_wp2_with fail
        refine hK2 _ _ hS6.out rfl ?_
        clear hK2 K2
        refine steps_nil (l := [⟨_, _, _, _, _, _⟩, ⟨_, _, _, _, _, _⟩, ⟨_, _, _, _, _, _⟩, ⟨_, _, _, _, _, _⟩]) rfl (fun K2 hK2 => ?_)
        go_wp2_with ((with_reducible show wpList _ _ _ ((⟨some 114, _, _, _, _, _⟩ : Oper) :: _) _ _); refine wpList_append_rd (o := ⟨some 114, _, _, _, _, _⟩) rfl (.tmp 109) (.tmp 113) 80 rfl 87 i66 _ 11 104 Try.underlying80 hi66 hz66 hs66 hb66 rfl (by omega) (.slice A1 m1 cap1) m1 _ rfl hR6.out (some ⟨w4.heap.size, 0, none⟩) 1 1 (Sl.cs ⟨k, v, false⟩) rfl hr6.out (Sl.ones1 _) (by unfold maxLen; omega) (by omega) (w4.heap.size + 1) (by simp) ?_; intro A7 c7 w7 hown7' hg7' hat7'; have b7 := hid (hS6.out.1.grown hg7' (Ne.symm (hS6.out.1.ne_row hR6.out (by decide)))); have k0 : w7.cell? ⟨c, 0, none⟩ = some (.slice A1 m1 cap1) := b7.out.cell 0; have kf := fun j => b7.out.frozen j; have kl := b7.out.lt; have fin := hid (doc_ins_fin hD4.out hm1.out hkvh.out ⟨hvh.out, hv0.out⟩ hno.out hown7' hg7' hat7'); clear hown7' hg7' hat7')
        refine hK2 _ _ rfl ?_
        clear hK2 K2
        refine stI_nil ?_
        go_wp2_with fail
        go_ret
        refine ⟨rfl, ?_⟩
        rw [hins.out, hm.out]
        exact fin.out.trans hcw.out hfw.out
theorem doc_setM (h : DocM w c vs L) (hn : L.length ≤ 999) {k v : V} {e1 : Int} {L1 : List Sl} (hp : setM L k v = (e1, L1)) :
    Calls Try.prog 52 #[.pointer (some ⟨c, 0, none⟩), (.agg #[.int .i64 k.k, .int .i64 k.p, .int .i64 k.q, .string k.s, .int .i64 k.r]), (.agg #[.int .i64 v.k, .int .i64 v.p, .int .i64 v.q, .string v.s, .int .i64 v.r])] w fun e w' => e = .returned (.int .i64 e1) ∧ DocPost w w' c vs L1 := by
  by_cases hbad : k.k = 0 ∨ vok k = false
  · have e : setM L k v = (13, L) := by unfold setM; rw [if_pos hbad]
    rw [e] at hp
    injection hp with h1 h2
    subst h1 h2
    exact (doc_set_bad w c k v (.inl ⟨hbad, rfl⟩)).mono fun e w' ⟨h1, hc⟩ => ⟨h1, DocPost.same h hc⟩
  · have hkv : vok k = true ∧ k.k ≠ 0 := ⟨by cases e : vok k with | true => rfl | false => exact absurd (.inr e) hbad, fun e => hbad (.inl e)⟩
    cases hv : vok v with
    | false =>
      have e : setM L k v = (2, L) := by unfold setM; rw [if_neg hbad, if_pos hv]
      rw [e] at hp
      injection hp with h1 h2
      subst h1 h2
      exact (doc_set_bad w c k v (.inr ⟨hbad, hv, rfl⟩)).mono fun e w' ⟨h1, hc⟩ => ⟨h1, DocPost.same h hc⟩
    | true =>
      cases ht : thereM L k with
      | some i =>
        rw [setM_there hkv hv ht] at hp
        injection hp with h1 h2
        subst h1 h2
        by_cases hz : v.k = 0
        · rw [if_pos hz]
          exact doc_set_gone h hn hkv hv (there_some ht).1 (by simpa using hz)
        · rw [if_neg hz]
          exact doc_set_put h hn hkv hv ht (by simpa using hz)
      | none =>
        rw [setM_none hkv hv ht] at hp
        injection hp with h1 h2
        subst h1 h2
        rcases there_cases ht with hi | ⟨i, hi, hg⟩
        · by_cases hz : v.k = 0
          · rw [if_pos hz]
            exact (doc_set_none0 h hn hkv hv hi (by simpa using hz)).mono fun e w' ⟨h1, hc⟩ => ⟨h1, DocPost.same h hc⟩
          · rw [if_neg hz]
            exact doc_set_ins_a h hn hkv hv hi ht (by simpa using hz)
        · by_cases hz : v.k = 0
          · rw [if_pos hz]
            have e := doc_set_gone h hn hkv hv hi (by simpa using hz)
            obtain ⟨h1, h2, _⟩ := lastIx_some hi
            rw [set_gone_same h.inv h1 h2 hg] at e
            exact e
          · rw [if_neg hz]
            exact doc_set_ins_b h hn hkv hv hi hg ht (by simpa using hz)
end
end Go.Proofs.Ytoelgnjnbelokaa
