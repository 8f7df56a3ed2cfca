/-
  Set of the program where the key has no slot that is not removed.
-/
import Derived.Test.YtoelgnjnbelokaaWSet2
namespace Go.Proofs.Ytoelgnjnbelokaa
open Go.RowKit Go.Maps

theorem there_cases {L : List Sl} {k : V} (h : thereM L k = none) : lastIx L k = none ∨ ∃ i, lastIx L k = some i ∧ (slAt L i).g = true := by
  unfold thereM at h
  cases e : lastIx L k with
  | none => exact .inl rfl
  | some i =>
    rw [e] at h
    simp only at h
    refine .inr ⟨i, rfl, ?_⟩
    cases hg : (slAt L i).g with
    | true => rfl
    | false => rw [hg] at h; cases h
section
variable {w w' : World} {c bm n : Nat} {vs : Value} {D : DataW Unit} {L : List Sl}
theorem one_slot (w : World) (x : Sl) (H : Nat) (hH : w.heap.size = H) : Rd (w.alloc (.cells x.cs.toArray 72)) 11 (some ⟨H, 0, none⟩) 1 x.cs := Rd.one w 72 11 x.cs rfl H hH
theorem Sl.ones1 (x : Sl) : ∀ u ∈ x.cs, u.oneCell' = true := by have := Sl.ones [x]; simpa using this
/-- A slot is appended, its place laid in the map. -/
theorem ins_fin {w3 w6 w7 : World} {n1 m1 q : Nat} {D1 : DataW Unit} {L1 : List Sl} {k v : V} {l : Lit} {A : Option Addr} {cap : Nat} (h : OwnM w3 c (.slice A m1 cap) bm n1 D1 L1) (hm1 : L1.length = m1) (hq : nOf L1 = q) (hk : k.wf) (hkv : vok k = true ∧ k.k ≠ 0) (hv : vok v = true ∧ v.k ≠ 0) (hno : ∀ i, i < L1.length → (slAt L1 i).k = k → (slAt L1 i).g = true) (hl : keyOf Try.prog 26 (.agg #[.int .i64 k.k, .int .i64 k.p, .int .i64 k.q, .string k.s, .int .i64 k.r]) = some l)
    (hm6 : w6.ownsMap Try.prog 26 (plainElem Try.prog 3) bm (n1 + 1) (D1.put l (.lit (.int .i64 (m1 : Int))))) (hg6 : w3.drew.grownBy w6 (some bm)) {A7 : Option Addr} {cp7 : Nat}
    (h7 : w7.ownsRow 0 72 11 (.slice A7 (m1 + 1) cp7) (m1 + 1) (L1.flatMap Sl.cs ++ (Sl.cs ⟨k, v, false⟩))) (hg7 : ((w6.alloc (.cells (Sl.cs ⟨k, v, false⟩).toArray 72)).drew).grownBy w7 (Value.slice A m1 cap).ownBlock)
    (hat7 : ∀ j, (Value.slice A7 (m1 + 1) cp7).ownBlock = some j → (Value.slice A m1 cap).ownBlock = some j ∨ j = w6.heap.size + 1) :
    OwnPost w3 ((w7.setCell ⟨c, 0, none⟩ (.slice A7 (m1 + 1) cp7)).setCell ⟨c, 2, none⟩ (.int .i64 ((q : Int) + 1))) c (.slice A m1 cap) bm (n1 + 1) (L1 ++ [⟨k, v, false⟩]) := by
  subst hm1 hq
  obtain ⟨s1, s2, s3⟩ := h.sep
  have c6 : Chg (fun j => j = bm) w3 w6 := ((Chg.refl (fun j => j = bm) w3).drew).grown hg6 fun j hj _ => by injection hj with hj; exact hj.symm
  have hb6 := h.blk.chg c6 (fun e => s1 e.symm)
  have hr6 := own_chg h.row c6 fun j hj e => s2 (by rw [← e]; exact hj)
  have c7 : Chg (fun j => (Value.slice A L1.length cap).ownBlock = some j) w6 w7 := (((Chg.refl (fun j => (Value.slice A L1.length cap).ownBlock = some j) w6).alloc _).drew).grown hg7 fun j hj _ => hj
  have hb7 := hb6.chg c7 s3
  have hm7 := map_chg hm6 c7 s2
  have e7 := hb7.ne_row h7 (by decide)
  have c8 : Chg (fun j => j = c) w7 ((w7.setCell ⟨c, 0, none⟩ (.slice A7 (L1.length + 1) cp7)).setCell ⟨c, 2, none⟩ (.int .i64 ((nOf L1 : Int) + 1))) := ((Chg.refl (fun j => j = c) w7).setCell (p := ⟨c, 0, none⟩) (fun _ => rfl) _).setCell (p := ⟨c, 2, none⟩) (fun _ => rfl) _
  have hn : nOf (L1 ++ [(⟨k, v, false⟩ : Sl)]) = nOf L1 + 1 := by unfold nOf; rw [liveL_app]; simp [liveL]
  have hfl : (L1 ++ [(⟨k, v, false⟩ : Sl)]).flatMap Sl.cs = L1.flatMap Sl.cs ++ (Sl.cs ⟨k, v, false⟩) := by simp
  have hz6 := c6.size
  refine ⟨.slice A7 (L1.length + 1) cp7, n1 + 1, _, ⟨?_, ?_, map_chg hm7 c8 (fun e => s1 e), ?_, h.inv.app hkv hv hno, ?_⟩, Nat.le_refl _, ?_, ?_⟩
  · rw [hn]
    exact (hb7.set_ 0 _).set_ 2 _
  · rw [List.length_append, List.length_singleton, hfl]
    exact own_chg h7 c8 fun j hj e => e7 (by rw [← e]; exact hj)
  · refine IxOk.put (f := lastIx L1) h.ix h.mp.isMap hl lastIx_app_eq fun k' hk' => lastIx_app_ne (Ne.symm hk')
  · intro i hi
    rw [List.length_append, List.length_singleton] at hi
    by_cases hi' : i < L1.length
    · rw [slAt_app_lt hi']; exact h.wf i hi'
    · obtain rfl : i = L1.length := by omega
      rw [slAt_app_eq]; exact hk
  · exact ((c6.mono (T := ownF c (.slice A L1.length cap) bm) fun j _ e => .inr (.inr e)).trans_same (c7.mono (T := ownF c (.slice A L1.length cap) bm) fun j _ e => .inr (.inl e))).trans_same (c8.mono (T := ownF c (.slice A L1.length cap) bm) fun j _ e => .inl e)
  · intro j hj
    rcases hj with e | e | e
    · exact .inl (.inl e)
    · rcases hat7 j e with e | e
      · exact .inl (.inr (.inl e))
      · right; omega
    · exact .inl (.inr (.inr e))
theorem OwnPost.trans {w4 W : World} {vs1 : Value} {L2 : List Sl} {m2 : Nat} (hc : Chg (ownF c vs bm) w w4) (hf : ∀ k, ownF c vs1 bm k → ownF c vs bm k ∨ w.heap.size ≤ k) (h : OwnPost w4 W c vs1 bm m2 L2) : OwnPost w W c vs bm m2 L2 := by
  obtain ⟨vs', n', D', h1, h2, h3, h4⟩ := h
  refine ⟨vs', n', D', h1, h2, hc.trans h3 fun k hk e => (hf k e).elim id fun e => by omega, fun k hk => ?_⟩
  rcases h4 k hk with e | e
  · exact hf k e
  · exact .inr (Nat.le_trans hc.size e)
theorem OwnPost.mono {L2 : List Sl} {m1 m2 : Nat} (h : OwnPost w w' c vs bm m1 L2) (hm : m1 ≤ m2) : OwnPost w w' c vs bm m2 L2 := by
  obtain ⟨vs', n', D', h1, h2, h3, h4⟩ := h
  exact ⟨vs', n', D', h1, Nat.le_trans h2 hm, h3, h4⟩
set_option maxRecDepth 100000 in
set_option maxHeartbeats 8000000 in
theorem own_set_none_a (h : OwnM w c vs bm n D L) (hn : L.length ≤ 999) (hnn : n ≤ 100000000) {k v : V} (hk : k.wf) (hkv : vok k = true ∧ k.k ≠ 0) (hv : vok v = true) (ht : thereM L k = none) (hi1 : lastIx L k = none) :
    Calls Try.prog 32 #[.pointer (some ⟨c, 0, none⟩), (.agg #[.int .i64 k.k, .int .i64 k.p, .int .i64 k.q, .string k.s, .int .i64 k.r]), (.agg #[.int .i64 v.k, .int .i64 v.p, .int .i64 v.q, .string v.s, .int .i64 v.r])] w fun e w' => e = .returned (.int .i64 0) ∧ OwnPost w w' c vs bm (n + L.length + 1) (if v.k = 0 then L else insM L k v) := by
  have hB0 := hid ((Bk.new w 26 k.cs).alloc (.cells v.cs.toArray 26))
  have hV0 := hid (Bk.new_at (w.alloc (.cells k.cs.toArray 26)) 26 v.cs.toArray (w.heap.size + 1) (by simp))
  have hC0 := hid (((Chg.refl (fun _ => False) w).alloc (.cells k.cs.toArray 26)).alloc (.cells v.cs.toArray 26))
  have e0 : (k.k == 0) = false := by simpa using hkv.2
  have hkh := hid hkv.1
  have hvh := hid hv
  obtain ⟨l, hl⟩ := key_of hk
  have hlh := hid hl
  have hno0 := hid (there_none h.inv ht)
  obtain ⟨A, cap, hvs, _⟩ := own_form h.row
  subst hvs
  obtain ⟨m, hm⟩ : ∃ m, Hid (L.length = m) := ⟨_, hid rfl⟩
  have hL := hid h
  have hy : Hid (ixI L k = 0) := hid (by unfold ixI; rw [hi1])
  have hb : Hid ((lastIx L k).isSome = false) := hid (by rw [hi1]; rfl)
  have hcl := h.blk.lt
  obtain ⟨q, hq⟩ : ∃ q, Hid (nOf L = q) := ⟨_, hid rfl⟩
  have hkvh := hid hkv
  have hkwf := hid hk
  obtain ⟨bz, hbz⟩ : ∃ bz, (v.k == 0) = bz := ⟨_, rfl⟩
  have hzz : Hid ((v.k == 0) = bz) := hid hbz
  have hqm : q ≤ m := by have := nOf_le L; rw [hq.out, hm.out] at this; exact this
  rw [hm.out] at hn
  clear h hkv hv hl hi1 ht hk
  go_enter Try.func32, Try.ntmps32
  go_wp2_with fail
  refine (val_valid_eq hkh.out).mono ?_
  rintro e w1 ⟨rfl, hc1⟩
  have hB1 := hid (hB0.out.none_ hc1)
  have hV1 := hid (hV0.out.none_ hc1)
  have hC1 := hid (hC0.out.trans_same hc1)
  obtain ⟨z0, z1, z2, z3, z4⟩ := V.box hV1.out
  have hlz := hV1.out.lt
  clear hc1 hB0 hV0 hC0
  go_wp2_with fail
  refine (val_valid_eq hvh.out).mono ?_
  rintro e w2 ⟨rfl, hc2⟩
  have hB2 := hid (hB1.out.none_ hc2).drew
  have hV2 := hid (hV1.out.none_ hc2).drew
  have hC2 := hid (hC1.out.trans_same hc2).drew
  clear hc2 hB1 hV1 hC1 z0 z1 z2 z3 z4 hlz
  have hL2 := hid (hL.out.none_ hC2.out)
  go_wp2_with fail
  refine wp_region_rc (id := 7) [.rd [0, 1, 2, 3, 4, 5, 6, 7, 8, 9, 10]] [] [] (fun w' => w'.cell? ⟨c, 1, none⟩ = some (.map (some bm)) ∧ w'.ownsMap Try.prog 26 (plainElem Try.prog 3) bm n D ∧ Bk w' w.heap.size 26 k.cs) (by kernel_rfl) 130 rfl (by kernel_rfl) (fun _ _ _ _ _ h => h) ⟨hL2.out.blk.cell 1, hL2.out.mp, hB2.out⟩ ?_
  refine steps_rdW ?_
  apply Exists.intro
  refine ⟨?_, ?_⟩
  focus
    rintro w' ⟨q1, hS2, hS3⟩
    obtain ⟨z0, z1, z2, z3, z4⟩ := V.box hS3
    have hrun := look_ok_run hS2 hL.out.ix hlh.out hy.out hb.out
    clear hS2 hS3
    iterate 11 (refine stW_step rfl (fun K hK => ?_); go_simp; refine hK _ ?_; clear hK K)
    exact stW_nil rfl
  refine steps_end rfl ?_
  generalize w2.drew = w3 at hB2 hV2 hC2 hL2 ⊢
  have c0 : w3.cell? ⟨c, 0, none⟩ = some (.slice A m cap) := by rw [← hm.out]; exact hL2.out.blk.cell 0
  have c2 : w3.cell? ⟨c, 2, none⟩ = some (.int .i64 (q : Int)) := by rw [← hq.out]; exact hL2.out.blk.cell 2
  obtain ⟨x0, x1, x2, x3, x4⟩ := V.box hB2.out
  obtain ⟨u0, u1, u2, u3, u4⟩ := V.box hV2.out
  have hxl := hB2.out.lt
  have hul := hV2.out.lt
  cases bz
  case' true =>
    have hv0 : Hid (v.k = 0) := hid (by simpa using hzz.out)
    have fin := hid (OwnPost.same (m := n + L.length + 1) hL.out hC2.out (by omega))
    go_wp2
    go_ret
    exact ⟨rfl, by first | exact fin.out | (rw [if_pos hv0.out]; exact fin.out)⟩
  case' false =>
    have hv0 : Hid (v.k ≠ 0) := hid (by simpa using hzz.out)
    have hw1 : IntKind.i64.wrap ((m : Int) - (q : Int)) = (m : Int) - (q : Int) := by rw [IntKind.wrap_i64]; omega
    have hw2 : IntKind.i64.wrap ((q : Int) + 8) = (q : Int) + 8 := by rw [IntKind.wrap_i64]; omega
    obtain ⟨bd, hbd⟩ : ∃ bd, decide ((q : Int) + 8 < (m : Int) - (q : Int)) = bd := ⟨_, rfl⟩
    have hbdh := hid hbd
    go_wp2_with fail
    (refine wp_region_rc (id := 9) [.rd [0, 1, 2, 3, 4, 5, 6, 7, 8, 9, 10, 11, 12, 13, 14, 15]] [] [] (fun w' => w' = _) (by kernel_rfl) 130 rfl (by kernel_rfl) (fun _ _ _ _ _ h => h) rfl ?_; refine steps_rdW ?_; apply Exists.intro; refine ⟨?_, ?_⟩; (focus (rintro w' rfl; (iterate 16 (refine stW_step rfl (fun K hK => ?_); go_simp; refine hK _ ?_; clear hK K)); exact stW_nil rfl)); refine steps_end rfl ?_)
    clear hw1 hw2 hbd hbz
    cases bd
    case' true =>
      have hL4 := hid (hL2.out.none_ ((Chg.refl (fun _ => False) w3).drew))
      have hins : Hid (insM L k v = liveL L ++ [⟨k, v, false⟩]) := hid (by
        unfold insM
        rw [if_pos]
        have := hbdh.out
        rw [hq.out, hm.out]
        simp at this
        omega)
      have hno : Hid (∀ i, i < (liveL L).length → (slAt (liveL L) i).k = k → (slAt (liveL L) i).g = true) := hid fun i hi e => by
        obtain ⟨a, a1, a2, a3, a4⟩ := liveL_all hi
        rw [a4] at e ⊢
        exact hno0.out a a1 e
      have hq1 : Hid (nOf (liveL L) = q) := hid (by rw [← hq.out]; unfold nOf; rw [liveL_liveL])
      have hm1 : Hid ((liveL L).length = q) := hid hq.out
      go_wp2_with fail
      have hdr := own_drop hL4.out (by rw [hm.out]; omega) hnn
      rw [hm.out] at hdr
      refine hdr.mono ?_
      rintro e w4 ⟨rfl, vs1, n1, D1, hO', hn1', hc1', hf1'⟩
      obtain ⟨A1, cap1, hv1, _⟩ := own_form hO'.row
      subst hv1
      rw [hm1.out] at hO' hf1'
      have hO := hid hO'
      have hn1 : Hid (n1 ≤ n + m) := hid hn1'
      have hcw : Hid (Chg (ownF c (.slice A m cap) bm) w w4) := hid ((hC2.out.mono fun _ _ h => h.elim).trans_same (Chg.trans_same ((Chg.refl _ w3).drew) hc1'))
      have hfw : Hid (∀ k, ownF c (.slice A1 q cap1) bm k → ownF c (.slice A m cap) bm k ∨ w.heap.size ≤ k) := hid fun k hk => (hf1' k hk).imp id fun e => Nat.le_trans hC2.out.size e
      have hfr : ∀ b, w.heap.size ≤ b → ¬ ownF c (.slice A m cap) bm b := fun b hb e => by
        have h1 := hL.out
        rw [hm.out] at h1
        have := h1.lt e
        omega
      have hB4 := hid (hB2.out.drew.chg hc1' (hfr _ (Nat.le_refl _)))
      have hV4 := hid (hV2.out.drew.chg hc1' (hfr _ (Nat.le_succ _)))
      have hwm : Hid ((Lit.int .i64 (q : Int)).wf = true) := hid (WalkArith.wf_i64 (by omega))
      obtain ⟨m1, hmm⟩ : ∃ m1, m1 = q := ⟨q, rfl⟩
      rw [← hmm] at hO hfw hm1 hwm
      have hm1l : m1 ≤ 999 := by omega
      clear hmm
      generalize liveL L = L1 at hins hno hq1 hm1 hO
      clear hO' hn1' hc1' hf1' hfr hB2 hV2 hC2 hL2 hL4 c0 c2 x0 x1 x2 x3 x4 u0 u1 u2 u3 u4 hxl hul hdr
      go_wp2_with fail
    case' false =>
      have hins : Hid (insM L k v = L ++ [⟨k, v, false⟩]) := hid (by
        unfold insM
        rw [if_neg]
        have := hbdh.out
        rw [hq.out, hm.out]
        simp at this
        omega)
      have hO0 := hid (hL2.out.none_ ((Chg.refl (fun _ => False) w3).drew))
      have hB4 := hid hB2.out.drew
      have hV4 := hid hV2.out.drew
      have hcw0 := hid (hC2.out.drew.mono (T := ownF c (.slice A m cap) bm) fun _ _ h => h.elim)
      clear hB2 hV2 hC2 hL2 c0 c2 x0 x1 x2 x3 x4 u0 u1 u2 u3 u4 hxl hul
      go_wp2_with fail
      generalize w3.drew = w4 at hO0 hB4 hV4 hcw0 ⊢
      obtain ⟨L1, hL1⟩ : ∃ L1, L1 = L := ⟨L, rfl⟩
      have hO1 := hO0.out
      rw [hm.out] at hO1
      obtain ⟨m1, hmm⟩ : ∃ m1, m1 = m := ⟨m, rfl⟩
      obtain ⟨A1, hA1⟩ : ∃ A1, A1 = A := ⟨A, rfl⟩
      obtain ⟨cap1, hcap1⟩ : ∃ cap1, cap1 = cap := ⟨cap, rfl⟩
      have hfw : Hid (∀ k, ownF c (.slice A1 m1 cap1) bm k → ownF c (.slice A m cap) bm k ∨ w.heap.size ≤ k) := hid fun k hk => .inl (by rw [← hA1, ← hmm, ← hcap1]; exact hk)
      have hO : Hid (OwnM w4 c (.slice A1 m1 cap1) bm n D L1) := hid (by rw [hA1, hmm, hcap1, hL1]; exact hO1)
      have hn1 : Hid (n ≤ n + m) := hid (Nat.le_add_right _ _)
      have hcw := hcw0
      have hno : Hid (∀ i, i < L1.length → (slAt L1 i).k = k → (slAt L1 i).g = true) := hid (by rw [hL1]; exact hno0.out)
      have hq1 : Hid (nOf L1 = q) := hid (by rw [hL1]; exact hq.out)
      have hm1 : Hid (L1.length = m1) := hid (by rw [hL1, hmm]; exact hm.out)
      have hwm : Hid ((Lit.int .i64 (m1 : Int)).wf = true) := hid (WalkArith.wf_i64 (by omega))
      have hm1l : m1 ≤ 999 := by omega
      have hins := hid (show insM L k v = L1 ++ [⟨k, v, false⟩] by rw [hL1]; exact hins.out)
      have hn1l : n ≤ 100002000 := by omega
      clear hO0 hO1 hcw0 hmm hA1 hcap1 hL1
    all_goals
      have s0 := hO.out.blk.cell 0
      have s1 := hO.out.blk.cell 1
      simp only [List.getElem?_cons_succ, List.getElem?_cons_zero] at s0 s1
      refine wp_region_rc (id := 11) [.rd [0, 1, 2, 3, 4, 5, 6, 7, 8, 9]] [10] [] (fun w' => w'.cell? ⟨c, 1, none⟩ = some (.map (some bm)) ∧ w'.cell? ⟨c, 0, none⟩ = some (.slice A1 m1 cap1) ∧ Bk w' w.heap.size 26 k.cs) (by kernel_rfl) 130 rfl (by kernel_rfl) (fun _ _ _ _ _ h => h) ⟨s1, s0, hB4.out.drew⟩ ?_
      refine steps_rdW ?_
      apply Exists.intro
      refine ⟨?_, ?_⟩
      focus
        rintro w' ⟨q1, q0, hS3⟩
        obtain ⟨z0, z1, z2, z3, z4⟩ := V.box hS3
        clear hS3
        iterate 10 (refine stW_step rfl (fun K hK => ?_); go_simp; refine hK _ ?_; clear hK K)
        exact stW_nil rfl
      refine steps_nil (l := [⟨_, _, _, _, _, _⟩]) rfl (fun K2 hK2 => ?_)
      go_wp2_with (at_mapUpdate; refine wpList_mapUpdate_own _ rfl _ _ _ 68 rfl 26 3 val_law Try.underlying68 _ bm _ _ rfl hO.out.mp.drew (by have := hn1.out; unfold maxLen; omega) _ _ _ rfl rfl hlh.out _ [] (plainElem_int Try.underlying3 hwm.out) ?_; intro w6 hm6' hg6'; have hm6 := hid hm6'; have hg6 := hid hg6'; have hc6 := hid (((Chg.refl (fun j => j = bm) w4).drew).grown hg6' fun j hj _ => by injection hj with hj; exact hj.symm); clear hm6' hg6')
      have hB6 := hid (hB4.out.chg hc6.out (fun e => map_not_row hO.out.mp hB4.out e.symm))
      have hV6 := hid (hV4.out.chg hc6.out (fun e => map_not_row hO.out.mp hV4.out e.symm))
      have hb6 : Hid (Bk w6 c 70 [.slice A1 m1 cap1, .map (some bm), .int .i64 (q : Int)]) := hid (by have := hO.out.blk.chg hc6.out (fun e => hO.out.sep.1 e.symm); rw [hq1.out] at this; exact this)
      have hR6 : Hid (((w6.alloc (.cells (Sl.cs ⟨k, v, false⟩).toArray 72)).drew).ownsRow 0 72 11 (.slice A1 m1 cap1) m1 (L1.flatMap Sl.cs)) := hid (by
        have h1 := own_chg hO.out.row hc6.out fun j hj e => hO.out.sep.2.1 (by rw [← e]; exact hj)
        rw [hm1.out] at h1
        exact own_chg h1 (((Chg.refl (fun _ => False) w6).alloc (.cells (Sl.cs ⟨k, v, false⟩).toArray 72)).drew) fun _ _ h => h)
      have hS6 : Hid (Bk ((w6.alloc (.cells (Sl.cs ⟨k, v, false⟩).toArray 72)).drew) c 70 [.slice A1 m1 cap1, .map (some bm), .int .i64 (q : Int)] ∧ Bk ((w6.alloc (.cells (Sl.cs ⟨k, v, false⟩).toArray 72)).drew) w.heap.size 26 k.cs ∧ Bk ((w6.alloc (.cells (Sl.cs ⟨k, v, false⟩).toArray 72)).drew) (w.heap.size + 1) 26 v.cs) := hid ⟨hb6.out.alloc _, hB6.out.alloc _, hV6.out.alloc _⟩
      have hr6 : Hid (Rd ((w6.alloc (.cells (Sl.cs ⟨k, v, false⟩).toArray 72)).drew) 11 (some ⟨w6.heap.size, 0, none⟩) 1 (Sl.cs ⟨k, v, false⟩)) := hid (one_slot w6 ⟨k, v, false⟩ w6.heap.size rfl).drew
      obtain ⟨i60, hi60, hz60, hs60, hb60⟩ := info_parts Try.info72
      clear s0 s1
      refine hK2 _ _ rfl ?_
      clear hK2 K2
      refine stI_nil ?_
      go_wp2_with fail
      refine wp_region_rc (id := 12) [.wl [0], .rd [1, 2, 3, 4, 5, 6, 7], .act 8] [9, 10, 11, 12] [] (fun w' => Bk w' c 70 [.slice A1 m1 cap1, .map (some bm), .int .i64 (q : Int)] ∧ Bk w' w.heap.size 26 k.cs ∧ Bk w' (w.heap.size + 1) 26 v.cs) (by kernel_rfl) 130 rfl (by kernel_rfl) (fun _ _ _ _ _ h => h) ⟨hb6.out, hB6.out, hV6.out⟩ ?_
      refine steps_wlW ?_
      apply Exists.intro
      refine ⟨?_, ?_⟩
      focus
        intro w'
        iterate 1 (refine stW_step rfl (fun K hK => ?_); go_simp; refine hK _ ?_; clear hK K)
        exact stW_nil rfl
      refine steps_rdW ?_
      apply Exists.intro
      refine ⟨?_, ?_⟩
      focus
        rintro w' ⟨hSa, hSb, hSc⟩
        have q0 := hSa.cell 0
        simp only [List.getElem?_cons_zero] at q0
        obtain ⟨z0, z1, z2, z3, z4⟩ := V.box hSb
        obtain ⟨y0, y1, y2, y3, y4⟩ := V.box hSc
        clear hSa hSb hSc
        iterate 7 (refine stW_step rfl (fun K hK => ?_); go_simp; refine hK _ ?_; clear hK K)
        exact stW_nil rfl
      refine steps_act (o := ⟨_, _, _, _, _, _⟩) rfl (fun K2 hK2 => ?_)
      go_wp2_with fail
      refine hK2 _ _ hS6.out rfl ?_
      clear hK2 K2
      refine steps_nil (l := [⟨_, _, _, _, _, _⟩, ⟨_, _, _, _, _, _⟩, ⟨_, _, _, _, _, _⟩, ⟨_, _, _, _, _, _⟩]) rfl (fun K2 hK2 => ?_)
      go_wp2_with ((with_reducible show wpList _ _ _ ((⟨some 84, _, _, _, _, _⟩ : Oper) :: _) _ _); refine wpList_append_rd (o := ⟨some 84, _, _, _, _, _⟩) rfl (.tmp 79) (.tmp 83) 67 rfl 72 i60 _ 11 104 Try.underlying67 hi60 hz60 hs60 hb60 rfl (by omega) (.slice A1 m1 cap1) m1 _ rfl hR6.out (some ⟨w6.heap.size, 0, none⟩) 1 1 (Sl.cs ⟨k, v, false⟩) rfl hr6.out (Sl.ones1 _) (by unfold maxLen; omega) (by omega) (w6.heap.size + 1) (by simp) ?_; intro A7 c7 w7 hown7' hg7' hat7'; have b7 := hid (hS6.out.1.grown hg7' (Ne.symm (hS6.out.1.ne_row hR6.out (by decide)))); have k0 : w7.cell? ⟨c, 0, none⟩ = some (.slice A1 m1 cap1) := b7.out.cell 0; have k2 : w7.cell? ⟨c, 2, none⟩ = some (.int .i64 (q : Int)) := b7.out.cell 2; have kf := fun j => b7.out.frozen j; have fin := hid (ins_fin hO.out hm1.out hq1.out hkwf.out hkvh.out ⟨hvh.out, hv0.out⟩ hno.out hlh.out hm6.out hg6.out hown7' hg7' hat7'); clear hown7' hg7' hat7')
      refine hK2 _ _ rfl ?_
      clear hK2 K2
      refine stI_nil ?_
      go_wp2_with fail
      go_ret
      have fin2 := (fin.out.trans hcw.out hfw.out).mono (m2 := n + m + 1) (by have := hn1.out; omega)
      rw [← hins.out] at fin2
      refine ⟨rfl, ?_⟩
      rw [hm.out]
      first
        | exact fin2
        | (rw [if_neg hv0.out]; exact fin2)
set_option maxRecDepth 100000 in
set_option maxHeartbeats 8000000 in
theorem own_set_none_b (h : OwnM w c vs bm n D L) (hn : L.length ≤ 999) (hnn : n ≤ 100000000) {k v : V} (hk : k.wf) (hkv : vok k = true ∧ k.k ≠ 0) (hv : vok v = true) (ht : thereM L k = none) {i : Nat} (hi1 : lastIx L k = some i) (hig : (slAt L i).g = true) :
    Calls Try.prog 32 #[.pointer (some ⟨c, 0, none⟩), (.agg #[.int .i64 k.k, .int .i64 k.p, .int .i64 k.q, .string k.s, .int .i64 k.r]), (.agg #[.int .i64 v.k, .int .i64 v.p, .int .i64 v.q, .string v.s, .int .i64 v.r])] w fun e w' => e = .returned (.int .i64 0) ∧ OwnPost w w' c vs bm (n + L.length + 1) (if v.k = 0 then L else insM L k v) := by
  obtain ⟨hi2, hi3, _⟩ := lastIx_some hi1
  have hB0 := hid ((Bk.new w 26 k.cs).alloc (.cells v.cs.toArray 26))
  have hV0 := hid (Bk.new_at (w.alloc (.cells k.cs.toArray 26)) 26 v.cs.toArray (w.heap.size + 1) (by simp))
  have hC0 := hid (((Chg.refl (fun _ => False) w).alloc (.cells k.cs.toArray 26)).alloc (.cells v.cs.toArray 26))
  have e0 : (k.k == 0) = false := by simpa using hkv.2
  have hkh := hid hkv.1
  have hvh := hid hv
  obtain ⟨l, hl⟩ := key_of hk
  have hlh := hid hl
  have hno0 := hid (there_none h.inv ht)
  obtain ⟨A, cap, hvs, _⟩ := own_form h.row
  subst hvs
  obtain ⟨m, hm⟩ : ∃ m, Hid (L.length = m) := ⟨_, hid rfl⟩
  have hL := hid h
  have hy : Hid (ixI L k = (i : Int)) := hid (by unfold ixI; rw [hi1])
  have hb : Hid ((lastIx L k).isSome = true) := hid (by rw [hi1]; rfl)
  have him : i < m := by have := hm.out; omega
  have him2 : (i : Int) < (m : Int) := by omega
  have hih := hid hi2
  have hg := hid hig
  have hcl := h.blk.lt
  obtain ⟨q, hq⟩ : ∃ q, Hid (nOf L = q) := ⟨_, hid rfl⟩
  have hkvh := hid hkv
  have hkwf := hid hk
  obtain ⟨bz, hbz⟩ : ∃ bz, (v.k == 0) = bz := ⟨_, rfl⟩
  have hzz : Hid ((v.k == 0) = bz) := hid hbz
  have hqm : q ≤ m := by have := nOf_le L; rw [hq.out, hm.out] at this; exact this
  rw [hm.out] at hn
  clear h hkv hv hl hi1 hi2 hi3 ht hk hig
  go_enter Try.func32, Try.ntmps32
  go_wp2_with fail
  refine (val_valid_eq hkh.out).mono ?_
  rintro e w1 ⟨rfl, hc1⟩
  have hB1 := hid (hB0.out.none_ hc1)
  have hV1 := hid (hV0.out.none_ hc1)
  have hC1 := hid (hC0.out.trans_same hc1)
  obtain ⟨z0, z1, z2, z3, z4⟩ := V.box hV1.out
  have hlz := hV1.out.lt
  clear hc1 hB0 hV0 hC0
  go_wp2_with fail
  refine (val_valid_eq hvh.out).mono ?_
  rintro e w2 ⟨rfl, hc2⟩
  have hB2 := hid (hB1.out.none_ hc2).drew
  have hV2 := hid (hV1.out.none_ hc2).drew
  have hC2 := hid (hC1.out.trans_same hc2).drew
  clear hc2 hB1 hV1 hC1 z0 z1 z2 z3 z4 hlz
  have hL2 := hid (hL.out.none_ hC2.out)
  go_wp2_with fail
  refine wp_region_rc (id := 7) [.rd [0, 1, 2, 3, 4, 5, 6, 7, 8, 9, 10]] [] [] (fun w' => w'.cell? ⟨c, 1, none⟩ = some (.map (some bm)) ∧ w'.ownsMap Try.prog 26 (plainElem Try.prog 3) bm n D ∧ Bk w' w.heap.size 26 k.cs) (by kernel_rfl) 130 rfl (by kernel_rfl) (fun _ _ _ _ _ h => h) ⟨hL2.out.blk.cell 1, hL2.out.mp, hB2.out⟩ ?_
  refine steps_rdW ?_
  apply Exists.intro
  refine ⟨?_, ?_⟩
  focus
    rintro w' ⟨q1, hS2, hS3⟩
    obtain ⟨z0, z1, z2, z3, z4⟩ := V.box hS3
    have hrun := look_ok_run hS2 hL.out.ix hlh.out hy.out hb.out
    clear hS2 hS3
    iterate 11 (refine stW_step rfl (fun K hK => ?_); go_simp; refine hK _ ?_; clear hK K)
    exact stW_nil rfl
  refine steps_end rfl ?_
  generalize w2.drew = w3 at hB2 hV2 hC2 hL2 ⊢
  have c0 : w3.cell? ⟨c, 0, none⟩ = some (.slice A m cap) := by rw [← hm.out]; exact hL2.out.blk.cell 0
  have c2 : w3.cell? ⟨c, 2, none⟩ = some (.int .i64 (q : Int)) := by rw [← hq.out]; exact hL2.out.blk.cell 2
  obtain ⟨g, o', rfl, hgl, hcell⟩ := Sl.at_ (Rd.of_own hL2.out.row) hih.out
  have y10 := hcell 10 (by omega)
  simp only [Sl.cs, List.getElem?_cons_succ, List.getElem?_cons_zero] at y10
  rw [← Nat.add_assoc, hg.out] at y10
  clear hcell
  obtain ⟨x0, x1, x2, x3, x4⟩ := V.box hB2.out
  obtain ⟨u0, u1, u2, u3, u4⟩ := V.box hV2.out
  have hxl := hB2.out.lt
  have hul := hV2.out.lt
  cases bz
  case' true =>
    have hv0 : Hid (v.k = 0) := hid (by simpa using hzz.out)
    have fin := hid (OwnPost.same (m := n + L.length + 1) hL.out hC2.out (by omega))
    go_wp2
    go_ret
    exact ⟨rfl, by first | exact fin.out | (rw [if_pos hv0.out]; exact fin.out)⟩
  case' false =>
    have hv0 : Hid (v.k ≠ 0) := hid (by simpa using hzz.out)
    have hw1 : IntKind.i64.wrap ((m : Int) - (q : Int)) = (m : Int) - (q : Int) := by rw [IntKind.wrap_i64]; omega
    have hw2 : IntKind.i64.wrap ((q : Int) + 8) = (q : Int) + 8 := by rw [IntKind.wrap_i64]; omega
    obtain ⟨bd, hbd⟩ : ∃ bd, decide ((q : Int) + 8 < (m : Int) - (q : Int)) = bd := ⟨_, rfl⟩
    have hbdh := hid hbd
    go_wp2_with fail
    (refine wp_region_rc (id := 9) [.rd [0, 1, 2, 3, 4, 5, 6, 7, 8, 9, 10, 11, 12, 13, 14, 15]] [] [] (fun w' => w' = _) (by kernel_rfl) 130 rfl (by kernel_rfl) (fun _ _ _ _ _ h => h) rfl ?_; refine steps_rdW ?_; apply Exists.intro; refine ⟨?_, ?_⟩; (focus (rintro w' rfl; (iterate 16 (refine stW_step rfl (fun K hK => ?_); go_simp; refine hK _ ?_; clear hK K)); exact stW_nil rfl)); refine steps_end rfl ?_)
    clear hw1 hw2 hbd hbz
    cases bd
    case' true =>
      have hL4 := hid (hL2.out.none_ ((Chg.refl (fun _ => False) w3).drew))
      have hins : Hid (insM L k v = liveL L ++ [⟨k, v, false⟩]) := hid (by
        unfold insM
        rw [if_pos]
        have := hbdh.out
        rw [hq.out, hm.out]
        simp at this
        omega)
      have hno : Hid (∀ i, i < (liveL L).length → (slAt (liveL L) i).k = k → (slAt (liveL L) i).g = true) := hid fun i hi e => by
        obtain ⟨a, a1, a2, a3, a4⟩ := liveL_all hi
        rw [a4] at e ⊢
        exact hno0.out a a1 e
      have hq1 : Hid (nOf (liveL L) = q) := hid (by rw [← hq.out]; unfold nOf; rw [liveL_liveL])
      have hm1 : Hid ((liveL L).length = q) := hid hq.out
      go_wp2_with fail
      have hdr := own_drop hL4.out (by rw [hm.out]; omega) hnn
      rw [hm.out] at hdr
      refine hdr.mono ?_
      rintro e w4 ⟨rfl, vs1, n1, D1, hO', hn1', hc1', hf1'⟩
      obtain ⟨A1, cap1, hv1, _⟩ := own_form hO'.row
      subst hv1
      rw [hm1.out] at hO' hf1'
      have hO := hid hO'
      have hn1 : Hid (n1 ≤ n + m) := hid hn1'
      have hcw : Hid (Chg (ownF c (.slice (some ⟨g, o', none⟩) m cap) bm) w w4) := hid ((hC2.out.mono fun _ _ h => h.elim).trans_same (Chg.trans_same ((Chg.refl _ w3).drew) hc1'))
      have hfw : Hid (∀ k, ownF c (.slice A1 q cap1) bm k → ownF c (.slice (some ⟨g, o', none⟩) m cap) bm k ∨ w.heap.size ≤ k) := hid fun k hk => (hf1' k hk).imp id fun e => Nat.le_trans hC2.out.size e
      have hfr : ∀ b, w.heap.size ≤ b → ¬ ownF c (.slice (some ⟨g, o', none⟩) m cap) bm b := fun b hb e => by
        have h1 := hL.out
        rw [hm.out] at h1
        have := h1.lt e
        omega
      have hB4 := hid (hB2.out.drew.chg hc1' (hfr _ (Nat.le_refl _)))
      have hV4 := hid (hV2.out.drew.chg hc1' (hfr _ (Nat.le_succ _)))
      have hwm : Hid ((Lit.int .i64 (q : Int)).wf = true) := hid (WalkArith.wf_i64 (by omega))
      obtain ⟨m1, hmm⟩ : ∃ m1, m1 = q := ⟨q, rfl⟩
      rw [← hmm] at hO hfw hm1 hwm
      have hm1l : m1 ≤ 999 := by omega
      clear hmm
      generalize liveL L = L1 at hins hno hq1 hm1 hO
      clear hO' hn1' hc1' hf1' hfr hB2 hV2 hC2 hL2 hL4 c0 c2 x0 x1 x2 x3 x4 u0 u1 u2 u3 u4 hxl hul hdr
      go_wp2_with fail
    case' false =>
      have hins : Hid (insM L k v = L ++ [⟨k, v, false⟩]) := hid (by
        unfold insM
        rw [if_neg]
        have := hbdh.out
        rw [hq.out, hm.out]
        simp at this
        omega)
      have hO0 := hid (hL2.out.none_ ((Chg.refl (fun _ => False) w3).drew))
      have hB4 := hid hB2.out.drew
      have hV4 := hid hV2.out.drew
      have hcw0 := hid (hC2.out.drew.mono (T := ownF c (.slice (some ⟨g, o', none⟩) m cap) bm) fun _ _ h => h.elim)
      clear hB2 hV2 hC2 hL2 c0 c2 x0 x1 x2 x3 x4 u0 u1 u2 u3 u4 hxl hul
      go_wp2_with fail
      generalize w3.drew = w4 at hO0 hB4 hV4 hcw0 ⊢
      obtain ⟨L1, hL1⟩ : ∃ L1, L1 = L := ⟨L, rfl⟩
      have hO1 := hO0.out
      rw [hm.out] at hO1
      obtain ⟨m1, hmm⟩ : ∃ m1, m1 = m := ⟨m, rfl⟩
      obtain ⟨A1, hA1⟩ : ∃ A1 : Option Addr, A1 = some ⟨g, o', none⟩ := ⟨_, rfl⟩
      obtain ⟨cap1, hcap1⟩ : ∃ cap1, cap1 = cap := ⟨cap, rfl⟩
      have hfw : Hid (∀ k, ownF c (.slice A1 m1 cap1) bm k → ownF c (.slice (some ⟨g, o', none⟩) m cap) bm k ∨ w.heap.size ≤ k) := hid fun k hk => .inl (by rw [← hA1, ← hmm, ← hcap1]; exact hk)
      have hO : Hid (OwnM w4 c (.slice A1 m1 cap1) bm n D L1) := hid (by rw [hA1, hmm, hcap1, hL1]; exact hO1)
      have hn1 : Hid (n ≤ n + m) := hid (Nat.le_add_right _ _)
      have hcw := hcw0
      have hno : Hid (∀ i, i < L1.length → (slAt L1 i).k = k → (slAt L1 i).g = true) := hid (by rw [hL1]; exact hno0.out)
      have hq1 : Hid (nOf L1 = q) := hid (by rw [hL1]; exact hq.out)
      have hm1 : Hid (L1.length = m1) := hid (by rw [hL1, hmm]; exact hm.out)
      have hwm : Hid ((Lit.int .i64 (m1 : Int)).wf = true) := hid (WalkArith.wf_i64 (by omega))
      have hm1l : m1 ≤ 999 := by omega
      have hins := hid (show insM L k v = L1 ++ [⟨k, v, false⟩] by rw [hL1]; exact hins.out)
      have hn1l : n ≤ 100002000 := by omega
      clear hO0 hO1 hcw0 hmm hA1 hcap1 hL1
    all_goals
      have s0 := hO.out.blk.cell 0
      have s1 := hO.out.blk.cell 1
      simp only [List.getElem?_cons_succ, List.getElem?_cons_zero] at s0 s1
      refine wp_region_rc (id := 11) [.rd [0, 1, 2, 3, 4, 5, 6, 7, 8, 9]] [10] [] (fun w' => w'.cell? ⟨c, 1, none⟩ = some (.map (some bm)) ∧ w'.cell? ⟨c, 0, none⟩ = some (.slice A1 m1 cap1) ∧ Bk w' w.heap.size 26 k.cs) (by kernel_rfl) 130 rfl (by kernel_rfl) (fun _ _ _ _ _ h => h) ⟨s1, s0, hB4.out.drew⟩ ?_
      refine steps_rdW ?_
      apply Exists.intro
      refine ⟨?_, ?_⟩
      focus
        rintro w' ⟨q1, q0, hS3⟩
        obtain ⟨z0, z1, z2, z3, z4⟩ := V.box hS3
        clear hS3
        iterate 10 (refine stW_step rfl (fun K hK => ?_); go_simp; refine hK _ ?_; clear hK K)
        exact stW_nil rfl
      refine steps_nil (l := [⟨_, _, _, _, _, _⟩]) rfl (fun K2 hK2 => ?_)
      go_wp2_with (at_mapUpdate; refine wpList_mapUpdate_own _ rfl _ _ _ 68 rfl 26 3 val_law Try.underlying68 _ bm _ _ rfl hO.out.mp.drew (by have := hn1.out; unfold maxLen; omega) _ _ _ rfl rfl hlh.out _ [] (plainElem_int Try.underlying3 hwm.out) ?_; intro w6 hm6' hg6'; have hm6 := hid hm6'; have hg6 := hid hg6'; have hc6 := hid (((Chg.refl (fun j => j = bm) w4).drew).grown hg6' fun j hj _ => by injection hj with hj; exact hj.symm); clear hm6' hg6')
      have hB6 := hid (hB4.out.chg hc6.out (fun e => map_not_row hO.out.mp hB4.out e.symm))
      have hV6 := hid (hV4.out.chg hc6.out (fun e => map_not_row hO.out.mp hV4.out e.symm))
      have hb6 : Hid (Bk w6 c 70 [.slice A1 m1 cap1, .map (some bm), .int .i64 (q : Int)]) := hid (by have := hO.out.blk.chg hc6.out (fun e => hO.out.sep.1 e.symm); rw [hq1.out] at this; exact this)
      have hR6 : Hid (((w6.alloc (.cells (Sl.cs ⟨k, v, false⟩).toArray 72)).drew).ownsRow 0 72 11 (.slice A1 m1 cap1) m1 (L1.flatMap Sl.cs)) := hid (by
        have h1 := own_chg hO.out.row hc6.out fun j hj e => hO.out.sep.2.1 (by rw [← e]; exact hj)
        rw [hm1.out] at h1
        exact own_chg h1 (((Chg.refl (fun _ => False) w6).alloc (.cells (Sl.cs ⟨k, v, false⟩).toArray 72)).drew) fun _ _ h => h)
      have hS6 : Hid (Bk ((w6.alloc (.cells (Sl.cs ⟨k, v, false⟩).toArray 72)).drew) c 70 [.slice A1 m1 cap1, .map (some bm), .int .i64 (q : Int)] ∧ Bk ((w6.alloc (.cells (Sl.cs ⟨k, v, false⟩).toArray 72)).drew) w.heap.size 26 k.cs ∧ Bk ((w6.alloc (.cells (Sl.cs ⟨k, v, false⟩).toArray 72)).drew) (w.heap.size + 1) 26 v.cs) := hid ⟨hb6.out.alloc _, hB6.out.alloc _, hV6.out.alloc _⟩
      have hr6 : Hid (Rd ((w6.alloc (.cells (Sl.cs ⟨k, v, false⟩).toArray 72)).drew) 11 (some ⟨w6.heap.size, 0, none⟩) 1 (Sl.cs ⟨k, v, false⟩)) := hid (one_slot w6 ⟨k, v, false⟩ w6.heap.size rfl).drew
      obtain ⟨i60, hi60, hz60, hs60, hb60⟩ := info_parts Try.info72
      clear s0 s1
      refine hK2 _ _ rfl ?_
      clear hK2 K2
      refine stI_nil ?_
      go_wp2_with fail
      refine wp_region_rc (id := 12) [.wl [0], .rd [1, 2, 3, 4, 5, 6, 7], .act 8] [9, 10, 11, 12] [] (fun w' => Bk w' c 70 [.slice A1 m1 cap1, .map (some bm), .int .i64 (q : Int)] ∧ Bk w' w.heap.size 26 k.cs ∧ Bk w' (w.heap.size + 1) 26 v.cs) (by kernel_rfl) 130 rfl (by kernel_rfl) (fun _ _ _ _ _ h => h) ⟨hb6.out, hB6.out, hV6.out⟩ ?_
      refine steps_wlW ?_
      apply Exists.intro
      refine ⟨?_, ?_⟩
      focus
        intro w'
        iterate 1 (refine stW_step rfl (fun K hK => ?_); go_simp; refine hK _ ?_; clear hK K)
        exact stW_nil rfl
      refine steps_rdW ?_
      apply Exists.intro
      refine ⟨?_, ?_⟩
      focus
        rintro w' ⟨hSa, hSb, hSc⟩
        have q0 := hSa.cell 0
        simp only [List.getElem?_cons_zero] at q0
        obtain ⟨z0, z1, z2, z3, z4⟩ := V.box hSb
        obtain ⟨y0, y1, y2, y3, y4⟩ := V.box hSc
        clear hSa hSb hSc
        iterate 7 (refine stW_step rfl (fun K hK => ?_); go_simp; refine hK _ ?_; clear hK K)
        exact stW_nil rfl
      refine steps_act (o := ⟨_, _, _, _, _, _⟩) rfl (fun K2 hK2 => ?_)
      go_wp2_with fail
      refine hK2 _ _ hS6.out rfl ?_
      clear hK2 K2
      refine steps_nil (l := [⟨_, _, _, _, _, _⟩, ⟨_, _, _, _, _, _⟩, ⟨_, _, _, _, _, _⟩, ⟨_, _, _, _, _, _⟩]) rfl (fun K2 hK2 => ?_)
      go_wp2_with ((with_reducible show wpList _ _ _ ((⟨some 84, _, _, _, _, _⟩ : Oper) :: _) _ _); refine wpList_append_rd (o := ⟨some 84, _, _, _, _, _⟩) rfl (.tmp 79) (.tmp 83) 67 rfl 72 i60 _ 11 104 Try.underlying67 hi60 hz60 hs60 hb60 rfl (by omega) (.slice A1 m1 cap1) m1 _ rfl hR6.out (some ⟨w6.heap.size, 0, none⟩) 1 1 (Sl.cs ⟨k, v, false⟩) rfl hr6.out (Sl.ones1 _) (by unfold maxLen; omega) (by omega) (w6.heap.size + 1) (by simp) ?_; intro A7 c7 w7 hown7' hg7' hat7'; have b7 := hid (hS6.out.1.grown hg7' (Ne.symm (hS6.out.1.ne_row hR6.out (by decide)))); have k0 : w7.cell? ⟨c, 0, none⟩ = some (.slice A1 m1 cap1) := b7.out.cell 0; have k2 : w7.cell? ⟨c, 2, none⟩ = some (.int .i64 (q : Int)) := b7.out.cell 2; have kf := fun j => b7.out.frozen j; have fin := hid (ins_fin hO.out hm1.out hq1.out hkwf.out hkvh.out ⟨hvh.out, hv0.out⟩ hno.out hlh.out hm6.out hg6.out hown7' hg7' hat7'); clear hown7' hg7' hat7')
      refine hK2 _ _ rfl ?_
      clear hK2 K2
      refine stI_nil ?_
      go_wp2_with fail
      go_ret
      have fin2 := (fin.out.trans hcw.out hfw.out).mono (m2 := n + m + 1) (by have := hn1.out; omega)
      rw [← hins.out] at fin2
      refine ⟨rfl, ?_⟩
      rw [hm.out]
      first
        | exact fin2
        | (rw [if_neg hv0.out]; exact fin2)
end
end Go.Proofs.Ytoelgnjnbelokaa
