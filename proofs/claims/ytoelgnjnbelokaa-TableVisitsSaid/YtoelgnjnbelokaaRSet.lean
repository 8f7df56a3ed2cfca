/-
  Set of the reference's table.
-/
import Derived.Test.YtoelgnjnbelokaaRPurge
namespace Go.Proofs.Ytoelgnjnbelokaa
open Go.RowKit Go.Maps

set_option maxRecDepth 100000 in
set_option maxHeartbeats 4000000 in
theorem r_set_bad (w : World) (c : Nat) (k v : V) {x : Int} (hx : (k.k = 0 ∨ vok k = false) ∧ x = 13 ∨ ¬ (k.k = 0 ∨ vok k = false) ∧ vok v = false ∧ x = 2) :
    Calls Try.prog 44 #[.pointer (some ⟨c, 0, none⟩), (.agg #[.int .i64 k.k, .int .i64 k.p, .int .i64 k.q, .string k.s, .int .i64 k.r]), (.agg #[.int .i64 v.k, .int .i64 v.p, .int .i64 v.q, .string v.s, .int .i64 v.r])] w fun e w' => e = .returned (.int .i64 x) ∧ Chg (fun _ => False) w w' := by
  have hb0 := hid ((Bk.new w 26 k.cs).alloc (.cells v.cs.toArray 26))
  have hc0 := hid (Bk.new_at (w.alloc (.cells k.cs.toArray 26)) 26 v.cs.toArray (w.heap.size + 1) (by simp))
  have hC0 := hid (((Chg.refl (fun _ => False) w).alloc (.cells k.cs.toArray 26)).alloc (.cells v.cs.toArray 26))
  rcases hx with ⟨h, rfl⟩ | ⟨h, hv, rfl⟩
  · by_cases hk0 : k.k = 0
    · have e0 : (k.k == 0) = true := by simpa using hk0
      clear h hk0
      go_enter Try.func44, Try.ntmps44
      go_wp2
      go_ret
      exact ⟨rfl, hC0.out⟩
    · have e0 : (k.k == 0) = false := by simpa using hk0
      have hk := hid (h.resolve_left hk0)
      clear h hk0
      go_enter Try.func44, Try.ntmps44
      go_wp2_with fail
      refine (doc_valid_eq hk.out).mono ?_
      rintro e w1 ⟨rfl, hc1⟩
      have fin := hid (hC0.out.trans_same hc1)
      clear hc1
      go_wp2
      go_ret
      exact ⟨rfl, fin.out⟩
  · have e0 : (k.k == 0) = false := by simpa using fun e => h (.inl e)
    have hk : Hid (vok k = true) := hid (by cases e : vok k with | true => rfl | false => exact absurd (.inr e) h)
    have hvh := hid hv
    clear h hv
    go_enter Try.func44, Try.ntmps44
    go_wp2_with fail
    refine (doc_valid_eq hk.out).mono ?_
    rintro e w1 ⟨rfl, hc1⟩
    have hV1 := hid (hc0.out.none_ hc1)
    obtain ⟨z0, z1, z2, z3, z4⟩ := V.box hV1.out
    have hlz := hV1.out.lt
    have hC1 := hid (hC0.out.trans_same hc1)
    clear hc1
    go_wp2_with fail
    refine (doc_valid_eq hvh.out).mono ?_
    rintro e w2 ⟨rfl, hc2⟩
    have fin := hid (hC1.out.trans_same hc2)
    clear hc2
    go_wp2
    go_ret
    exact ⟨rfl, fin.out⟩

theorem shrink_full {a : List V} (h : a.length = 0 ∨ (vAt a (a.length - 1)).k ≠ 0) : shrinkA a = a := by
  unfold shrinkA
  have e : shrinkN a a.length = a.length := by
    rcases h with h | h
    · rw [h]; rfl
    · cases hn : a.length with
      | zero => rfl
      | succ n =>
        unfold shrinkN
        rw [hn, Nat.add_sub_cancel] at h
        rw [if_neg h]
  rw [e, List.take_length]
theorem shrinkN_step {a : List V} {p : Nat} (h : (vAt a p).k = 0) : shrinkN a (p + 1) = shrinkN a p := by
  conv => lhs; unfold shrinkN
  rw [if_pos h]
theorem shrinkN_stop {a : List V} {p : Nat} (h : ¬ (vAt a p).k = 0) : shrinkN a (p + 1) = p + 1 := by
  unfold shrinkN
  rw [if_neg h]
section
variable {w w' : World} {S : Nat → Prop} {N r c : Nat} {a : List V} {m : List Sl}
/-- The map after a Set, in the table. -/
theorem RefM.mapset {av vs : Value} (h : RefM w r av c vs a m) (hn : m.length ≤ 999) {k v : V} {e1 : Int} {m1 : List Sl} (hp : setM m k v = (e1, m1)) (hlo : ∀ k, refF r av c vs k → S k ∨ N ≤ k) (hN : N ≤ w.heap.size) :
    Calls Try.prog 52 #[.pointer (some ⟨c, 0, none⟩), (.agg #[.int .i64 k.k, .int .i64 k.p, .int .i64 k.q, .string k.s, .int .i64 k.r]), (.agg #[.int .i64 v.k, .int .i64 v.p, .int .i64 v.q, .string v.s, .int .i64 v.r])] w fun e w' => e = .returned (.int .i64 e1) ∧ RTab w' S N r a m1 ∧ Chg (fun k => S k ∨ N ≤ k) w w' := by
  obtain ⟨s1, s2, s3⟩ := h.sep
  refine (doc_setM h.mp hn hp).mono ?_
  rintro e w1 ⟨rfl, vs', h3, h4, h5⟩
  refine ⟨rfl, ⟨av, c, vs', ⟨h.blk.chg h4 s1, h.arr.chg h4 s3, h3⟩, fun k hk => ?_⟩, h4.mono fun k _ e => hlo k (.inr (.inr e))⟩
  rcases hk with e | e | e
  · exact hlo k (.inl e)
  · exact hlo k (.inr (.inl e))
  · exact (h5 k e).elim (fun e => hlo k (.inr (.inr e))) fun e => .inr (by omega)
set_option maxRecDepth 100000 in
set_option maxHeartbeats 16000000 in
theorem r_set_in (h : RTab w S N r a m) (hb : a.length ≤ 1000000) {i : Nat} (hi : i < a.length) {k v : V} (hk : k = ⟨2, (i : Int) + 1, 1, ⟨#[]⟩, 0⟩) (hv : vok v = true) :
    Calls Try.prog 44 #[.pointer (some ⟨r, 0, none⟩), (.agg #[.int .i64 k.k, .int .i64 k.p, .int .i64 k.q, .string k.s, .int .i64 k.r]), (.agg #[.int .i64 v.k, .int .i64 v.p, .int .i64 v.q, .string v.s, .int .i64 v.r])] w fun e w' => e = .returned (.int .i64 0) ∧ RTab w' S N r (shrinkA (a.set i v)) m ∧ Chg (fun k => S k ∨ N ≤ k) w w' := by
  obtain ⟨A1, hA1⟩ : ∃ A1, Hid (a.set i v = A1) := ⟨_, hid rfl⟩
  rw [hA1.out]
  obtain ⟨q, hq⟩ : ∃ q, Hid (a.length = q) := ⟨_, hid rfl⟩
  have hB := hid ((Bk.new w 26 k.cs).alloc (.cells v.cs.toArray 26))
  have hV := hid (Bk.new_at (w.alloc (.cells k.cs.toArray 26)) 26 v.cs.toArray (w.heap.size + 1) (by simp))
  have hC := hid (((Chg.refl (fun _ => False) w).alloc (.cells k.cs.toArray 26)).alloc (.cells v.cs.toArray 26))
  subst hk
  have hI0 := isI_kI (n := (i : Int) + 1) (by omega) (by omega)
  have hwh : Hid (wholeI ⟨2, (i : Int) + 1, 1, ⟨#[]⟩, 0⟩ = (i : Int) + 1) := hid (wholeI_kI (n := (i : Int) + 1) (by omega) (by omega))
  have hkv : Hid (vok ⟨2, (i : Int) + 1, 1, ⟨#[]⟩, 0⟩ = true) := hid hI0.2
  have hvh := hid hv
  have hT := hid h
  have hbq : q ≤ 1000000 := by rw [← hq.out]; exact hb
  have hiq : i < q := by rw [← hq.out]; exact hi
  have t1 : decide ((1 : Int) ≤ (i : Int) + 1) = true := by simp; omega
  have t2 : decide ((i : Int) + 1 ≤ (q : Int)) = true := by simp; omega
  have hw1 : IntKind.i64.wrap ((i : Int) + 1 - 1) = (i : Int) := by rw [IntKind.wrap_i64]; omega
  have hw2 : IntKind.i64.wrap (i : Int) = (i : Int) := by rw [IntKind.wrap_i64]; omega
  clear h hI0 hv hb hi
  go_enter Try.func44, Try.ntmps44
  go_wp2_with fail
  refine (doc_valid_eq hkv.out).mono ?_
  rintro e w1 ⟨rfl, hc1⟩
  have hB1 := hid (hB.out.none_ hc1)
  have hV1 := hid (hV.out.none_ hc1)
  have hC1 := hid (hC.out.trans_same hc1)
  obtain ⟨z0, z1, z2, z3, z4⟩ := V.box hV1.out
  have hzl := hV1.out.lt
  clear hc1 hB hV hC
  go_wp2_with fail
  refine (doc_valid_eq hvh.out).mono ?_
  rintro e w2 ⟨rfl, hc2⟩
  have hB2 := hid (hB1.out.none_ hc2)
  have hV2 := hid (hV1.out.none_ hc2)
  have hC2 := hid (hC1.out.trans_same hc2)
  clear z0 z1 z2 z3 z4 hzl hc2 hB1 hV1 hC1
  obtain ⟨z0, z1, z2, z3, z4⟩ := V.box hB2.out
  have hzl := hB2.out.lt
  go_wp2_with fail
  refine (whole_any w2 _ hwh.out).mono ?_
  rintro e w3 ⟨rfl, hc3⟩
  have hV3 := hid (hV2.out.none_ hc3)
  have hC3 := hid (hC2.out.trans_same hc3)
  obtain ⟨av, c, vs, hM', hlo'⟩ := hT.out.none_ hC3.out
  obtain ⟨A, cap, rfl, -, -, hVs', h0, hfr⟩ := hM'.arr.form
  rw [hq.out] at hM' h0
  obtain ⟨g, rfl⟩ := h0 (by omega)
  rw [hq.out] at hlo'
  obtain ⟨b, o', e0, -, u0, u1, u2, u3, u4⟩ := Vs.at_ (rs := a) hVs' (i := i) (by rw [hq.out]; exact hiq)
  obtain ⟨rfl, rfl⟩ : g = b ∧ 0 = o' := by injection e0 with e0; injection e0 with e1 e2; exact ⟨e1, e2⟩
  clear e0 hVs'
  rw [Nat.zero_add] at u0 u1 u2 u3 u4
  obtain ⟨hgf, hgl⟩ := hfr g rfl
  have c0 : w3.cell? ⟨r, 0, none⟩ = some (.slice (some ⟨g, 0, none⟩) q cap) := hM'.blk.cell 0
  have hol := hM'.blk.lt
  have hS10 : Hid (w3.drew.cell? ⟨r, 0, none⟩ = some (.slice (some ⟨g, 0, none⟩) q cap) ∧ Bk w3.drew (w.heap.size + 1) 26 v.cs) := hid ⟨c0, hV3.out.drew⟩
  have hP := RefM.put hM' (i := i) (by rw [hq.out]; exact hiq) v
  have hT8' : Hid (RTab ((((((w3.setCell ⟨g, i * 5, none⟩ (.int .i64 v.k)).setCell ⟨g, i * 5 + 1, none⟩ (.int .i64 v.p)).setCell ⟨g, i * 5 + 2, none⟩ (.int .i64 v.q)).setCell ⟨g, i * 5 + 3, none⟩ (.string v.s)).setCell ⟨g, i * 5 + 4, none⟩ (.int .i64 v.r)).drew) S N r (a.set i v) m ∧ Chg (fun k => S k ∨ N ≤ k) w ((((((w3.setCell ⟨g, i * 5, none⟩ (.int .i64 v.k)).setCell ⟨g, i * 5 + 1, none⟩ (.int .i64 v.p)).setCell ⟨g, i * 5 + 2, none⟩ (.int .i64 v.q)).setCell ⟨g, i * 5 + 3, none⟩ (.string v.s)).setCell ⟨g, i * 5 + 4, none⟩ (.int .i64 v.r)).drew)) :=
    hid ⟨⟨_, c, vs, hP.1.none_ ((Chg.refl _ _).drew), hlo'⟩, ((hC3.out.mono (T := fun k => S k ∨ N ≤ k) fun _ _ e => e.elim).trans (hP.2.mono (T := fun k => S k ∨ N ≤ k) fun k _ e => hlo' k (.inr (.inl (by rw [e]; rfl)))) fun _ _ e => e).drew⟩
  clear hP hM' hlo' h0 hfr z0 z1 z2 z3 z4 hzl hc3 hB2 hV2 hC2 hT
  go_wp2_with fail
  refine wp_region_rc (id := 9) [.rd [0, 1, 2, 3, 4, 5, 6, 7]] [8] [] (fun w' => w'.cell? ⟨r, 0, none⟩ = some (.slice (some ⟨g, 0, none⟩) q cap) ∧ Bk w' (w.heap.size + 1) 26 v.cs) (by kernel_rfl) 126 rfl (by kernel_rfl) (fun _ _ _ _ _ h => h) hS10.out ?_
  refine steps_rdW ?_
  apply Exists.intro
  refine ⟨?_, ?_⟩
  focus
    rintro w' ⟨c0, hSb⟩
    obtain ⟨y0, y1, y2, y3, y4⟩ := V.box hSb
    clear hSb
    iterate 8 (refine stW_step rfl (fun K hK => ?_); go_simp; refine hK _ ?_; clear hK K)
    exact stW_nil rfl
  refine steps_nil (l := [⟨_, _, _, _, _, _⟩]) rfl (fun K2 hK2 => ?_)
  go_wp2_with fail
  refine hK2 _ _ rfl ?_
  clear hK2 K2
  refine stI_nil ?_
  generalize (((((w3.setCell ⟨g, i * 5, none⟩ (.int .i64 v.k)).setCell ⟨g, i * 5 + 1, none⟩ (.int .i64 v.p)).setCell ⟨g, i * 5 + 2, none⟩ (.int .i64 v.q)).setCell ⟨g, i * 5 + 3, none⟩ (.string v.s)).setCell ⟨g, i * 5 + 4, none⟩ (.int .i64 v.r)).drew = w8 at hT8' ⊢
  clear u0 u1 u2 u3 u4 c0 hol hgf hgl hS10 hV3 hC3
  have hl8' : Hid ((a.set i v).length = q) := hid (by rw [List.length_set]; exact hq.out)
  rw [hA1.out] at hT8' hl8'
  have hl8 := hl8'
  have hst0 : Hid (RTab w8 S N r (A1.take q) m ∧ Chg (fun k => S k ∨ N ≤ k) w w8) := hid (by rw [← hl8.out, List.take_length]; exact hT8'.out)
  have hlo : Hid (A1.length = q) := hl8
  clear hT8' hl8' hwh hkv hvh t1 t2 hw1 hw2 hiq
  go_wp2_with fail
  go_loopg [] q (fun gk wr => ∃ n, n ≤ gk ∧ n ≤ q ∧ Hid (RTab wr S N r (A1.take n) m ∧ Chg (fun k => S k ∨ N ≤ k) w wr) ∧ Hid (shrinkN A1 q = shrinkN A1 n))
  case atStart => exact ⟨q, Nat.le_refl _, Nat.le_refl _, hst0, hid rfl⟩
  case round =>
    obtain ⟨n, hng, hnq, hst, hsh⟩ := hrel
    rename World => wr
    clear hst0
    refine (Nat.eq_zero_or_pos n).elim ?n0 ?ns
    case' n0 =>
      intro hn0
      subst hn0
      have fin : Hid (RTab wr.drew S N r (shrinkA A1) m ∧ Chg (fun k => S k ∨ N ≤ k) w wr.drew) := hid (by
        have e : shrinkA A1 = A1.take 0 := by unfold shrinkA; rw [hl8.out, hsh.out]; rfl
        rw [e]
        exact ⟨hst.out.1.none_ ((Chg.refl _ _).drew), hst.out.2.drew⟩)
      obtain ⟨A, cap, c, c0, -⟩ := hst.out.1.cells (q := 0) (by simp)
      have hS10 : Hid (wr.drew.cell? ⟨r, 0, none⟩ = some (.slice A 0 cap)) := hid c0
      have hol := hst.out.1.lt
      clear hst c0
      go_wp2_with fail
      refine wp_region_rc (id := 10) [.rd [0, 1, 2, 3, 4, 5, 6, 7, 8, 9, 10, 11, 12, 13, 14, 15, 16, 17, 18, 19, 20, 21]] [] [] (fun w' => w'.cell? ⟨r, 0, none⟩ = some (.slice A 0 cap)) (by kernel_rfl) 126 rfl (by kernel_rfl) (fun _ _ _ _ _ h => h) hS10.out ?_
      refine steps_rdW ?_
      apply Exists.intro
      refine ⟨?_, ?_⟩
      focus
        intro w' c0
        iterate 22 (refine stW_step rfl (fun K hK => ?_); go_simp; refine hK _ ?_; clear hK K)
        exact stW_nil rfl
      refine steps_end rfl ?_
      go_wp2_with fail
      go_ret
      exact ⟨rfl, fin.out⟩
    case' ns =>
      intro hnp
      obtain ⟨p, hp⟩ : ∃ p, Hid (p + 1 = n) := ⟨n - 1, hid (by omega)⟩
      have hpn : p < n := by have := hp.out; omega
      have hwn : IntKind.i64.wrap ((n : Int) - 1) = (p : Int) := by rw [IntKind.wrap_i64]; have := hp.out; omega
      have hwp : IntKind.i64.wrap (p : Int) = (p : Int) := by rw [IntKind.wrap_i64]; omega
      have t0 : decide ((0 : Int) < (n : Int)) = true := decide_eq_true (by omega)
      have hln : Hid ((A1.take n).length = n) := hid (by rw [List.length_take, hl8.out]; omega)
      obtain ⟨av, c, vs, hM', hlo'⟩ := hst.out.1
      obtain ⟨A, cap, rfl, hqc, -, hVs', h0, hfr⟩ := hM'.arr.form
      rw [hln.out] at hM' h0 hqc
      obtain ⟨g, rfl⟩ := h0 (by omega)
      rw [hln.out] at hlo'
      obtain ⟨b, o', e0, -, u0, -⟩ := Vs.at_ (rs := A1.take n) hVs' (i := p) (by rw [hln.out]; exact hpn)
      obtain ⟨rfl, rfl⟩ : g = b ∧ 0 = o' := by injection e0 with e0; injection e0 with e1 e2; exact ⟨e1, e2⟩
      rw [Nat.zero_add, vAt_take hpn] at u0
      obtain ⟨z, hz⟩ : ∃ z, Hid ((vAt A1 p).k = z) := ⟨_, hid rfl⟩
      rw [hz.out] at u0
      have hgl := (hfr g rfl).2
      have c0 : wr.cell? ⟨r, 0, none⟩ = some (.slice (some ⟨g, 0, none⟩) n cap) := hM'.blk.cell 0
      have hS10 : Hid (wr.drew.cell? ⟨r, 0, none⟩ = some (.slice (some ⟨g, 0, none⟩) n cap) ∧ wr.drew.cell? ⟨g, p * 5, none⟩ = some (.int .i64 z)) := hid ⟨c0, u0⟩
      have hMd := hid (hM'.none_ ((Chg.refl (fun _ => False) wr).drew))
      have hlod := hid hlo'
      have hCd := hid hst.out.2.drew
      have hpc : p ≤ cap := by omega
      obtain ⟨bz, hbz⟩ : ∃ b, (z == 0) = b := ⟨_, rfl⟩
      have hbzh := hid hbz
      clear hM' hlo' h0 hfr e0 hVs' hst c0 u0
      cases bz
      all_goals
        go_wp2_with fail
        refine wp_region_rc (id := 10) [.rd [0, 1, 2, 3, 4, 5, 6, 7, 8, 9, 10, 11, 12, 13, 14, 15, 16, 17, 18, 19, 20, 21]] [] [] (fun w' => w'.cell? ⟨r, 0, none⟩ = some (.slice (some ⟨g, 0, none⟩) n cap) ∧ w'.cell? ⟨g, p * 5, none⟩ = some (.int .i64 z)) (by kernel_rfl) 126 rfl (by kernel_rfl) (fun _ _ _ _ _ h => h) hS10.out ?_
        refine steps_rdW ?_
        apply Exists.intro
        refine ⟨?_, ?_⟩
        focus
          rintro w' ⟨c0, u0⟩
          iterate 22 (refine stW_step rfl (fun K hK => ?_); go_simp; refine hK _ ?_; clear hK K)
          exact stW_nil rfl
        refine steps_end rfl ?_
        clear hS10 hbz
        generalize wr.drew = wd at hMd hCd ⊢
      · have fin : Hid (RTab wd S N r (shrinkA A1) m ∧ Chg (fun k => S k ∨ N ≤ k) w wd) := hid (by
          have e : shrinkA A1 = A1.take n := by
            unfold shrinkA
            rw [hl8.out, hsh.out, ← hp.out, shrinkN_stop (by rw [hz.out]; simpa using hbzh.out)]
          rw [e]
          exact ⟨⟨_, c, vs, hMd.out, hlod.out⟩, hCd.out⟩)
        clear hMd hCd
        go_wp2_with fail
        go_ret
        exact ⟨rfl, fin.out⟩
      · have hcut := hMd.out.cut (j := p) (by rw [hln.out]; omega) (by simp)
        have htt : (A1.take n).take p = A1.take p := by rw [List.take_take, Nat.min_eq_left (by omega)]
        rw [htt] at hcut
        have fin : Hid (RTab (wd.setCell ⟨r, 0, none⟩ (.slice (some ⟨g, 0, none⟩) p cap)).drew S N r (A1.take p) m ∧ Chg (fun k => S k ∨ N ≤ k) w (wd.setCell ⟨r, 0, none⟩ (.slice (some ⟨g, 0, none⟩) p cap)).drew) := hid
          ⟨⟨_, c, vs, hcut.1.none_ ((Chg.refl _ _).drew), fun k hk => hlod.out k hk⟩, (hCd.out.trans_same (hcut.2.mono fun k _ e => hlod.out k (.inl e))).drew⟩
        have hsh2 : Hid (shrinkN A1 q = shrinkN A1 p) := hid (by rw [hsh.out, ← hp.out, shrinkN_step (by rw [hz.out]; simpa using hbzh.out)])
        have c0 : wd.cell? ⟨r, 0, none⟩ = some (.slice (some ⟨g, 0, none⟩) n cap) := hMd.out.blk.cell 0
        have hol := hMd.out.blk.lt
        have hof := hMd.out.blk.frozen 0
        have hS11 : Hid (wd.drew.cell? ⟨r, 0, none⟩ = some (.slice (some ⟨g, 0, none⟩) n cap)) := hid c0
        clear hcut htt hMd hCd
        go_wp2_with fail
        refine wp_region_rc (id := 11) [.rd [0, 1, 2, 3, 4, 5, 6, 7, 8, 9, 10, 11, 12, 13]] [14] [] (fun w' => w'.cell? ⟨r, 0, none⟩ = some (.slice (some ⟨g, 0, none⟩) n cap)) (by kernel_rfl) 126 rfl (by kernel_rfl) (fun _ _ _ _ _ h => h) hS11.out ?_
        refine steps_rdW ?_
        apply Exists.intro
        refine ⟨?_, ?_⟩
        focus
          intro w' c0
          iterate 14 (refine stW_step rfl (fun K hK => ?_); go_simp; refine hK _ ?_; clear hK K)
          exact stW_nil rfl
        refine steps_nil (l := [⟨_, _, _, _, _, _⟩]) rfl (fun K2 hK2 => ?_)
        go_wp2_with fail
        refine hK2 _ _ rfl ?_
        clear hK2 K2
        refine stI_nil ?_
        go_wp2_with fail
        go_roundg p
        case measure => omega
        case rel => exact ⟨p, Nat.le_refl _, by omega, fin, hsh2⟩
set_option maxRecDepth 100000 in
set_option maxHeartbeats 8000000 in
theorem r_set_map (h : RTab w S N r a m) (hN : N ≤ w.heap.size) (hb : a.length ≤ 1000000) (hn : m.length ≤ 999) {k v : V} (hk0 : ¬ (k.k = 0 ∨ vok k = false)) (hv : vok v = true) (hin : inN a.length k = false) (hnx : ¬ (k = kI ((a.length : Int) + 1) ∧ v.k ≠ 0)) {e1 : Int} {m1 : List Sl} (hp : setM m k v = (e1, m1)) :
    Calls Try.prog 44 #[.pointer (some ⟨r, 0, none⟩), (.agg #[.int .i64 k.k, .int .i64 k.p, .int .i64 k.q, .string k.s, .int .i64 k.r]), (.agg #[.int .i64 v.k, .int .i64 v.p, .int .i64 v.q, .string v.s, .int .i64 v.r])] w fun e w' => e = .returned (.int .i64 e1) ∧ RTab w' S N r a m1 ∧ Chg (fun k => S k ∨ N ≤ k) w w' := by
  obtain ⟨q, hq⟩ : ∃ q, Hid (a.length = q) := ⟨_, hid rfl⟩
  have hB := hid ((Bk.new w 26 k.cs).alloc (.cells v.cs.toArray 26))
  have hV := hid (Bk.new_at (w.alloc (.cells k.cs.toArray 26)) 26 v.cs.toArray (w.heap.size + 1) (by simp))
  have hC := hid (((Chg.refl (fun _ => False) w).alloc (.cells k.cs.toArray 26)).alloc (.cells v.cs.toArray 26))
  have hbq : q ≤ 1000000 := by rw [← hq.out]; exact hb
  have hkv : Hid (vok k = true) := hid (by cases e : vok k with | true => rfl | false => exact absurd (.inr e) hk0)
  have e0 : (k.k == 0) = false := by simpa using fun e => hk0 (.inl e)
  have hvh := hid hv
  have hT := hid h
  have hNh := hid hN
  have hnh := hid hn
  have hph := hid hp
  have hw1 : IntKind.i64.wrap ((q : Int) + 1) = (q : Int) + 1 := by rw [IntKind.wrap_i64]; omega
  obtain ⟨p, hwh⟩ : ∃ p, Hid (wholeI k = p) := ⟨_, hid rfl⟩
  have hnot := hid (show ¬ (1 ≤ p ∧ p ≤ (q : Int)) from fun h => by
    have h1 := (inN_whole (q := a.length) (x := k) (by omega)).2 (by rw [hwh.out, hq.out]; exact h)
    rw [hin] at h1
    cases h1)
  have hnx2 := hid (show ¬ (p = (q : Int) + 1 ∧ v.k ≠ 0) from fun h => hnx ⟨by
    have e := hwh.out
    unfold wholeI at e
    by_cases hI : isI k = true
    · rw [if_pos hI] at e
      rw [(isI_eq hI).1, e, h.1, hq.out]
    · rw [if_neg hI] at e
      omega, h.2⟩)
  clear h hv hb hN hn hk0 hin hnx hp
  go_enter Try.func44, Try.ntmps44
  go_wp2_with fail
  refine (doc_valid_eq hkv.out).mono ?_
  rintro e w1 ⟨rfl, hc1⟩
  have hB1 := hid (hB.out.none_ hc1)
  have hV1 := hid (hV.out.none_ hc1)
  have hC1 := hid (hC.out.trans_same hc1)
  obtain ⟨z0, z1, z2, z3, z4⟩ := V.box hV1.out
  have hzl := hV1.out.lt
  clear hc1 hB hV hC
  go_wp2_with fail
  refine (doc_valid_eq hvh.out).mono ?_
  rintro e w2 ⟨rfl, hc2⟩
  have hB2 := hid (hB1.out.none_ hc2)
  have hV2 := hid (hV1.out.none_ hc2)
  have hC2 := hid (hC1.out.trans_same hc2)
  clear z0 z1 z2 z3 z4 hzl hc2 hB1 hV1 hC1
  obtain ⟨z0, z1, z2, z3, z4⟩ := V.box hB2.out
  have hzl := hB2.out.lt
  go_wp2_with fail
  refine (whole_any w2 _ hwh.out).mono ?_
  rintro e w3 ⟨rfl, hc3⟩
  have hB3 := hid (hB2.out.none_ hc3)
  have hV3 := hid (hV2.out.none_ hc3)
  have hC3 := hid (hC2.out.trans_same hc3)
  obtain ⟨av, c, vs, hM', hlo'⟩ := hT.out.none_ hC3.out
  have hN3 := hid (show N ≤ w3.drew.heap.size from Nat.le_trans hNh.out hC3.out.size)
  obtain ⟨A, cap, rfl, -⟩ := hM'.arr.form
  rw [hq.out] at hM' hlo'
  have hM := hid (hM'.none_ ((Chg.refl (fun _ => False) w3).drew))
  have hlo := hid hlo'
  have c0 : w3.cell? ⟨r, 0, none⟩ = some (.slice A q cap) := hM'.blk.cell 0
  have hol := hM'.blk.lt
  have hS8 : Hid (w3.drew.cell? ⟨r, 1, none⟩ = some (.pointer (some ⟨c, 0, none⟩)) ∧ Bk w3.drew w.heap.size 26 k.cs ∧ Bk w3.drew (w.heap.size + 1) 26 v.cs) := hid ⟨hM'.blk.cell 1, hB3.out.drew, hV3.out.drew⟩
  clear z0 z1 z2 z3 z4 hzl hc3 hB2 hV2 hC2 hT hM' hlo'
  obtain ⟨z0, z1, z2, z3, z4⟩ := V.box hV3.out
  have hzl := hV3.out.lt
  refine (Classical.em (1 ≤ p)).elim ?ge1 ?lt1
  case' ge1 =>
    intro h1
    have t1 : decide ((1 : Int) ≤ p) = true := by simpa using h1
    have t2 : decide (p ≤ (q : Int)) = false := by
      have := hnot.out
      simp at this ⊢
      exact this h1
    refine (Classical.em (p = (q : Int) + 1)).elim ?eq1 ?ne1
    case' eq1 =>
      intro h2
      have t3 : (p != (q : Int) + 1) = false := by simpa using h2
      have t4 : (v.k == 0) = true := by
        have := hnx2.out
        simp at this ⊢
        exact this h2
      clear h1 h2
    case' ne1 =>
      intro h2
      have t3 : (p != (q : Int) + 1) = true := by simpa using h2
      clear h1 h2
  case' lt1 =>
    intro h1
    have t1 : decide ((1 : Int) ≤ p) = false := by simp; omega
    have t3 : (p != (q : Int) + 1) = true := by simp; omega
    clear h1
  all_goals
    clear hnot hnx2
    go_wp2_with fail
    refine wp_region_rc (id := 14) [.rd [0, 1, 2, 3, 4, 5]] [6, 7] [] (fun w' => w'.cell? ⟨r, 1, none⟩ = some (.pointer (some ⟨c, 0, none⟩)) ∧ Bk w' w.heap.size 26 k.cs ∧ Bk w' (w.heap.size + 1) 26 v.cs) (by kernel_rfl) 126 rfl (by kernel_rfl) (fun _ _ _ _ _ h => h) hS8.out ?_
    refine steps_rdW ?_
    apply Exists.intro
    refine ⟨?_, ?_⟩
    focus
      rintro w' ⟨c1, hSk, hSv⟩
      obtain ⟨y0, y1, y2, y3, y4⟩ := V.box hSk
      obtain ⟨x0, x1, x2, x3, x4⟩ := V.box hSv
      clear hSk hSv
      iterate 6 (refine stW_step rfl (fun K hK => ?_); go_simp; refine hK _ ?_; clear hK K)
      exact stW_nil rfl
    refine steps_nil (l := [⟨_, _, _, _, _, _⟩, ⟨_, _, _, _, _, _⟩]) rfl (fun K2 hK2 => ?_)
    go_wp2_with fail
    refine (hM.out.mapset hnh.out hph.out hlo.out hN3.out).mono ?_
    rintro e w4 ⟨rfl, hO4, hc4⟩
    have fin := hid (And.intro hO4 ((hC3.out.drew.mono (T := fun k => S k ∨ N ≤ k) fun _ _ e => e.elim).trans_same hc4))
    clear hO4 hc4 z0 z1 z2 z3 z4 hzl c0 hol hS8 hM hlo hB3 hV3 hC3
    go_wp2_with fail
    refine hK2 _ _ rfl ?_
    clear hK2 K2
    refine stI_nil ?_
    go_wp2_with fail
    go_ret
    exact ⟨rfl, fin.out⟩
/-- What stands at the head of the loop. -/
structure RAddSt (w0 wr : World) (S : Nat → Prop) (N r h B : Nat) (m : List Sl) (a : List V) (v : V) (a1 : List V) (v1 : V) : Prop where
  tab : RTab wr S N r a1 m
  box : Bk wr h 26 v1.cs
  way : AddW m a v a1 v1
  len : a1.length ≤ B
  left : v1.k ≠ 0 → a1.length + 1 + cntI m (a1.length + 1) ≤ B
  chg : Chg (fun k => S k ∨ N ≤ k) w0 wr
  size : N ≤ wr.heap.size
set_option maxRecDepth 100000 in
set_option maxHeartbeats 32000000 in
theorem r_set_add (h : RTab w S N r a m) (hN : N ≤ w.heap.size) (hb : a.length + m.length ≤ 900) {k v : V} (hk : k = ⟨2, (a.length : Int) + 1, 1, ⟨#[]⟩, 0⟩) (hv : vok v = true) (hv0 : v.k ≠ 0) :
    Calls Try.prog 44 #[.pointer (some ⟨r, 0, none⟩), (.agg #[.int .i64 k.k, .int .i64 k.p, .int .i64 k.q, .string k.s, .int .i64 k.r]), (.agg #[.int .i64 v.k, .int .i64 v.p, .int .i64 v.q, .string v.s, .int .i64 v.r])] w fun e w' => e = .returned (.int .i64 0) ∧ (∃ a' m', AddR m a v a' m' ∧ RTab w' S N r a' m') ∧ Chg (fun k => S k ∨ N ≤ k) w w' := by
  obtain ⟨i26, hi26, hz26, hs26, hb26⟩ := info_parts Try.info26
  obtain ⟨q, hq⟩ : ∃ q, Hid (a.length = q) := ⟨_, hid rfl⟩
  rw [hq.out] at hk
  have hB := hid ((Bk.new w 26 k.cs).alloc (.cells v.cs.toArray 26))
  have hV := hid (Bk.new_at (w.alloc (.cells k.cs.toArray 26)) 26 v.cs.toArray (w.heap.size + 1) (by simp))
  have hC := hid (((Chg.refl (fun _ => False) w).alloc (.cells k.cs.toArray 26)).alloc (.cells v.cs.toArray 26))
  subst hk
  have hbq : q ≤ 900 := by rw [← hq.out]; omega
  have hI0 := isI_kI (n := (q : Int) + 1) (by omega) (by omega)
  have hwh : Hid (wholeI ⟨2, (q : Int) + 1, 1, ⟨#[]⟩, 0⟩ = (q : Int) + 1) := hid (wholeI_kI (n := (q : Int) + 1) (by omega) (by omega))
  have hkv : Hid (vok ⟨2, (q : Int) + 1, 1, ⟨#[]⟩, 0⟩ = true) := hid hI0.2
  have hvh := hid hv
  have hv0h := hid hv0
  have ev0 : (v.k == 0) = false := by simpa using hv0
  have hNh := hid hN
  obtain ⟨B, hB9'⟩ : ∃ B, Hid (a.length + 1 + m.length = B) := ⟨_, hid rfl⟩
  have hB9 : B ≤ 901 := by rw [← hB9'.out]; omega
  have hbh := hid hb
  have hmh : Hid (m.length ≤ 900) := hid (by omega)
  obtain ⟨S', hS', hfix'⟩ := h.fix
  have hSS : Hid (∀ k, S' k → k < w.heap.size ∧ (S k ∨ N ≤ k)) := hid hS'
  have hfix := hid hfix'
  have t1 : decide ((1 : Int) ≤ (q : Int) + 1) = true := by simp; omega
  have t2 : decide ((q : Int) + 1 ≤ (q : Int)) = false := decide_eq_false (by omega)
  have t3 : ((q : Int) + 1 != (q : Int) + 1) = false := by simp
  have hw1 : IntKind.i64.wrap ((q : Int) + 1) = (q : Int) + 1 := by rw [IntKind.wrap_i64]; omega
  clear h hI0 hv hb hN hv0 hS' hfix'
  go_enter Try.func44, Try.ntmps44
  go_wp2_with fail
  refine (doc_valid_eq hkv.out).mono ?_
  rintro e w1 ⟨rfl, hc1⟩
  have hB1 := hid (hB.out.none_ hc1)
  have hV1 := hid (hV.out.none_ hc1)
  have hC1 := hid (hC.out.trans_same hc1)
  obtain ⟨z0, z1, z2, z3, z4⟩ := V.box hV1.out
  have hzl := hV1.out.lt
  clear hc1 hB hV hC
  go_wp2_with fail
  refine (doc_valid_eq hvh.out).mono ?_
  rintro e w2 ⟨rfl, hc2⟩
  have hB2 := hid (hB1.out.none_ hc2)
  have hV2 := hid (hV1.out.none_ hc2)
  have hC2 := hid (hC1.out.trans_same hc2)
  clear z0 z1 z2 z3 z4 hzl hc2 hB1 hV1 hC1
  obtain ⟨z0, z1, z2, z3, z4⟩ := V.box hB2.out
  have hzl := hB2.out.lt
  go_wp2_with fail
  refine (whole_any w2 _ hwh.out).mono ?_
  rintro e w3 ⟨rfl, hc3⟩
  have hV3 := hid (hV2.out.none_ hc3)
  have hC3 := hid (hC2.out.trans_same hc3)
  obtain ⟨N3, hN3⟩ : ∃ N3, Hid (w3.heap.size = N3) := ⟨_, hid rfl⟩
  obtain ⟨hh, hhh⟩ : ∃ h, Hid (w.heap.size + 1 = h) := ⟨_, hid rfl⟩
  have hhN : hh < N3 := by have := hV3.out.lt; have := hN3.out; have := hhh.out; omega
  have hT3 : Hid (RTab w3 S' N3 r a m) := hid (hfix.out w3 N3 hC3.out)
  have hnS : Hid (¬ S' hh) := hid fun e => by have := (hSS.out _ e).1; have := hhh.out; omega
  have hst0 : Hid (RAddSt w w3 S' N3 r hh B m a v a v) := hid ⟨hT3.out, by rw [← hhh.out]; exact hV3.out, .inl ⟨rfl, rfl⟩, by rw [← hB9'.out]; omega, fun _ => by have := cntI_le m (a.length + 1); rw [← hB9'.out]; omega, hC3.out.mono fun _ _ e => e.elim, by rw [hN3.out]; exact Nat.le_refl _⟩
  have hk0 : Hid (v.k ≠ 0 → 1 + cntI m (a.length + 1) ≤ m.length + 1) := hid fun _ => by have := cntI_le m (a.length + 1); omega
  have hwN3 : Hid (w.heap.size ≤ N3) := hid (by have := hC3.out.size; rw [← hN3.out]; exact this)
  obtain ⟨A, cap, c, c0, -⟩ := hT3.out.cells hq.out
  have hol := hT3.out.lt
  clear z0 z1 z2 z3 z4 hzl hc3 hB2 hV2 hC2 hT3 hfix
  obtain ⟨z0, z1, z2, z3, z4⟩ := V.box hV3.out
  have hzl := hV3.out.lt
  rw [hhh.out] at z0 z1 z2 z3 z4 hzl ⊢
  go_wp2_with fail
  clear z0 z1 z2 z3 z4 hzl c0 hol hV3 hC3 hwh hkv
  go_loopg [] (m.length + 1) (fun gk wr => ∃ a1 v1, Hid (RAddSt w wr S' N3 r hh B m a v a1 v1) ∧ Hid (v1.k ≠ 0 → 1 + cntI m (a1.length + 1) ≤ gk))
  case atStart => exact ⟨a, v, hst0, hk0⟩
  case round =>
    obtain ⟨a1, v1, hst, hgk⟩ := hrel
    rename World => wr
    clear hst0 hk0
    obtain ⟨q1, hq1⟩ : ∃ q, Hid (a1.length = q) := ⟨_, hid rfl⟩
    have hq9 : q1 ≤ 901 := by have := hst.out.len; have := hq1.out; omega
    obtain ⟨x0, x1, x2, x3, x4⟩ := V.box hst.out.box
    have hxl := hst.out.box.lt
    have hol := hst.out.tab.lt
    obtain ⟨bz, hbz⟩ : ∃ b, (v1.k != 0) = b := ⟨_, rfl⟩
    cases bz
    case' true =>
      have hv1 : Hid (v1.k ≠ 0) := hid (by simpa using hbz)
      obtain ⟨av, c, vs, hM', hlo'⟩ := hst.out.tab
      obtain ⟨A, cap, rfl, -, -, -, -, -⟩ := hM'.arr.form
      rw [hq1.out] at hM' hlo'
      have hM := hid hM'
      have hlo := hid hlo'
      obtain ⟨q2, hq2⟩ : ∃ q, Hid (q1 + 1 = q) := ⟨_, hid rfl⟩
      have hq29 : q2 ≤ 902 := by have := hq2.out; omega
      have hS3 : Hid (wr.drew.cell? ⟨r, 0, none⟩ = some (.slice A q1 cap) ∧ Bk wr.drew hh 26 v1.cs) := hid ⟨hM'.blk.cell 0, hst.out.box.drew⟩
      have hS4 : Hid ((wr.alloc (.cells v1.cs.toArray 26)).drew.cell? ⟨r, 0, none⟩ = some (.slice A q1 cap) ∧ Bk (wr.alloc (.cells v1.cs.toArray 26)).drew hh 26 v1.cs) := hid ⟨(hM'.blk.alloc _).drew.cell 0, (hst.out.box.alloc _).drew⟩
      have hl6 : Hid (LRow (wr.alloc (.cells v1.cs.toArray 26)).drew (.slice A q1 cap) a1) := hid (hM'.arr.none_ (((Chg.refl _ wr).alloc _).drew))
      have hr6 : Hid (Rd (wr.alloc (.cells v1.cs.toArray 26)).drew 5 (some ⟨wr.heap.size, 0, none⟩) 1 v1.cs) := hid (Rd.one wr 26 5 v1.cs rfl wr.heap.size rfl).drew
      clear hM' hlo'
      go_wp2_with fail
      refine wp_region_rc (id := 16) [.wl [0], .rd [1, 2, 3, 4, 5], .act 6] [7, 8, 9, 10] [] (fun w' => w'.cell? ⟨r, 0, none⟩ = some (.slice A q1 cap) ∧ Bk w' hh 26 v1.cs) (by kernel_rfl) 126 rfl (by kernel_rfl) (fun _ _ _ _ _ h => h) hS3.out ?_
      refine steps_wlW ?_
      apply Exists.intro
      refine ⟨?_, ?_⟩
      focus
        intro w'
        iterate 1 (refine stW_step rfl (fun K hK => ?_); go_simp; refine hK _ ?_; clear hK K)
        exact stW_nil rfl
      refine steps_rdW ?_
      apply Exists.intro
      refine ⟨?_, ?_⟩
      focus
        rintro w' ⟨c0, hSb⟩
        obtain ⟨y0, y1, y2, y3, y4⟩ := V.box hSb
        clear hSb
        iterate 5 (refine stW_step rfl (fun K hK => ?_); go_simp; refine hK _ ?_; clear hK K)
        exact stW_nil rfl
      refine steps_act (o := ⟨_, _, _, _, _, _⟩) rfl (fun K2 hK2 => ?_)
      go_wp2_with fail
      refine hK2 _ _ hS4.out rfl ?_
      clear hK2 K2 x0 x1 x2 x3 x4 hxl
      refine steps_nil (l := [⟨_, _, _, _, _, _⟩, ⟨_, _, _, _, _, _⟩, ⟨_, _, _, _, _, _⟩, ⟨_, _, _, _, _, _⟩]) rfl (fun K2 hK2 => ?_)
      go_wp2_with ((with_reducible show wpList _ _ _ ((⟨some 108, _, _, _, _, _⟩ : Oper) :: _) _ _); refine wpList_append_ln (o := ⟨some 108, _, _, _, _, _⟩) rfl (.tmp 105) (.tmp 107) 52 rfl i26 _ Try.underlying52 hi26 hz26 hs26 hb26 rfl (.slice A q1 cap) a1 rfl hl6.out wr.heap.size 1 v1 rfl hr6.out (by have := hq1.out; omega) (wr.heap.size + 1) (by simp) q2 (by have := hq1.out; have := hq2.out; omega) ?_; intro A7 c7 w7 hl7 hg7 hat7; have hap := hid (hM.out.appended (((Chg.refl (fun _ => False) wr).alloc (.cells v1.cs.toArray 26)).drew) hl7 hg7 hat7 (Nat.le_succ _)); have hb7 := hid (hM.out.blk.chg ((((Chg.refl (fun k => (Value.slice A q1 cap).ownBlock = some k) wr).alloc (.cells v1.cs.toArray 26)).drew).grown hg7 fun k hk _ => hk) hM.out.sep.2.1); have k0 : w7.cell? ⟨r, 0, none⟩ = some (.slice A q1 cap) := hb7.out.cell 0; have kf := hb7.out.frozen 0; have kl := hb7.out.lt; clear hl7 hg7 hat7)
      refine hK2 _ _ rfl ?_
      clear hK2 K2
      refine stI_nil ?_
      have hT8 : Hid (RTab (w7.setCell ⟨r, 0, none⟩ (.slice A7 q2 c7)) S' N3 r (a1 ++ [v1]) m) := hid ⟨_, c, vs, hap.out.1, fun k hk => (hap.out.2.2 k hk).elim (hlo.out k) fun e => .inr (by have := hst.out.size; omega)⟩
      have hC8 : Hid (Chg (fun k => S' k ∨ N3 ≤ k) wr (w7.setCell ⟨r, 0, none⟩ (.slice A7 q2 c7))) := hid (hap.out.2.1.mono fun k _ e => hlo.out k (e.elim .inl fun e => .inr (.inl e)))
      clear k0 kf kl hap hb7 hl6 hr6 hS3 hS4 hM hlo
      generalize w7.setCell ⟨r, 0, none⟩ (.slice A7 q2 c7) = w8 at hT8 hC8 ⊢
      have hbx9 : Hid (Bk w8 hh 26 v1.cs) := hid (hst.out.box.chg hC8.out fun e => e.elim hnS.out fun e => by omega)
      have hl8 : Hid ((a1 ++ [v1]).length = q2) := hid (by rw [List.length_append, List.length_singleton, hq1.out]; exact hq2.out)
      have hQ8 := hid (hst.out.way.step hv1.out)
      have hcnt8 := hid (hst.out.left hv1.out)
      have hg8 := hid (hgk.out hv1.out)
      have hC9 : Hid (Chg (fun k => S' k ∨ N3 ≤ k) w w8) := hid (hst.out.chg.trans_same hC8.out)
      have hs9 : Hid (N3 ≤ w8.heap.size) := hid (Nat.le_trans hst.out.size hC8.out.size)
      clear hst hgk hC8
      obtain ⟨v2, hv2⟩ : ∃ v2, Hid (getM m (kI ((q2 : Int) + 1)) = v2) := ⟨_, hid rfl⟩
      have hwq : IntKind.i64.wrap ((q2 : Int) + 1) = (q2 : Int) + 1 := by rw [IntKind.wrap_i64]; omega
      obtain ⟨A9, cap9, c9, c0, c1, -, hO9', -⟩ := hT8.out.cells hl8.out
      have hol9 := hT8.out.lt
      have hO9 := hid (hO9'.none_ ((Chg.refl (fun _ => False) w8).drew))
      have hS6 : Hid (w8.drew.cell? ⟨r, 0, none⟩ = some (.slice A9 q2 cap9) ∧ w8.drew.cell? ⟨r, 1, none⟩ = some (.pointer (some ⟨c9, 0, none⟩))) := hid ⟨c0, c1⟩
      clear c0 c1 hO9'
      go_wp2_with fail
      refine wp_region_rc (id := 17) [.rd [0, 1, 2, 3, 4, 5, 6, 7, 8, 9], .act 10] [11, 12] [] (fun w' => w'.cell? ⟨r, 0, none⟩ = some (.slice A9 q2 cap9) ∧ w'.cell? ⟨r, 1, none⟩ = some (.pointer (some ⟨c9, 0, none⟩))) (by kernel_rfl) 126 rfl (by kernel_rfl) (fun _ _ _ _ _ h => h) hS6.out ?_
      refine steps_rdW ?_
      apply Exists.intro
      refine ⟨?_, ?_⟩
      focus
        rintro w' ⟨c0, c1⟩
        iterate 10 (refine stW_step rfl (fun K hK => ?_); go_simp; refine hK _ ?_; clear hK K)
        exact stW_nil rfl
      refine steps_act (o := ⟨_, _, _, _, _, _⟩) rfl (fun K2 hK2 => ?_)
      go_wp2_with fail
      refine (ref_key w8.drew ((q2 : Int) + 1) (by omega) (by omega)).mono ?_
      rintro e w10 ⟨rfl, hc⟩
      have hS7 := hid (show w10.cell? ⟨r, 0, none⟩ = some (.slice A9 q2 cap9) ∧ w10.cell? ⟨r, 1, none⟩ = some (.pointer (some ⟨c9, 0, none⟩)) from ⟨(hc.cell (p := ⟨r, 0, none⟩) hol9 id).trans hS6.out.1, (hc.cell (p := ⟨r, 1, none⟩) hol9 id).trans hS6.out.2⟩)
      have hO10 := hid (hO9.out.none_ hc)
      have hbx10 := hid (hbx9.out.drew.none_ hc)
      have hT10 := hid ((hT8.out.none_ ((Chg.refl (fun _ => False) w8).drew)).none_ hc)
      have hC10 : Hid (Chg (fun k => S' k ∨ N3 ≤ k) w w10) := hid (hC9.out.drew.trans hc fun _ _ e => e.elim)
      have hs10 : Hid (N3 ≤ w10.heap.size) := hid (Nat.le_trans hs9.out hc.size)
      clear hc hS6 hO9 hbx9 hT8 hC9 hs9
      go_wp2_with fail
      refine hK2 _ _ hS7.out rfl ?_
      clear hK2 K2
      refine steps_nil (l := [⟨_, _, _, _, _, _⟩, ⟨_, _, _, _, _, _⟩]) rfl (fun K2 hK2 => ?_)
      go_wp2_with fail
      refine (hO10.out.get (by have := hmh.out; omega) (kI ((q2 : Int) + 1)) hv2.out).mono ?_
      rintro e w11 ⟨rfl, hc⟩
      have hbx11 := hid (hbx10.out.none_ hc)
      have hT11 := hid (hT10.out.none_ hc)
      have hC11 : Hid (Chg (fun k => S' k ∨ N3 ≤ k) w w11) := hid (hC10.out.trans hc fun _ _ e => e.elim)
      have hs11 : Hid (N3 ≤ w11.heap.size) := hid (Nat.le_trans hs10.out hc.size)
      clear hc hS7 hO10 hbx10 hT10 hC10 hs10
      obtain ⟨z0, z1, z2, z3, z4⟩ := V.box hbx11.out
      have zl := hbx11.out.lt
      have zf := fun j => hbx11.out.frozen j
      have hcn : Hid (v2.k ≠ 0 → cntI m (q2 + 1) < cntI m (q1 + 1)) := hid fun h => by
        have h2 := hv2.out
        rw [← hq2.out] at h2 ⊢
        exact cntI_next (by omega) (by rw [h2]; exact h)
      have finh : Hid (RAddSt w (put5 w11 hh 0 v2) S' N3 r hh B m a v (a1 ++ [v1]) v2) := hid
        ⟨hT11.out.chg (T := fun k => k = hh) (put5_chg w11 hh 0 v2) fun k _ hk e => by
          rcases hk with hk | hk
          · exact hnS.out (by rw [← e]; exact hk)
          · omega, put5_bk hbx11.out, .inr ⟨hQ8.out, by rw [hl8.out]; exact hv2.out.symm⟩, by rw [hl8.out]; have := hcnt8.out; have := hq1.out; have := hq2.out; omega, fun h => by
          rw [hl8.out]
          have h1 := hcn.out h
          have h2 := hcnt8.out
          rw [hq1.out] at h2
          have := hq2.out
          omega, hC11.out.trans (put5_chg w11 hh 0 v2) fun j hj e => by have := hhh.out; omega, by have := hs11.out; simpa [put5] using this⟩
      clear hbx11 hT11 hC11 hs11
      go_wp2_with fail
      refine hK2 _ _ rfl ?_
      clear hK2 K2
      refine stI_nil ?_
      go_wp2_with fail
      go_roundg (if v2.k = 0 then 0 else 1 + cntI m (q2 + 1))
      case measure =>
        have h1 := hg8.out
        rw [hq1.out] at h1
        by_cases h0 : v2.k = 0
        · rw [if_pos h0]; omega
        · rw [if_neg h0]
          have := hcn.out h0
          omega
      case rel =>
        refine ⟨a1 ++ [v1], v2, finh, hid fun h => ?_⟩
        rw [hl8.out, if_neg h]
        exact Nat.le_refl _
    case' false =>
      have hv0 : Hid (v1.k = 0) := hid (by simpa using hbz)
      have hadd : Hid (AddP m a v a1) := hid (by
        rcases hst.out.way with ⟨rfl, rfl⟩ | ⟨h1, h2⟩
        · exact absurd hv0.out hv0h.out
        · exact ⟨h1.len, h1.pre, h1.mov, by rw [← h2]; exact hv0.out⟩)
      have hT1 := hid hst.out.tab
      have hC1 := hid hst.out.chg
      have hs1 := hid hst.out.size
      have hlen : a.length + 1 ≤ a1.length := hadd.out.len
      obtain ⟨lo, hlo⟩ : ∃ lo : Nat, Hid (q + 1 = lo) := ⟨_, hid rfl⟩
      have hloi : (q : Int) + 1 = (lo : Int) := by rw [← hlo.out]; simp
      clear hst hgk
      go_wp2_with fail
      rw [hloi]
      refine (r_purge hT1.out hs1.out (by have := hlo.out; omega) (by have := hlo.out; have := hq.out; omega) (by have := hq1.out; omega) hmh.out).mono ?_
      rintro e w9 ⟨rfl, ⟨m', hm', hT9⟩, hc9⟩
      have fin : Hid ((∃ a' m', AddR m a v a' m' ∧ RTab w9 S N r a' m') ∧ Chg (fun k => S k ∨ N ≤ k) w w9) := hid ⟨⟨a1, m', ⟨hadd.out, hm'.imp (fun h => ⟨h.1, fun i h1 h2 => h.2 i (by have := hlo.out; have := hq.out; omega) h2⟩) id⟩, hT9.weaken (fun k e => (hSS.out k e).2) (by have := hNh.out; have := hwN3.out; omega)⟩, (hC1.out.trans_same hc9).mono fun k _ e => e.elim (fun e => (hSS.out k e).2) fun e => .inr (by have := hNh.out; have := hwN3.out; omega)⟩
      clear hm' hT9 hc9 hT1 hC1 hs1 x0 x1 x2 x3 x4 hxl hol
      go_wp2_with fail
      go_ret
      exact ⟨rfl, fin.out.1, fin.out.2⟩
theorem r_set (h : RTab w S N r a m) (hN : N ≤ w.heap.size) (I : TInv a m) (hb : a.length + m.length ≤ 900) (k v : V) :
    Calls Try.prog 44 #[.pointer (some ⟨r, 0, none⟩), (.agg #[.int .i64 k.k, .int .i64 k.p, .int .i64 k.q, .string k.s, .int .i64 k.r]), (.agg #[.int .i64 v.k, .int .i64 v.p, .int .i64 v.q, .string v.s, .int .i64 v.r])] w fun e w' => ∃ x a' m', e = .returned (.int .i64 x) ∧ SetR a m k v x a' m' ∧ RTab w' S N r a' m' ∧ Chg (fun k => S k ∨ N ≤ k) w w' := by
  by_cases hk0 : k.k = 0 ∨ vok k = false
  · refine (r_set_bad w r k v (.inl ⟨hk0, rfl⟩)).mono ?_
    rintro e w1 ⟨rfl, hc⟩
    exact ⟨13, a, m, rfl, .badKey hk0, h.none_ hc, hc.mono fun _ _ e => e.elim⟩
  · by_cases hv : vok v = true
    · cases hin : inN a.length k with
      | true =>
        obtain ⟨i', h1, h2, h3, -⟩ := inN_get hin
        obtain ⟨i, rfl⟩ : ∃ i, i' = i + 1 := ⟨i' - 1, by omega⟩
        refine (r_set_in h (by omega) (i := i) (by omega) (k := k) (v := v) (by rw [h3]; unfold kI; simp) hv).mono ?_
        rintro e w1 ⟨rfl, hT, hc⟩
        refine ⟨0, _, m, rfl, .here i (by omega) (by rw [h3]; simp) hv, ?_, hc⟩
        by_cases hl : i + 1 = a.length
        · rw [if_pos hl]; exact hT
        · rw [if_neg hl]
          have e : shrinkA (a.set i v) = a.set i v := shrink_full (by
            rw [List.length_set]
            rcases I.last with h0 | h0
            · exact .inl h0
            · right
              rw [vAt_set_ne (by omega)]
              exact h0)
          rw [e] at hT
          exact hT
      | false =>
        by_cases hnx : k = kI ((a.length : Int) + 1) ∧ v.k ≠ 0
        · refine (r_set_add h hN hb (k := k) (v := v) (by rw [hnx.1]; rfl) hv hnx.2).mono ?_
          rintro e w1 ⟨rfl, ⟨a', m', hA, hT⟩, hc⟩
          exact ⟨0, a', m', rfl, .add hnx.1 hv hnx.2 hA, hT, hc⟩
        · obtain ⟨e1, m1, hp⟩ : ∃ e1 m1, setM m k v = (e1, m1) := ⟨_, _, rfl⟩
          refine (r_set_map h hN (by omega) (by omega) hk0 hv hin hnx hp).mono ?_
          rintro e w1 ⟨rfl, hT, hc⟩
          exact ⟨e1, a, m1, rfl, .map hk0 hv hin hnx hp, hT, hc⟩
    · have hv' : vok v = false := by simpa using hv
      refine (r_set_bad w r k v (.inr ⟨hk0, hv', rfl⟩)).mono ?_
      rintro e w1 ⟨rfl, hc⟩
      exact ⟨2, a, m, rfl, .badVal hk0 hv', h.none_ hc, hc.mono fun _ _ e => e.elim⟩
end
end Go.Proofs.Ytoelgnjnbelokaa
