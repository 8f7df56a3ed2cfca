/-
  Insert of a table among its values. Printed by tools/gen_tins.py.
-/
import Derived.Test.YtoelgnjnbelokaaWTIns
namespace Go.Proofs.Ytoelgnjnbelokaa
open Go.RowKit Go.Maps

/-- A part of a row. -/
theorem Vs.part {w : World} {g i k : Nat} {rs : List V} (h : Vs w (some ⟨g, 0, none⟩) rs) (hk : i + k ≤ rs.length) : Rd w 5 (some ⟨g, i * 5, none⟩) k (((rs.drop i).take k).flatMap V.cs) := by
  refine ⟨by rw [flat_len V.cs 5 V.cs_len, List.length_take, List.length_drop]; omega, fun h0 => ?_⟩
  obtain ⟨b, o', e, hb, hc⟩ := h.2 (by omega)
  injection e with e
  injection e with e1 e2
  subst e1; subst e2
  refine ⟨g, i * 5, rfl, hb, fun j hj => ?_⟩
  have h1 := hc (i * 5 + j) (by omega)
  rw [Nat.zero_add] at h1
  rw [h1, ← flat_takeV, List.getElem?_take_of_lt hj, ← flat_dropV, List.getElem?_drop]
theorem ins_zero {a : List V} {i n : Nat} (hn : n = 0) (hi : a.length ≤ i + 1) : a.take 0 ++ ((a.drop i).take n ++ a.drop (0 + n)) = a.take (i + 1) ++ ((a.drop i).take n ++ a.drop (i + 1 + n)) := by
  subst hn
  simp [List.take_of_length_le hi, List.drop_of_length_le hi]
theorem ins_eq {a : List V} {i n : Nat} (hi : i < a.length) (hn : i + 1 + n = a.length) (v : V) : (a.take (i + 1) ++ ((a.drop i).take n ++ a.drop (i + 1 + n))).set i v = a.take i ++ (v :: (a.drop i).take n) := by
  have hl : (a.take i).length = i := by rw [List.length_take]; omega
  rw [hn, List.drop_length, List.append_nil, List.take_succ_eq_append_getElem hi, List.append_assoc, List.set_append_right _ _ (by omega), hl, Nat.sub_self]
  rfl
section
variable {w w' : World} {S : Nat → Prop} {N o M : Nat} {a : List V} {m : List Sl}
set_option maxRecDepth 100000 in
set_option maxHeartbeats 16000000 in
theorem t_insert_mid (h : Tab w S N o M a m) (hN : N ≤ w.heap.size) (hb : a.length + m.length ≤ 900) (hm3 : m.length ≤ 300) {i : Nat} (hi : i < a.length) {v : V} (hv : vok v = true) (hlast : (vAt a (a.length - 1)).k ≠ 0) :
    Calls Try.prog 15 #[.pointer (some ⟨o, 0, none⟩), .int .i64 ((i : Int) + 1), (.agg #[.int .i64 v.k, .int .i64 v.p, .int .i64 v.q, .string v.s, .int .i64 v.r])] w fun e w' => e = .returned (.int .i64 0) ∧ (∃ a' m', AddR m (a.take i ++ (v :: (a.drop i).take (a.length - (i + 1)))) (vAt a (a.length - 1)) a' m' ∧ Tab w' S N o (M + 400000) a' m') ∧ Chg (fun k => S k ∨ N ≤ k) w w' := by
  obtain ⟨q, hq⟩ : ∃ q, Hid (a.length = q) := ⟨_, hid rfl⟩
  obtain ⟨p, hp⟩ : ∃ p, Hid (q = p + 1) := ⟨q - 1, hid (by have := hq.out; omega)⟩
  obtain ⟨i26, hi26, hz26, hs26, hb26⟩ := info_parts Try.info26
  have hre0 := ins_eq (n := p - i) hi (by have := hp.out; rw [hq.out]; rw [hq.out] at hi; omega) v
  obtain ⟨r8, hr8⟩ : ∃ r8, Hid (r8 = a.take i ++ (v :: (a.drop i).take (p - i))) := ⟨_, hid rfl⟩
  rw [show a.length - (i + 1) = p - i by have := hp.out; rw [hq.out]; omega, ← hr8.out, show a.length - 1 = p by have := hp.out; rw [hq.out]; omega]
  rw [show a.length - 1 = p by have := hp.out; rw [hq.out]; omega] at hlast
  rw [← hr8.out] at hre0
  have hre := hid hre0
  obtain ⟨x, hx⟩ : ∃ x, Hid (vAt a p = x) := ⟨_, hid rfl⟩
  rw [hx.out] at hlast ⊢
  have hx0 := hid hlast
  have hbb : Hid ((a.take i ++ (v :: (a.drop i).take (p - i))).length + m.length ≤ 900) := hid (by
    have := hp.out; have := hq.out
    simp only [List.length_append, List.length_take, List.length_drop, List.length_cons]
    omega)
  obtain ⟨av, c, vs, bm, n, D, hM', hlo', hn'⟩ := h
  obtain ⟨A, cap, rfl, hqc, -, -, h0, -⟩ := hM'.arr.form
  rw [hq.out] at hM' h0 hqc hlo' hb hi
  obtain ⟨g, rfl⟩ := h0 (by omega)
  have hM0 := hid hM'
  have hgS := hid (hM'.lt (.inr (.inl rfl)) : g < w.heap.size)
  have hiq := hid hi
  have hlo := hid hlo'
  have hnM := hid hn'
  have hNh := hid hN
  have hvh := hid hv
  have hm3h := hid hm3
  have c0 : w.cell? ⟨o, 0, none⟩ = some (.slice (some ⟨g, 0, none⟩) q cap) := hM'.blk.cell 0
  have hol := hM'.blk.lt
  have hC := hid ((Chg.refl (fun _ => False) w).alloc (.cells v.cs.toArray 26))
  have hV := hid (Bk.new w 26 v.cs)
  have hbq : q ≤ 900 := by omega
  have t1 : decide ((i : Int) + 1 < 1) = false := decide_eq_false (by omega)
  have t2 : decide ((q : Int) + 1 < (i : Int) + 1) = false := decide_eq_false (by omega)
  have t3 : ((i : Int) + 1 == (q : Int) + 1) = false := by simp; omega
  have hw0 : IntKind.i64.wrap ((q : Int) + 1) = (q : Int) + 1 := by rw [IntKind.wrap_i64]; omega
  have hw1 : IntKind.i64.wrap ((i : Int) + 1 - 1) = (i : Int) := by rw [IntKind.wrap_i64]; omega
  have hw2 : IntKind.i64.wrap (i : Int) = (i : Int) := by rw [IntKind.wrap_i64]; omega
  have hw3 : IntKind.i64.wrap ((q : Int) - 1) = (p : Int) := by rw [IntKind.wrap_i64]; have := hp.out; omega
  have hw4 : IntKind.i64.wrap (p : Int) = (p : Int) := by rw [IntKind.wrap_i64]; have := hp.out; omega
  have hpq : p < q := by have := hp.out; omega
  have hpq2 : (p : Int) < (q : Int) := by omega
  have hi2 : (i : Int) < (q : Int) := by omega
  have hi4 : (i : Int) + 1 ≤ (q : Int) := by omega
  have hi5 : ¬ cap = i := by omega
  have hi6 : (0 : Int) ≤ (i : Int) + 1 := by omega
  have hi8 : (i : Int) ≤ (p : Int) := by have := hp.out; omega
  have hp8 : (p : Int) ≤ (cap : Int) := by omega
  clear hM' h0 hlo' hn' hN hv hm3 hlast hre0 hb
  by_cases hcap : cap = i + 1
  · have hi7 : (cap = i + 1) = True := eq_true hcap
    have hr0 := hid (ins_zero (a := a) (i := i) (n := p - i) (by have := hp.out; omega) (by have := hp.out; rw [hq.out]; omega))
    clear hcap
    go_enter Try.func15, Try.ntmps15
    go_wp2_with fail
    refine (val_valid_eq2 hvh.out).mono ?_
    rintro e w1 ⟨rfl, hc1⟩
    have hC1 := hid (hC.out.trans_same hc1)
    have hV1 := hid (hV.out.none_ hc1)
    have hM1 := hid (hM0.out.none_ hC1.out)
    obtain ⟨Aq, capq, e7, -, -, hVs', -, hfr⟩ := hM1.out.arr.form
    rw [hq.out] at e7
    obtain ⟨e7a, e7b⟩ : some ⟨g, 0, none⟩ = Aq ∧ cap = capq := by injection e7 with e1 e2 e3; exact ⟨e1, e3⟩
    subst e7a; subst e7b
    obtain ⟨hgf, hgl⟩ := hfr g rfl
    obtain ⟨b, o', e0, -, u0, u1, u2, u3, u4⟩ := Vs.at_ (rs := a) hVs' (i := p) (by rw [hq.out]; exact hpq)
    obtain ⟨rfl, rfl⟩ : g = b ∧ 0 = o' := by injection e0 with e0; injection e0 with e1 e2; exact ⟨e1, e2⟩
    rw [Nat.zero_add] at u0 u1 u2 u3 u4
    rw [hx.out] at u0 u1 u2 u3 u4
    have k0 : w1.cell? ⟨o, 0, none⟩ = some (.slice (some ⟨g, 0, none⟩) q cap) := hM1.out.blk.cell 0
    have kol := hM1.out.blk.lt
    have hN1 := hid (Nat.le_trans hNh.out hC1.out.size)
    have hS7 : Hid ((w1.alloc (.cells x.cs.toArray 26)).drew.cell? ⟨o, 0, none⟩ = some (.slice (some ⟨g, 0, none⟩) q cap)) := hid ((hM1.out.blk.alloc _).drew.cell 0)
    have hC7 := hid ((Chg.refl (fun _ => False) w1).alloc (.cells x.cs.toArray 26)).drew
    have hM := hid (hM1.out.none_ hC7.out)
    have hVs := hid (Rd.none_ hVs' hC7.out)
    have hB7 := hid (show Bk (w1.alloc (.cells x.cs.toArray 26)).drew w.heap.size 26 v.cs ∧ Bk (w1.alloc (.cells x.cs.toArray 26)).drew w1.heap.size 26 x.cs from ⟨(hV1.out.alloc _).drew, (Bk.new w1 26 x.cs).drew⟩)
    have hC17 := hid (hC1.out.trans_same hC7.out)
    have hRs := hid (Vs.part hVs.out (i := i) (k := p - i) (by rw [hq.out]; have := hp.out; omega))
    have hgw : Hid (g < w.heap.size ∧ g < w1.heap.size) := hid ⟨hgS.out, hgl⟩
    clear e0 e7 hVs' hfr hc1 hC hV hM0 hM1 hV1
    clear c0 hol
    go_wp2_with fail
    refine wp_region_rc (id := 11) [.rd [0, 1, 2, 3, 4, 5, 6, 7, 8, 9, 10, 11, 12, 13, 14]] [15] [] (fun w' => w'.cell? ⟨o, 0, none⟩ = some (.slice (some ⟨g, 0, none⟩) q cap)) (by kernel_rfl) 71 rfl (by kernel_rfl) (fun _ _ _ _ _ h => h) hS7.out ?_
    refine steps_rdW ?_
    apply Exists.intro
    refine ⟨?_, ?_⟩
    focus
      rintro w' c0
      iterate 15 (refine stW_step rfl (fun K hK => ?_); go_simp; refine hK _ ?_; clear hK K)
      exact stW_nil rfl
    refine steps_nil (l := [⟨_, _, _, _, _, _⟩]) rfl (fun K2 hK2 => ?_)
    go_wp2_with ((with_reducible show wpList _ _ _ ((⟨some 59, _, _, _, _, _⟩ : Oper) :: _) _ _); refine wpList_copy_l (o := ⟨some 59, _, _, _, _, _⟩) rfl (.tmp 49) (.tmp 58) 52 52 rfl i26 Try.underlying52 hi26 hs26 g q cap a hM.out.arr 0 (q - (i + 1)) (cap - (i + 1)) (p - i) (cap - i) (p - i) (some ⟨g, i * 5, none⟩) (by first | rfl | simp) rfl (Nat.min_eq_left (by have := hp.out; omega)) ((a.drop i).take (p - i)) hRs.out (by have := hp.out; omega) ?_; intro w7 hl7 hg7 hz7; have C7 := hid ((Chg.refl (fun k => k = g) (w1.alloc (.cells x.cs.toArray 26)).drew).grown hg7 fun k hk _ => by injection hk with hk; exact hk.symm); have hl7' := hid (show LRow w7 _ _ from hr0.out ▸ hl7); clear hl7 hg7 hz7)
    refine hK2 _ _ rfl ?_
    clear hK2 K2
    refine stI_nil ?_
    have hl7q : Hid ((a.take (i + 1) ++ ((a.drop i).take (p - i) ++ a.drop (i + 1 + (p - i)))).length = q) := hid (by
      have := hq.out
      have := hp.out
      simp only [List.length_append, List.length_take, List.length_drop]
      omega)
    obtain ⟨s1, s2, s3⟩ := hM.out.sep
    have hM7 : Hid (TabM w7 o (.slice (some ⟨g, 0, none⟩) q cap) c vs bm n D (a.take (i + 1) ++ ((a.drop i).take (p - i) ++ a.drop (i + 1 + (p - i)))) m) := hid ⟨hM.out.blk.chg C7.out fun e => s2 (by rw [e]; rfl), hl7'.out, hM.out.mp.chg C7.out fun k hk e => s3 g rfl (by rw [← e]; exact hk)⟩
    have hP8 := TabM.put hM7.out (i := i) (by rw [hl7q.out]; exact hiq.out) v
    rw [hre.out] at hP8
    have hgT : S g ∨ N ≤ g := hlo.out g (.inr (.inl rfl))
    have hT8' : Hid (Tab ((((((w7.setCell ⟨g, i * 5, none⟩ (.int .i64 v.k)).setCell ⟨g, i * 5 + 1, none⟩ (.int .i64 v.p)).setCell ⟨g, i * 5 + 2, none⟩ (.int .i64 v.q)).setCell ⟨g, i * 5 + 3, none⟩ (.string v.s)).setCell ⟨g, i * 5 + 4, none⟩ (.int .i64 v.r)).drew) S N o M r8 m ∧ Chg (fun k => k = g) w7 ((((((w7.setCell ⟨g, i * 5, none⟩ (.int .i64 v.k)).setCell ⟨g, i * 5 + 1, none⟩ (.int .i64 v.p)).setCell ⟨g, i * 5 + 2, none⟩ (.int .i64 v.q)).setCell ⟨g, i * 5 + 3, none⟩ (.string v.s)).setCell ⟨g, i * 5 + 4, none⟩ (.int .i64 v.r)).drew)) :=
      hid ⟨⟨_, c, vs, bm, n, D, hP8.1.none_ ((Chg.refl _ _).drew), hlo.out, hnM.out⟩, hP8.2.drew⟩
    have hB8 := hid (show Bk w7 w.heap.size 26 v.cs ∧ Bk w7 w1.heap.size 26 x.cs from ⟨hB7.out.1.chg C7.out fun e => by have := hgw.out.1; omega, hB7.out.2.chg C7.out fun e => by have := hgw.out.2; omega⟩)
    have hS12 : Hid (w7.drew.cell? ⟨o, 0, none⟩ = some (.slice (some ⟨g, 0, none⟩) q cap) ∧ Bk w7.drew w.heap.size 26 v.cs) := hid ⟨hM7.out.blk.cell 0, hB8.out.1.drew⟩
    obtain ⟨A7, cap7, e7, -, -, hVs7, -, hfr7⟩ := hM7.out.arr.form
    obtain ⟨e7a, e7b⟩ : some ⟨g, 0, none⟩ = A7 ∧ cap = cap7 := by injection e7 with e1 e2 e3; exact ⟨e1, e3⟩
    subst e7a; subst e7b
    obtain ⟨hgf7, hgl7⟩ := hfr7 g rfl
    obtain ⟨b, o', e0, -, y0, y1, y2, y3, y4⟩ := Vs.at_ hVs7 (i := i) (by rw [hl7q.out]; exact hiq.out)
    obtain ⟨rfl, rfl⟩ : g = b ∧ 0 = o' := by injection e0 with e0; injection e0 with e1 e2; exact ⟨e1, e2⟩
    rw [Nat.zero_add] at y0 y1 y2 y3 y4
    have hC07 : Hid (Chg (fun k => S k ∨ N ≤ k) w w7) := hid ((hC17.out.mono (T := fun k => S k ∨ N ≤ k) fun _ _ e => e.elim).trans_same (C7.out.mono (T := fun k => S k ∨ N ≤ k) fun k _ e => by rw [e]; exact hgT))
    clear e0 e7 hVs7 hfr7 hP8 s1 s2 s3 u0 u1 u2 u3 u4 k0 kol hgf hgl hM hVs hl7' hM7 hB7 hS7 hC7 C7 hC17 hC1 hRs
    go_wp2_with fail
    refine wp_region_rc (id := 12) [.rd [0, 1, 2, 3, 4, 5, 6, 7]] [8] [] (fun w' => w'.cell? ⟨o, 0, none⟩ = some (.slice (some ⟨g, 0, none⟩) q cap) ∧ Bk w' w.heap.size 26 v.cs) (by kernel_rfl) 71 rfl (by kernel_rfl) (fun _ _ _ _ _ h => h) hS12.out ?_
    refine steps_rdW ?_
    apply Exists.intro
    refine ⟨?_, ?_⟩
    focus
      rintro w' ⟨c0, hSb⟩
      obtain ⟨z0, z1, z2, z3, z4⟩ := V.box hSb
      clear hSb
      iterate 8 (refine stW_step rfl (fun K hK => ?_); go_simp; refine hK _ ?_; clear hK K)
      exact stW_nil rfl
    refine steps_nil (l := [⟨_, _, _, _, _, _⟩]) rfl (fun K2 hK2 => ?_)
    go_wp2_with fail
    refine hK2 _ _ rfl ?_
    clear hK2 K2
    refine stI_nil ?_
    generalize (((((w7.setCell ⟨g, i * 5, none⟩ (.int .i64 v.k)).setCell ⟨g, i * 5 + 1, none⟩ (.int .i64 v.p)).setCell ⟨g, i * 5 + 2, none⟩ (.int .i64 v.q)).setCell ⟨g, i * 5 + 3, none⟩ (.string v.s)).setCell ⟨g, i * 5 + 4, none⟩ (.int .i64 v.r)).drew = w8 at hT8' ⊢
    have hB9 := hid (hB8.out.2.chg hT8'.out.2 fun e => by have := hgw.out.2; omega)
    have hC8 := hid (hC07.out.trans_same (hT8'.out.2.mono (T := fun k => S k ∨ N ≤ k) fun k _ e => by rw [e]; exact hgT))
    obtain ⟨z0, z1, z2, z3, z4⟩ := V.box hB9.out
    have zl := hB9.out.lt
    clear y0 y1 y2 y3 y4 hgf7 hgl7 hS12 hB8 hgT
    go_wp2_with fail
    refine (t_add hT8'.out.1 (Nat.le_trans hNh.out hC8.out.size) hx0.out (by rw [hr8.out]; exact hbb.out) hm3h.out).mono ?_
    rintro e w9 ⟨rfl, h9, hc9⟩
    have fin := hid (And.intro h9 (hC8.out.trans_same hc9))
    clear h9 hc9 hT8' hB9 hC8 hC07 z0 z1 z2 z3 z4 zl
    go_wp2_with fail
    go_ret
    exact ⟨rfl, fin.out.1, fin.out.2⟩
  · skip
    go_enter Try.func15, Try.ntmps15
    go_wp2_with fail
    refine (val_valid_eq2 hvh.out).mono ?_
    rintro e w1 ⟨rfl, hc1⟩
    have hC1 := hid (hC.out.trans_same hc1)
    have hV1 := hid (hV.out.none_ hc1)
    have hM1 := hid (hM0.out.none_ hC1.out)
    obtain ⟨Aq, capq, e7, -, -, hVs', -, hfr⟩ := hM1.out.arr.form
    rw [hq.out] at e7
    obtain ⟨e7a, e7b⟩ : some ⟨g, 0, none⟩ = Aq ∧ cap = capq := by injection e7 with e1 e2 e3; exact ⟨e1, e3⟩
    subst e7a; subst e7b
    obtain ⟨hgf, hgl⟩ := hfr g rfl
    obtain ⟨b, o', e0, -, u0, u1, u2, u3, u4⟩ := Vs.at_ (rs := a) hVs' (i := p) (by rw [hq.out]; exact hpq)
    obtain ⟨rfl, rfl⟩ : g = b ∧ 0 = o' := by injection e0 with e0; injection e0 with e1 e2; exact ⟨e1, e2⟩
    rw [Nat.zero_add] at u0 u1 u2 u3 u4
    rw [hx.out] at u0 u1 u2 u3 u4
    have k0 : w1.cell? ⟨o, 0, none⟩ = some (.slice (some ⟨g, 0, none⟩) q cap) := hM1.out.blk.cell 0
    have kol := hM1.out.blk.lt
    have hN1 := hid (Nat.le_trans hNh.out hC1.out.size)
    have hS7 : Hid ((w1.alloc (.cells x.cs.toArray 26)).drew.cell? ⟨o, 0, none⟩ = some (.slice (some ⟨g, 0, none⟩) q cap)) := hid ((hM1.out.blk.alloc _).drew.cell 0)
    have hC7 := hid ((Chg.refl (fun _ => False) w1).alloc (.cells x.cs.toArray 26)).drew
    have hM := hid (hM1.out.none_ hC7.out)
    have hVs := hid (Rd.none_ hVs' hC7.out)
    have hB7 := hid (show Bk (w1.alloc (.cells x.cs.toArray 26)).drew w.heap.size 26 v.cs ∧ Bk (w1.alloc (.cells x.cs.toArray 26)).drew w1.heap.size 26 x.cs from ⟨(hV1.out.alloc _).drew, (Bk.new w1 26 x.cs).drew⟩)
    have hC17 := hid (hC1.out.trans_same hC7.out)
    have hRs := hid (Vs.part hVs.out (i := i) (k := p - i) (by rw [hq.out]; have := hp.out; omega))
    have hgw : Hid (g < w.heap.size ∧ g < w1.heap.size) := hid ⟨hgS.out, hgl⟩
    clear e0 e7 hVs' hfr hc1 hC hV hM0 hM1 hV1
    clear c0 hol
    go_wp2_with fail
    refine wp_region_rc (id := 11) [.rd [0, 1, 2, 3, 4, 5, 6, 7, 8, 9, 10, 11, 12, 13, 14]] [15] [] (fun w' => w'.cell? ⟨o, 0, none⟩ = some (.slice (some ⟨g, 0, none⟩) q cap)) (by kernel_rfl) 71 rfl (by kernel_rfl) (fun _ _ _ _ _ h => h) hS7.out ?_
    refine steps_rdW ?_
    apply Exists.intro
    refine ⟨?_, ?_⟩
    focus
      rintro w' c0
      iterate 15 (refine stW_step rfl (fun K hK => ?_); go_simp; refine hK _ ?_; clear hK K)
      exact stW_nil rfl
    refine steps_nil (l := [⟨_, _, _, _, _, _⟩]) rfl (fun K2 hK2 => ?_)
    go_wp2_with ((with_reducible show wpList _ _ _ ((⟨some 59, _, _, _, _, _⟩ : Oper) :: _) _ _); refine wpList_copy_l (o := ⟨some 59, _, _, _, _, _⟩) rfl (.tmp 49) (.tmp 58) 52 52 rfl i26 Try.underlying52 hi26 hs26 g q cap a hM.out.arr (i + 1) (q - (i + 1)) (cap - (i + 1)) (p - i) (cap - i) (p - i) (some ⟨g, i * 5, none⟩) rfl rfl (Nat.min_eq_left (by have := hp.out; omega)) ((a.drop i).take (p - i)) hRs.out (by have := hp.out; omega) ?_; intro w7 hl7 hg7 hz7; have C7 := hid ((Chg.refl (fun k => k = g) (w1.alloc (.cells x.cs.toArray 26)).drew).grown hg7 fun k hk _ => by injection hk with hk; exact hk.symm); have hl7' := hid (hl7); clear hl7 hg7 hz7)
    refine hK2 _ _ rfl ?_
    clear hK2 K2
    refine stI_nil ?_
    have hl7q : Hid ((a.take (i + 1) ++ ((a.drop i).take (p - i) ++ a.drop (i + 1 + (p - i)))).length = q) := hid (by
      have := hq.out
      have := hp.out
      simp only [List.length_append, List.length_take, List.length_drop]
      omega)
    obtain ⟨s1, s2, s3⟩ := hM.out.sep
    have hM7 : Hid (TabM w7 o (.slice (some ⟨g, 0, none⟩) q cap) c vs bm n D (a.take (i + 1) ++ ((a.drop i).take (p - i) ++ a.drop (i + 1 + (p - i)))) m) := hid ⟨hM.out.blk.chg C7.out fun e => s2 (by rw [e]; rfl), hl7'.out, hM.out.mp.chg C7.out fun k hk e => s3 g rfl (by rw [← e]; exact hk)⟩
    have hP8 := TabM.put hM7.out (i := i) (by rw [hl7q.out]; exact hiq.out) v
    rw [hre.out] at hP8
    have hgT : S g ∨ N ≤ g := hlo.out g (.inr (.inl rfl))
    have hT8' : Hid (Tab ((((((w7.setCell ⟨g, i * 5, none⟩ (.int .i64 v.k)).setCell ⟨g, i * 5 + 1, none⟩ (.int .i64 v.p)).setCell ⟨g, i * 5 + 2, none⟩ (.int .i64 v.q)).setCell ⟨g, i * 5 + 3, none⟩ (.string v.s)).setCell ⟨g, i * 5 + 4, none⟩ (.int .i64 v.r)).drew) S N o M r8 m ∧ Chg (fun k => k = g) w7 ((((((w7.setCell ⟨g, i * 5, none⟩ (.int .i64 v.k)).setCell ⟨g, i * 5 + 1, none⟩ (.int .i64 v.p)).setCell ⟨g, i * 5 + 2, none⟩ (.int .i64 v.q)).setCell ⟨g, i * 5 + 3, none⟩ (.string v.s)).setCell ⟨g, i * 5 + 4, none⟩ (.int .i64 v.r)).drew)) :=
      hid ⟨⟨_, c, vs, bm, n, D, hP8.1.none_ ((Chg.refl _ _).drew), hlo.out, hnM.out⟩, hP8.2.drew⟩
    have hB8 := hid (show Bk w7 w.heap.size 26 v.cs ∧ Bk w7 w1.heap.size 26 x.cs from ⟨hB7.out.1.chg C7.out fun e => by have := hgw.out.1; omega, hB7.out.2.chg C7.out fun e => by have := hgw.out.2; omega⟩)
    have hS12 : Hid (w7.drew.cell? ⟨o, 0, none⟩ = some (.slice (some ⟨g, 0, none⟩) q cap) ∧ Bk w7.drew w.heap.size 26 v.cs) := hid ⟨hM7.out.blk.cell 0, hB8.out.1.drew⟩
    obtain ⟨A7, cap7, e7, -, -, hVs7, -, hfr7⟩ := hM7.out.arr.form
    obtain ⟨e7a, e7b⟩ : some ⟨g, 0, none⟩ = A7 ∧ cap = cap7 := by injection e7 with e1 e2 e3; exact ⟨e1, e3⟩
    subst e7a; subst e7b
    obtain ⟨hgf7, hgl7⟩ := hfr7 g rfl
    obtain ⟨b, o', e0, -, y0, y1, y2, y3, y4⟩ := Vs.at_ hVs7 (i := i) (by rw [hl7q.out]; exact hiq.out)
    obtain ⟨rfl, rfl⟩ : g = b ∧ 0 = o' := by injection e0 with e0; injection e0 with e1 e2; exact ⟨e1, e2⟩
    rw [Nat.zero_add] at y0 y1 y2 y3 y4
    have hC07 : Hid (Chg (fun k => S k ∨ N ≤ k) w w7) := hid ((hC17.out.mono (T := fun k => S k ∨ N ≤ k) fun _ _ e => e.elim).trans_same (C7.out.mono (T := fun k => S k ∨ N ≤ k) fun k _ e => by rw [e]; exact hgT))
    clear e0 e7 hVs7 hfr7 hP8 s1 s2 s3 u0 u1 u2 u3 u4 k0 kol hgf hgl hM hVs hl7' hM7 hB7 hS7 hC7 C7 hC17 hC1 hRs
    go_wp2_with fail
    refine wp_region_rc (id := 12) [.rd [0, 1, 2, 3, 4, 5, 6, 7]] [8] [] (fun w' => w'.cell? ⟨o, 0, none⟩ = some (.slice (some ⟨g, 0, none⟩) q cap) ∧ Bk w' w.heap.size 26 v.cs) (by kernel_rfl) 71 rfl (by kernel_rfl) (fun _ _ _ _ _ h => h) hS12.out ?_
    refine steps_rdW ?_
    apply Exists.intro
    refine ⟨?_, ?_⟩
    focus
      rintro w' ⟨c0, hSb⟩
      obtain ⟨z0, z1, z2, z3, z4⟩ := V.box hSb
      clear hSb
      iterate 8 (refine stW_step rfl (fun K hK => ?_); go_simp; refine hK _ ?_; clear hK K)
      exact stW_nil rfl
    refine steps_nil (l := [⟨_, _, _, _, _, _⟩]) rfl (fun K2 hK2 => ?_)
    go_wp2_with fail
    refine hK2 _ _ rfl ?_
    clear hK2 K2
    refine stI_nil ?_
    generalize (((((w7.setCell ⟨g, i * 5, none⟩ (.int .i64 v.k)).setCell ⟨g, i * 5 + 1, none⟩ (.int .i64 v.p)).setCell ⟨g, i * 5 + 2, none⟩ (.int .i64 v.q)).setCell ⟨g, i * 5 + 3, none⟩ (.string v.s)).setCell ⟨g, i * 5 + 4, none⟩ (.int .i64 v.r)).drew = w8 at hT8' ⊢
    have hB9 := hid (hB8.out.2.chg hT8'.out.2 fun e => by have := hgw.out.2; omega)
    have hC8 := hid (hC07.out.trans_same (hT8'.out.2.mono (T := fun k => S k ∨ N ≤ k) fun k _ e => by rw [e]; exact hgT))
    obtain ⟨z0, z1, z2, z3, z4⟩ := V.box hB9.out
    have zl := hB9.out.lt
    clear y0 y1 y2 y3 y4 hgf7 hgl7 hS12 hB8 hgT
    go_wp2_with fail
    refine (t_add hT8'.out.1 (Nat.le_trans hNh.out hC8.out.size) hx0.out (by rw [hr8.out]; exact hbb.out) hm3h.out).mono ?_
    rintro e w9 ⟨rfl, h9, hc9⟩
    have fin := hid (And.intro h9 (hC8.out.trans_same hc9))
    clear h9 hc9 hT8' hB9 hC8 hC07 z0 z1 z2 z3 z4 zl
    go_wp2_with fail
    go_ret
    exact ⟨rfl, fin.out.1, fin.out.2⟩
end
end Go.Proofs.Ytoelgnjnbelokaa
