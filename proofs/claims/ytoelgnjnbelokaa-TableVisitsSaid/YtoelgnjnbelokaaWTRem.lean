/-
  Remove of a table.
-/
import Derived.Test.YtoelgnjnbelokaaWTSet
import Derived.Test.YtoelgnjnbelokaaLCopy
namespace Go.Proofs.Ytoelgnjnbelokaa
open Go.RowKit Go.Maps

theorem ret_ve {fn : Func} {t1 u2 : Nat} {R : Ending → World → Prop} {a : Act} {W : World} {b1 : Nat} {x1 : V} {e : Int} (hres : fn.results = #[.cell t1 26, .tmp u2]) (ht1 : a.tmps.getD t1 undef = .pointer (some ⟨b1, 0, none⟩))
    (hu2 : a.tmps.getD u2 undef = .int .i64 e) (hd : a.defers = []) (hB1 : Bk W b1 26 x1.cs) (hR : R (.returned (.tuple #[(.agg #[.int .i64 x1.k, .int .i64 x1.p, .int .i64 x1.q, .string x1.s, .int .i64 x1.r]), .int .i64 e])) W) : bodyPost Try.prog fn R .ret a W := by
  refine bodyPost_ret (v := .tuple #[(.agg #[.int .i64 x1.k, .int .i64 x1.p, .int .i64 x1.q, .string x1.s, .int .i64 x1.r]), .int .i64 e]) ?_ hd hR
  have h1 := load_val hB1
  have ht1' : a.tmps[t1]?.getD undef = .pointer (some ⟨b1, 0, none⟩) := by simpa using ht1
  have hu2' : a.tmps[u2]?.getD undef = .int .i64 e := by simpa using hu2
  unfold results
  rw [hres]
  simp [ht1', hu2', asAddr, h1]
section
variable {w w' : World} {S : Nat → Prop} {N o M : Nat} {a : List V} {m : List Sl}
set_option maxRecDepth 100000 in
theorem t_remove_nil (w : World) (i : Int) : Calls Try.prog 12 #[.pointer none, .int .i64 i] w fun e w' => e = .returned (.tuple #[(.agg #[.int .i64 ((V.zero)).k, .int .i64 ((V.zero)).p, .int .i64 ((V.zero)).q, .string ((V.zero)).s, .int .i64 ((V.zero)).r]), .int .i64 1]) ∧ Chg (fun _ => False) w w' := by
  have hB := hid (Bk.new w 26 V.zero.cs)
  have hC := hid ((Chg.refl (fun _ => False) w).alloc (.cells V.zero.cs.toArray 26))
  go_enter Try.func12, Try.ntmps12
  go_wp2_with fail
  exact ret_ve (t1 := 4) (u2 := 5) (b1 := w.heap.size) (x1 := V.zero) rfl rfl rfl rfl hB.out ⟨rfl, hC.out⟩
theorem rem_bad_fact {i : Int} {q : Nat} (h : ¬ (1 ≤ i ∧ i ≤ (q : Int))) : decide (i < 1) = true ∨ (decide (i < 1) = false ∧ decide ((q : Int) < i) = true) := by
  by_cases e : i < 1
  · exact .inl (by simpa using e)
  · exact .inr ⟨by simpa using e, by simp; omega⟩
set_option maxRecDepth 100000 in
theorem t_remove_bad (h : Tab w S N o M a m) {i : Int} (hi : ¬ (1 ≤ i ∧ i ≤ (a.length : Int))) : Calls Try.prog 12 #[.pointer (some ⟨o, 0, none⟩), .int .i64 i] w fun e w' => e = .returned (.tuple #[(.agg #[.int .i64 ((V.zero)).k, .int .i64 ((V.zero)).p, .int .i64 ((V.zero)).q, .string ((V.zero)).s, .int .i64 ((V.zero)).r]), .int .i64 6]) ∧ Chg (fun _ => False) w w' := by
  obtain ⟨q, hq⟩ : ∃ q, Hid (a.length = q) := ⟨_, hid rfl⟩
  rw [hq.out] at hi
  obtain ⟨A, cap, c, c0, -⟩ := h.cells hq.out
  have hol := h.lt
  have hB := hid (Bk.new w 26 V.zero.cs)
  have hC := hid ((Chg.refl (fun _ => False) w).alloc (.cells V.zero.cs.toArray 26))
  have hr := rem_bad_fact hi
  clear h hi
  rcases hr with t1 | ⟨t1, t2⟩ <;>
  · go_enter Try.func12, Try.ntmps12
    go_wp2_with fail
    exact ret_ve (t1 := 4) (u2 := 5) (b1 := w.heap.size) (x1 := V.zero) rfl rfl rfl rfl hB.out ⟨rfl, hC.out⟩
/-- A part of a row. -/
theorem Vs.drop {w : World} {g i k : Nat} {rs : List V} (h : Vs w (some ⟨g, 0, none⟩) rs) (hk : i + k = rs.length) : Rd w 5 (some ⟨g, i * 5, none⟩) k ((rs.drop i).flatMap V.cs) := by
  refine ⟨by rw [flat_len V.cs 5 V.cs_len, List.length_drop]; omega, fun h0 => ?_⟩
  obtain ⟨b, o', e, hb, hc⟩ := h.2 (by omega)
  injection e with e
  injection e with e1 e2
  subst e1; subst e2
  refine ⟨g, i * 5, rfl, hb, fun j hj => ?_⟩
  have h1 := hc (i * 5 + j) (by rw [← hk]; omega)
  rw [Nat.zero_add] at h1
  rw [h1, ← flat_dropV, List.getElem?_drop]
theorem rd_none {w : World} {A : Option Addr} {a : List V} {B : Option Addr} (_h : Vs w B a) {i k : Nat} (hk : k = 0) (hi : i + k = a.length) : Rd w 5 A k ((a.drop i).flatMap V.cs) := by
  subst hk
  refine ⟨?_, fun h0 => absurd h0 (by omega)⟩
  rw [List.drop_of_length_le (by omega)]
  rfl
theorem rem_eq {a : List V} {i : Nat} (hi : i < a.length) : (a.take i ++ (a.drop (i + 1) ++ a.drop (i + (a.length - (i + 1))))).set (a.length - 1) V.zero = a.eraseIdx i ++ [V.zero] := by
  have h1 : a.drop (i + (a.length - (i + 1))) = [a[a.length - 1]] := by
    rw [show i + (a.length - (i + 1)) = a.length - 1 by omega, List.drop_eq_getElem_cons (by omega), List.drop_of_length_le (by omega)]
  rw [h1, ← List.append_assoc, ← List.eraseIdx_eq_take_drop_succ]
  have h2 : (a.eraseIdx i).length = a.length - 1 := by rw [List.length_eraseIdx_of_lt hi]
  rw [List.set_append_right _ _ (by omega), h2, Nat.sub_self]
  rfl
set_option maxRecDepth 100000 in
set_option maxHeartbeats 8000000 in
theorem t_remove (h : Tab w S N o M a m) (hN : N ≤ w.heap.size) (hb : a.length ≤ 1000000) {i : Nat} (hi : i < a.length) {x : V} (hx : vAt a i = x) :
    Calls Try.prog 12 #[.pointer (some ⟨o, 0, none⟩), .int .i64 ((i : Int) + 1)] w fun e w' => e = .returned (.tuple #[(.agg #[.int .i64 x.k, .int .i64 x.p, .int .i64 x.q, .string x.s, .int .i64 x.r]), .int .i64 0]) ∧ Tab w' S N o M (shrinkA (a.eraseIdx i ++ [V.zero])) m ∧ Chg (fun k => S k ∨ N ≤ k) w w' := by
  obtain ⟨rr, hrr⟩ : ∃ rr, Hid (shrinkA (a.eraseIdx i ++ [V.zero]) = rr) := ⟨_, hid rfl⟩
  rw [hrr.out]
  obtain ⟨q, hq⟩ : ∃ q, Hid (a.length = q) := ⟨_, hid rfl⟩
  obtain ⟨i26, hi26, hz26, hs26, hb26⟩ := info_parts Try.info26
  obtain ⟨av, c, vs, bm, n, D, hM', hlo', hn'⟩ := h
  obtain ⟨A, cap, rfl, hqc, hcm, hVs', h0, hfr⟩ := hM'.arr.form
  have hre := hid (rem_eq hi)
  rw [hq.out] at hM' h0 hqc hlo' hb hi
  obtain ⟨g, rfl⟩ := h0 (by omega)
  obtain ⟨hgf, hgl⟩ := hfr g rfl
  obtain ⟨b, o', e0, -, u0, u1, u2, u3, u4⟩ := Vs.at_ (rs := a) hVs' (i := i) (by rw [hq.out]; exact hi)
  obtain ⟨rfl, rfl⟩ : g = b ∧ 0 = o' := by injection e0 with e0; injection e0 with e1 e2; exact ⟨e1, e2⟩
  clear e0
  rw [Nat.zero_add] at u0 u1 u2 u3 u4
  rw [hx] at u0 u1 u2 u3 u4
  have c0 : w.cell? ⟨o, 0, none⟩ = some (.slice (some ⟨g, 0, none⟩) q cap) := hM'.blk.cell 0
  have hol := hM'.blk.lt
  have t1 : decide ((i : Int) + 1 < 1) = false := decide_eq_false (by omega)
  have t2 : decide ((q : Int) < (i : Int) + 1) = false := decide_eq_false (by omega)
  have hw1 : IntKind.i64.wrap ((i : Int) + 1 - 1) = (i : Int) := by rw [IntKind.wrap_i64]; omega
  have hw2 : IntKind.i64.wrap (i : Int) = (i : Int) := by rw [IntKind.wrap_i64]; omega
  have hi2 : (i : Int) < (q : Int) := by omega
  have hi3 : (i : Int) ≤ (q : Int) := by omega
  have hi4 : (i : Int) + 1 ≤ (q : Int) := by omega
  have hi5 : ¬ cap = i := by omega
  have hi6 : (0 : Int) ≤ (i : Int) + 1 := by omega
  obtain ⟨p, hp⟩ : ∃ p, Hid (q = p + 1) := ⟨q - 1, hid (by omega)⟩
  have hpq : p < q := by have := hp.out; omega
  have hpq2 : (p : Int) < (q : Int) := by omega
  have hw3 : IntKind.i64.wrap ((q : Int) - 1) = (p : Int) := by rw [IntKind.wrap_i64]; have := hp.out; omega
  have hw4 : IntKind.i64.wrap (p : Int) = (p : Int) := by rw [IntKind.wrap_i64]; omega
  have hNh := hid hN
  have hRX := hid hi
  have hq2 : (q : Int) ≤ (cap : Int) := by omega
  have hS7 : Hid (((w.alloc (.cells V.zero.cs.toArray 26)).alloc (.cells x.cs.toArray 26)).drew.cell? ⟨o, 0, none⟩ = some (.slice (some ⟨g, 0, none⟩) q cap)) := hid (((hM'.blk.alloc _).alloc _).drew.cell 0)
  have hC7 := hid (((Chg.refl (fun _ => False) w).alloc (.cells V.zero.cs.toArray 26)).alloc (.cells x.cs.toArray 26)).drew
  have hM := hid (hM'.none_ hC7.out)
  have hVs := hid (Rd.none_ hVs' hC7.out)
  have hlo := hid hlo'
  have hnM := hid hn'
  have hnot := hid (show ∀ k, tabF o (.slice (some ⟨g, 0, none⟩) q cap) c vs bm k → k < w.heap.size from fun k hk => hM'.lt hk)
  have hB7 := hid (show Bk ((w.alloc (.cells V.zero.cs.toArray 26)).alloc (.cells x.cs.toArray 26)).drew w.heap.size 26 V.zero.cs ∧ Bk ((w.alloc (.cells V.zero.cs.toArray 26)).alloc (.cells x.cs.toArray 26)).drew (w.heap.size + 1) 26 x.cs from ⟨((Bk.new w 26 V.zero.cs).alloc _).drew, (Bk.new_at (w.alloc (.cells V.zero.cs.toArray 26)) 26 x.cs.toArray (w.heap.size + 1) (by simp)).drew⟩)
  have hgS := hid (show g < w.heap.size from hgl)
  have hbq : q ≤ 1000000 := hb
  clear hM' hVs' h0 hfr hlo' hn' hx hN
  by_cases hcap : cap = i + 1
  · have hi7 : (cap = i + 1) = True := eq_true hcap
    have hRz := hid (rd_none (A := some ⟨g, 0, none⟩) (a := a) hVs.out (i := i + 1) (k := q - (i + 1)) (by omega) (by rw [hq.out]; omega))
    clear hcap
    go_enter Try.func12, Try.ntmps12
    go_wp2_with fail
    refine wp_region_rc (id := 7) [.rd [0, 1, 2, 3, 4, 5, 6, 7, 8, 9, 10, 11, 12]] [13] [] (fun w' => w'.cell? ⟨o, 0, none⟩ = some (.slice (some ⟨g, 0, none⟩) q cap)) (by kernel_rfl) 57 rfl (by kernel_rfl) (fun _ _ _ _ _ h => h) hS7.out ?_
    refine steps_rdW ?_
    apply Exists.intro
    refine ⟨?_, ?_⟩
    focus
      rintro w' c0
      iterate 13 (refine stW_step rfl (fun K hK => ?_); go_simp; refine hK _ ?_; clear hK K)
      exact stW_nil rfl
    refine steps_nil (l := [⟨_, _, _, _, _, _⟩]) rfl (fun K2 hK2 => ?_)
    go_wp2_with ((with_reducible show wpList _ _ _ ((⟨some 45, _, _, _, _, _⟩ : Oper) :: _) _ _); refine wpList_copy_l (o := ⟨some 45, _, _, _, _, _⟩) rfl (.tmp 38) (.tmp 44) 52 52 rfl i26 Try.underlying52 hi26 hs26 g q cap a hM.out.arr i (q - i) (cap - i) (q - (i + 1)) (cap - (i + 1)) (q - (i + 1)) (some ⟨g, 0, none⟩) rfl rfl (Nat.min_eq_left (by omega)) (a.drop (i + 1)) hRz.out (by omega) ?_; intro w7 hl7 hg7 hz7; have C7 := hid ((Chg.refl (fun k => k = g) ((w.alloc (.cells V.zero.cs.toArray 26)).alloc (.cells x.cs.toArray 26)).drew).grown hg7 fun k hk _ => by injection hk with hk; exact hk.symm); have hl7' := hid hl7; clear hl7 hg7 hz7)
    refine hK2 _ _ rfl ?_
    clear hK2 K2
    refine stI_nil ?_
    have hl7q : Hid ((a.take i ++ (a.drop (i + 1) ++ a.drop (i + (q - (i + 1))))).length = q) := hid (by
      have := hq.out
      simp only [List.length_append, List.length_take, List.length_drop]
      omega)
    obtain ⟨s1, s2, s3⟩ := hM.out.sep
    have hM7 : Hid (TabM w7 o (.slice (some ⟨g, 0, none⟩) q cap) c vs bm n D (a.take i ++ (a.drop (i + 1) ++ a.drop (i + (q - (i + 1))))) m) := hid ⟨hM.out.blk.chg C7.out fun e => s2 (by rw [e]; rfl), hl7'.out, hM.out.mp.chg C7.out fun k hk e => s3 g rfl (by rw [← e]; exact hk)⟩
    have hP8 := TabM.put hM7.out (i := p) (by rw [hl7q.out]; exact hpq) V.zero
    have hre2 : Hid ((a.take i ++ (a.drop (i + 1) ++ a.drop (i + (q - (i + 1))))).set p V.zero = a.eraseIdx i ++ [V.zero]) := hid (by
      have := hre.out
      rw [hq.out, show q - 1 = p by have := hp.out; omega] at this
      exact this)
    rw [hre2.out] at hP8
    have hT8 : Hid (Tab (put5 w7 g (p * 5) V.zero) (tabF o (.slice (some ⟨g, 0, none⟩) q cap) c vs bm) (w.heap.size + 2) o M (a.eraseIdx i ++ [V.zero]) m) := hid ⟨_, c, vs, bm, n, D, hP8.1, fun k hk => .inl hk, hnM.out⟩
    have hC8 := hid hP8.2
    have hl8 : Hid ((a.eraseIdx i ++ [V.zero]).length ≤ 1000000) := hid (by rw [← hre2.out, List.length_set, hl7q.out]; exact hbq)
    have hB8 := hid (show Bk w7 w.heap.size 26 V.zero.cs ∧ Bk w7 (w.heap.size + 1) 26 x.cs from ⟨hB7.out.1.chg C7.out fun e => by have := hgS.out; omega, hB7.out.2.chg C7.out fun e => by have := hgS.out; omega⟩)
    obtain ⟨A7, cap7, e7, -, -, hVs7, -, hfr7⟩ := hM7.out.arr.form
    obtain ⟨e7a, e7b⟩ : some ⟨g, 0, none⟩ = A7 ∧ cap = cap7 := by injection e7 with e1 e2 e3; exact ⟨e1, e3⟩
    subst e7a; subst e7b
    obtain ⟨hgf7, hgl7⟩ := hfr7 g rfl
    have k0 : w7.cell? ⟨o, 0, none⟩ = some (.slice (some ⟨g, 0, none⟩) q cap) := hM7.out.blk.cell 0
    have kol := hM7.out.blk.lt
    obtain ⟨b, o', e0, -, y0, y1, y2, y3, y4⟩ := Vs.at_ hVs7 (i := p) (by rw [hl7q.out]; exact hpq)
    obtain ⟨rfl, rfl⟩ : g = b ∧ 0 = o' := by injection e0 with e0; injection e0 with e1 e2; exact ⟨e1, e2⟩
    rw [Nat.zero_add] at y0 y1 y2 y3 y4
    clear e0 e7 hVs7 hfr7 hP8 s1 s2 s3 u0 u1 u2 u3 u4 c0 hol hgf hgl hM hVs hl7' hM7 hB7
    go_wp2_with fail
    refine (t_shrink hT8.out hl8.out).mono ?_
    rintro e w9 ⟨rfl, hT9', hc9⟩
    have hB9 := hid (show Bk w9 w.heap.size 26 V.zero.cs ∧ Bk w9 (w.heap.size + 1) 26 x.cs from ⟨(hB8.out.1.chg hC8.out fun e => by have := hgS.out; omega).chg hc9 fun e => e.elim (fun e => by have := hnot.out _ e; omega) fun e => by omega, (hB8.out.2.chg hC8.out fun e => by have := hgS.out; omega).chg hc9 fun e => e.elim (fun e => by have := hnot.out _ e; omega) fun e => by omega⟩)
    have hgT : S g ∨ N ≤ g := hlo.out g (.inr (.inl rfl))
    have fin : Hid (Tab w9 S N o M rr m ∧ Chg (fun k => S k ∨ N ≤ k) w w9) := hid ⟨by
      rw [← hrr.out]
      exact hT9'.weaken hlo.out (by have := hNh.out; omega), (((hC7.out.mono (T := fun k => S k ∨ N ≤ k) fun _ _ e => e.elim).trans_same (C7.out.mono (T := fun k => S k ∨ N ≤ k) fun k _ e => by rw [e]; exact hgT)).trans_same (hC8.out.mono (T := fun k => S k ∨ N ≤ k) fun k _ e => by rw [e]; exact hgT)).trans_same (hc9.mono fun k _ e => e.elim (hlo.out k) fun e => .inr (by have := hNh.out; omega))⟩
    obtain ⟨z0, z1, z2, z3, z4⟩ := V.box hB9.out.1
    have zl := hB9.out.1.lt
    have zf := fun j => hB9.out.1.frozen j
    obtain ⟨v0, v1, v2, v3, v4⟩ := V.box hB9.out.2
    have vl := hB9.out.2.lt
    simp only [V.zero] at z0 z1 z2 z3 z4
    have finS := hid (show Chg (fun k => S k ∨ N ≤ k) w (put5 w9 w.heap.size 0 x) ∧ Tab (put5 w9 w.heap.size 0 x) S N o M rr m from by
      have hcz := put5_chg w9 w.heap.size 0 x
      refine ⟨fin.out.2.trans hcz fun j hj e => by omega, ?_⟩
      rw [← hrr.out]
      exact (hT9'.chg hcz fun k _ hk e => hk.elim (fun hk => by have := hnot.out _ hk; omega) fun hk => by omega).weaken hlo.out (by have := hNh.out; omega))
    clear hT9' hc9 hT8 hC8 hB8 hC7 C7 k0 kol y0 y1 y2 y3 y4 hgf7 hgl7 fin
    go_wp2_with fail
    exact ret_ve (t1 := 4) (u2 := 5) (b1 := w.heap.size) (x1 := x) rfl rfl rfl rfl (put5_bk (y := x) hB9.out.1) ⟨rfl, finS.out.2, finS.out.1⟩
  · go_enter Try.func12, Try.ntmps12
    go_wp2_with fail
    refine wp_region_rc (id := 7) [.rd [0, 1, 2, 3, 4, 5, 6, 7, 8, 9, 10, 11, 12]] [13] [] (fun w' => w'.cell? ⟨o, 0, none⟩ = some (.slice (some ⟨g, 0, none⟩) q cap)) (by kernel_rfl) 57 rfl (by kernel_rfl) (fun _ _ _ _ _ h => h) hS7.out ?_
    refine steps_rdW ?_
    apply Exists.intro
    refine ⟨?_, ?_⟩
    focus
      rintro w' c0
      iterate 13 (refine stW_step rfl (fun K hK => ?_); go_simp; refine hK _ ?_; clear hK K)
      exact stW_nil rfl
    refine steps_nil (l := [⟨_, _, _, _, _, _⟩]) rfl (fun K2 hK2 => ?_)
    go_wp2_with ((with_reducible show wpList _ _ _ ((⟨some 45, _, _, _, _, _⟩ : Oper) :: _) _ _); refine wpList_copy_l (o := ⟨some 45, _, _, _, _, _⟩) rfl (.tmp 38) (.tmp 44) 52 52 rfl i26 Try.underlying52 hi26 hs26 g q cap a hM.out.arr i (q - i) (cap - i) (q - (i + 1)) (cap - (i + 1)) (q - (i + 1)) (some ⟨g, (i + 1) * 5, none⟩) rfl rfl (Nat.min_eq_left (by omega)) (a.drop (i + 1)) (Vs.drop hVs.out (by rw [hq.out]; omega)) (by omega) ?_; intro w7 hl7 hg7 hz7; have C7 := hid ((Chg.refl (fun k => k = g) ((w.alloc (.cells V.zero.cs.toArray 26)).alloc (.cells x.cs.toArray 26)).drew).grown hg7 fun k hk _ => by injection hk with hk; exact hk.symm); have hl7' := hid hl7; clear hl7 hg7 hz7)
    refine hK2 _ _ rfl ?_
    clear hK2 K2
    refine stI_nil ?_
    have hl7q : Hid ((a.take i ++ (a.drop (i + 1) ++ a.drop (i + (q - (i + 1))))).length = q) := hid (by
      have := hq.out
      simp only [List.length_append, List.length_take, List.length_drop]
      omega)
    obtain ⟨s1, s2, s3⟩ := hM.out.sep
    have hM7 : Hid (TabM w7 o (.slice (some ⟨g, 0, none⟩) q cap) c vs bm n D (a.take i ++ (a.drop (i + 1) ++ a.drop (i + (q - (i + 1))))) m) := hid ⟨hM.out.blk.chg C7.out fun e => s2 (by rw [e]; rfl), hl7'.out, hM.out.mp.chg C7.out fun k hk e => s3 g rfl (by rw [← e]; exact hk)⟩
    have hP8 := TabM.put hM7.out (i := p) (by rw [hl7q.out]; exact hpq) V.zero
    have hre2 : Hid ((a.take i ++ (a.drop (i + 1) ++ a.drop (i + (q - (i + 1))))).set p V.zero = a.eraseIdx i ++ [V.zero]) := hid (by
      have := hre.out
      rw [hq.out, show q - 1 = p by have := hp.out; omega] at this
      exact this)
    rw [hre2.out] at hP8
    have hT8 : Hid (Tab (put5 w7 g (p * 5) V.zero) (tabF o (.slice (some ⟨g, 0, none⟩) q cap) c vs bm) (w.heap.size + 2) o M (a.eraseIdx i ++ [V.zero]) m) := hid ⟨_, c, vs, bm, n, D, hP8.1, fun k hk => .inl hk, hnM.out⟩
    have hC8 := hid hP8.2
    have hl8 : Hid ((a.eraseIdx i ++ [V.zero]).length ≤ 1000000) := hid (by rw [← hre2.out, List.length_set, hl7q.out]; exact hbq)
    have hB8 := hid (show Bk w7 w.heap.size 26 V.zero.cs ∧ Bk w7 (w.heap.size + 1) 26 x.cs from ⟨hB7.out.1.chg C7.out fun e => by have := hgS.out; omega, hB7.out.2.chg C7.out fun e => by have := hgS.out; omega⟩)
    obtain ⟨A7, cap7, e7, -, -, hVs7, -, hfr7⟩ := hM7.out.arr.form
    obtain ⟨e7a, e7b⟩ : some ⟨g, 0, none⟩ = A7 ∧ cap = cap7 := by injection e7 with e1 e2 e3; exact ⟨e1, e3⟩
    subst e7a; subst e7b
    obtain ⟨hgf7, hgl7⟩ := hfr7 g rfl
    have k0 : w7.cell? ⟨o, 0, none⟩ = some (.slice (some ⟨g, 0, none⟩) q cap) := hM7.out.blk.cell 0
    have kol := hM7.out.blk.lt
    obtain ⟨b, o', e0, -, y0, y1, y2, y3, y4⟩ := Vs.at_ hVs7 (i := p) (by rw [hl7q.out]; exact hpq)
    obtain ⟨rfl, rfl⟩ : g = b ∧ 0 = o' := by injection e0 with e0; injection e0 with e1 e2; exact ⟨e1, e2⟩
    rw [Nat.zero_add] at y0 y1 y2 y3 y4
    clear e0 e7 hVs7 hfr7 hP8 s1 s2 s3 u0 u1 u2 u3 u4 c0 hol hgf hgl hM hVs hl7' hM7 hB7
    go_wp2_with fail
    refine (t_shrink hT8.out hl8.out).mono ?_
    rintro e w9 ⟨rfl, hT9', hc9⟩
    have hB9 := hid (show Bk w9 w.heap.size 26 V.zero.cs ∧ Bk w9 (w.heap.size + 1) 26 x.cs from ⟨(hB8.out.1.chg hC8.out fun e => by have := hgS.out; omega).chg hc9 fun e => e.elim (fun e => by have := hnot.out _ e; omega) fun e => by omega, (hB8.out.2.chg hC8.out fun e => by have := hgS.out; omega).chg hc9 fun e => e.elim (fun e => by have := hnot.out _ e; omega) fun e => by omega⟩)
    have hgT : S g ∨ N ≤ g := hlo.out g (.inr (.inl rfl))
    have fin : Hid (Tab w9 S N o M rr m ∧ Chg (fun k => S k ∨ N ≤ k) w w9) := hid ⟨by
      rw [← hrr.out]
      exact hT9'.weaken hlo.out (by have := hNh.out; omega), (((hC7.out.mono (T := fun k => S k ∨ N ≤ k) fun _ _ e => e.elim).trans_same (C7.out.mono (T := fun k => S k ∨ N ≤ k) fun k _ e => by rw [e]; exact hgT)).trans_same (hC8.out.mono (T := fun k => S k ∨ N ≤ k) fun k _ e => by rw [e]; exact hgT)).trans_same (hc9.mono fun k _ e => e.elim (hlo.out k) fun e => .inr (by have := hNh.out; omega))⟩
    obtain ⟨z0, z1, z2, z3, z4⟩ := V.box hB9.out.1
    have zl := hB9.out.1.lt
    have zf := fun j => hB9.out.1.frozen j
    obtain ⟨v0, v1, v2, v3, v4⟩ := V.box hB9.out.2
    have vl := hB9.out.2.lt
    simp only [V.zero] at z0 z1 z2 z3 z4
    have finS := hid (show Chg (fun k => S k ∨ N ≤ k) w (put5 w9 w.heap.size 0 x) ∧ Tab (put5 w9 w.heap.size 0 x) S N o M rr m from by
      have hcz := put5_chg w9 w.heap.size 0 x
      refine ⟨fin.out.2.trans hcz fun j hj e => by omega, ?_⟩
      rw [← hrr.out]
      exact (hT9'.chg hcz fun k _ hk e => hk.elim (fun hk => by have := hnot.out _ hk; omega) fun hk => by omega).weaken hlo.out (by have := hNh.out; omega))
    clear hT9' hc9 hT8 hC8 hB8 hC7 C7 k0 kol y0 y1 y2 y3 y4 hgf7 hgl7 fin
    go_wp2_with fail
    exact ret_ve (t1 := 4) (u2 := 5) (b1 := w.heap.size) (x1 := x) rfl rfl rfl rfl (put5_bk (y := x) hB9.out.1) ⟨rfl, finS.out.2, finS.out.1⟩
end
end Go.Proofs.Ytoelgnjnbelokaa
