/-
  Set of a table: what is refused, and a key of the array part.
-/
import Derived.Test.YtoelgnjnbelokaaWTab4
namespace Go.Proofs.Ytoelgnjnbelokaa
open Go.RowKit Go.Maps

section
variable {w w' : World} {S : Nat → Prop} {N o M : Nat} {a : List V} {m : List Sl}
set_option maxRecDepth 100000 in
theorem t_set_nil (w : World) (k v : V) : Calls Try.prog 14 #[.pointer none, (.agg #[.int .i64 k.k, .int .i64 k.p, .int .i64 k.q, .string k.s, .int .i64 k.r]), (.agg #[.int .i64 v.k, .int .i64 v.p, .int .i64 v.q, .string v.s, .int .i64 v.r])] w fun e w' => e = .returned (.int .i64 1) ∧ Chg (fun _ => False) w w' := by
  go_enter Try.func14, Try.ntmps14
  go_wp2
  go_ret
  exact ⟨rfl, ((Chg.refl _ w).alloc _).alloc _⟩
set_option maxRecDepth 100000 in
set_option maxHeartbeats 4000000 in
theorem t_set_bad (w : World) (c : Nat) (k v : V) {x : Int} (hx : (k.k = 0 ∨ vok k = false) ∧ x = 13 ∨ ¬ (k.k = 0 ∨ vok k = false) ∧ vok v = false ∧ x = 2) :
    Calls Try.prog 14 #[.pointer (some ⟨c, 0, none⟩), (.agg #[.int .i64 k.k, .int .i64 k.p, .int .i64 k.q, .string k.s, .int .i64 k.r]), (.agg #[.int .i64 v.k, .int .i64 v.p, .int .i64 v.q, .string v.s, .int .i64 v.r])] w fun e w' => e = .returned (.int .i64 x) ∧ Chg (fun _ => False) w w' := by
  have hb0 := hid ((Bk.new w 26 k.cs).alloc (.cells v.cs.toArray 26))
  have hc0 := hid (Bk.new_at (w.alloc (.cells k.cs.toArray 26)) 26 v.cs.toArray (w.heap.size + 1) (by simp))
  have hC0 := hid (((Chg.refl (fun _ => False) w).alloc (.cells k.cs.toArray 26)).alloc (.cells v.cs.toArray 26))
  rcases hx with ⟨h, rfl⟩ | ⟨h, hv, rfl⟩
  · by_cases hk0 : k.k = 0
    · have e0 : (k.k == 0) = true := by simpa using hk0
      clear h hk0
      go_enter Try.func14, Try.ntmps14
      go_wp2
      go_ret
      exact ⟨rfl, hC0.out⟩
    · have e0 : (k.k == 0) = false := by simpa using hk0
      have hk := hid (h.resolve_left hk0)
      clear h hk0
      go_enter Try.func14, Try.ntmps14
      go_wp2_with fail
      refine (val_valid_eq2 hk.out).mono ?_
      rintro e w1 ⟨rfl, hc1⟩
      have fin := hid (hC0.out.trans_same hc1)
      clear hc1
      go_wp2
      go_ret
      exact ⟨rfl, fin.out⟩
  · have e0 : (k.k == 0) = false := by simpa using fun e => h (.inl e)
    have hk : Hid (vok k = true) := hid (by cases e : vok k with | true => rfl | false => exact absurd (.inr e) h)
    have hvh := hid hv
    clear h hv
    go_enter Try.func14, Try.ntmps14
    go_wp2_with fail
    refine (val_valid_eq2 hk.out).mono ?_
    rintro e w1 ⟨rfl, hc1⟩
    have hV1 := hid (hc0.out.none_ hc1)
    obtain ⟨z0, z1, z2, z3, z4⟩ := V.box hV1.out
    have hlz := hV1.out.lt
    have hC1 := hid (hC0.out.trans_same hc1)
    clear hc1
    go_wp2_with fail
    refine (val_valid_eq2 hvh.out).mono ?_
    rintro e w2 ⟨rfl, hc2⟩
    have fin := hid (hC1.out.trans_same hc2)
    clear hc2
    go_wp2
    go_ret
    exact ⟨rfl, fin.out⟩
/-- A value of the array part is stored. -/
theorem TabM.put {c bm n : Nat} {vs : Value} {D : DataW Unit} {g cap q : Nat} (h : TabM w o (.slice (some ⟨g, 0, none⟩) q cap) c vs bm n D a m) {i : Nat} (hi : i < a.length) (v : V) :
    TabM (put5 w g (i * 5) v) o (.slice (some ⟨g, 0, none⟩) q cap) c vs bm n D (a.set i v) m ∧ Chg (fun k => k = g) w (put5 w g (i * 5) v) := by
  obtain ⟨s1, s2, s3⟩ := h.sep
  have hc : Chg (fun k => k = g) w (put5 w g (i * 5) v) := put5_chg w g (i * 5) v
  exact ⟨⟨h.blk.chg hc fun e => s2 (by rw [e]; rfl), h.arr.put rfl hi v, h.mp.chg hc fun k hk e => s3 g rfl (by rw [← e]; exact hk)⟩, hc⟩
set_option maxRecDepth 100000 in
set_option maxHeartbeats 8000000 in
theorem t_set_in (h : Tab w S N o M a m) (hb : a.length ≤ 1000000) {i : Nat} (hi : i < a.length) {k v : V} (hk : k = ⟨2, (i : Int) + 1, 1, ⟨#[]⟩, 0⟩) (hv : vok v = true) :
    Calls Try.prog 14 #[.pointer (some ⟨o, 0, none⟩), (.agg #[.int .i64 k.k, .int .i64 k.p, .int .i64 k.q, .string k.s, .int .i64 k.r]), (.agg #[.int .i64 v.k, .int .i64 v.p, .int .i64 v.q, .string v.s, .int .i64 v.r])] w fun e w' => e = .returned (.int .i64 0) ∧ Tab w' S N o M (if i + 1 = a.length then shrinkA (a.set i v) else a.set i v) m ∧ Chg (fun k => S k ∨ N ≤ k) w w' := by
  obtain ⟨a', ha'⟩ : ∃ a', Hid ((if i + 1 = a.length then shrinkA (a.set i v) else a.set i v) = a') := ⟨_, hid rfl⟩
  rw [ha'.out]
  obtain ⟨q, hq⟩ : ∃ q, Hid (a.length = q) := ⟨_, hid rfl⟩
  have hB := hid ((Bk.new w 26 k.cs).alloc (.cells v.cs.toArray 26))
  have hV := hid (Bk.new_at (w.alloc (.cells k.cs.toArray 26)) 26 v.cs.toArray (w.heap.size + 1) (by simp))
  have hC := hid (((Chg.refl (fun _ => False) w).alloc (.cells k.cs.toArray 26)).alloc (.cells v.cs.toArray 26))
  subst hk
  have hI0 := isI_kI (n := (i : Int) + 1) (by omega) (by omega)
  have hI : Hid (isI ⟨2, (i : Int) + 1, 1, ⟨#[]⟩, 0⟩ = true) := hid hI0.1
  have hkv : Hid (vok ⟨2, (i : Int) + 1, 1, ⟨#[]⟩, 0⟩ = true) := hid hI0.2
  have hvh := hid hv
  have hT := hid h
  have hbq : q ≤ 1000000 := by rw [← hq.out]; exact hb
  have hiq : i < q := by rw [← hq.out]; exact hi
  have t1 : decide ((1 : Int) ≤ (i : Int) + 1) = true := by simp; omega
  have t2 : decide ((i : Int) + 1 ≤ (q : Int)) = true := by simp; omega
  have hw1 : IntKind.i64.wrap ((i : Int) + 1 - 1) = (i : Int) := by rw [IntKind.wrap_i64]; omega
  have hw2 : IntKind.i64.wrap (i : Int) = (i : Int) := by rw [IntKind.wrap_i64]; omega
  clear h hI0 hv hb hi
  go_enter Try.func14, Try.ntmps14
  go_wp2_with fail
  refine (val_valid_eq2 hkv.out).mono ?_
  rintro e w1 ⟨rfl, hc1⟩
  have hB1 := hid (hB.out.none_ hc1)
  have hV1 := hid (hV.out.none_ hc1)
  have hC1 := hid (hC.out.trans_same hc1)
  obtain ⟨z0, z1, z2, z3, z4⟩ := V.box hV1.out
  have hzl := hV1.out.lt
  clear hc1 hB hV hC
  go_wp2_with fail
  refine (val_valid_eq2 hvh.out).mono ?_
  rintro e w2 ⟨rfl, hc2⟩
  have hB2 := hid (hB1.out.none_ hc2)
  have hV2 := hid (hV1.out.none_ hc2)
  have hC2 := hid (hC1.out.trans_same hc2)
  clear z0 z1 z2 z3 z4 hzl hc2 hB1 hV1 hC1
  obtain ⟨z0, z1, z2, z3, z4⟩ := V.box hB2.out
  have hzl := hB2.out.lt
  go_wp2_with fail
  refine (integer_any w2 ⟨2, (i : Int) + 1, 1, ⟨#[]⟩, 0⟩).mono ?_
  rw [hI.out]
  rintro e w3 ⟨rfl, hc3⟩
  have hV3 := hid (hV2.out.none_ hc3)
  have hC3 := hid (hC2.out.trans_same hc3)
  obtain ⟨av, c, vs, bm, n, D, hM', hlo', hn'⟩ := hT.out.none_ hC3.out
  obtain ⟨A, cap, rfl, -, -, hVs', h0, hfr⟩ := hM'.arr.form
  rw [hq.out] at hM' h0
  obtain ⟨g, rfl⟩ := h0 (by omega)
  rw [hq.out] at hlo'
  obtain ⟨b, o', e0, -, u0, u1, u2, u3, u4⟩ := Vs.at_ (rs := a) hVs' (i := i) (by rw [hq.out]; exact hiq)
  obtain ⟨rfl, rfl⟩ : g = b ∧ 0 = o' := by injection e0 with e0; injection e0 with e1 e2; exact ⟨e1, e2⟩
  clear e0 hVs'
  rw [Nat.zero_add] at u0 u1 u2 u3 u4
  obtain ⟨hgf, hgl⟩ := hfr g rfl
  have c0 : w3.cell? ⟨o, 0, none⟩ = some (.slice (some ⟨g, 0, none⟩) q cap) := hM'.blk.cell 0
  have hol := hM'.blk.lt
  have hS10 : Hid (w3.drew.cell? ⟨o, 0, none⟩ = some (.slice (some ⟨g, 0, none⟩) q cap) ∧ Bk w3.drew (w.heap.size + 1) 26 v.cs) := hid ⟨c0, hV3.out.drew⟩
  have hP := TabM.put hM' (i := i) (by rw [hq.out]; exact hiq) v
  have hT8' : Hid (Tab ((((((w3.setCell ⟨g, i * 5, none⟩ (.int .i64 v.k)).setCell ⟨g, i * 5 + 1, none⟩ (.int .i64 v.p)).setCell ⟨g, i * 5 + 2, none⟩ (.int .i64 v.q)).setCell ⟨g, i * 5 + 3, none⟩ (.string v.s)).setCell ⟨g, i * 5 + 4, none⟩ (.int .i64 v.r)).drew) S N o M (a.set i v) m ∧ Chg (fun k => S k ∨ N ≤ k) w ((((((w3.setCell ⟨g, i * 5, none⟩ (.int .i64 v.k)).setCell ⟨g, i * 5 + 1, none⟩ (.int .i64 v.p)).setCell ⟨g, i * 5 + 2, none⟩ (.int .i64 v.q)).setCell ⟨g, i * 5 + 3, none⟩ (.string v.s)).setCell ⟨g, i * 5 + 4, none⟩ (.int .i64 v.r)).drew)) :=
    hid ⟨⟨_, c, vs, bm, n, D, hP.1.none_ ((Chg.refl _ _).drew), hlo', hn'⟩, ((hC3.out.mono (T := fun k => S k ∨ N ≤ k) fun _ _ e => e.elim).trans (hP.2.mono (T := fun k => S k ∨ N ≤ k) fun k _ e => hlo' k (.inr (.inl (by rw [e]; rfl)))) fun _ _ e => e).drew⟩
  clear hP hM' hlo' hn' h0 hfr z0 z1 z2 z3 z4 hzl hc3 hB2 hV2 hC2 hT
  go_wp2_with fail
  refine wp_region_rc (id := 10) [.rd [0, 1, 2, 3, 4, 5, 6, 7]] [8] [] (fun w' => w'.cell? ⟨o, 0, none⟩ = some (.slice (some ⟨g, 0, none⟩) q cap) ∧ Bk w' (w.heap.size + 1) 26 v.cs) (by kernel_rfl) 86 rfl (by kernel_rfl) (fun _ _ _ _ _ h => h) hS10.out ?_
  refine steps_rdW ?_
  apply Exists.intro
  refine ⟨?_, ?_⟩
  focus
    rintro w' ⟨c0, hSb⟩
    obtain ⟨y0, y1, y2, y3, y4⟩ := V.box hSb
    clear hSb
    iterate 8 (refine stW_step rfl (fun K hK => ?_); go_simp; refine hK _ ?_; clear hK K)
    exact stW_nil rfl
  refine steps_nil (l := [⟨_, _, _, _, _, _⟩]) rfl (fun K2 hK2 => ?_)
  go_wp2_with fail
  refine hK2 _ _ rfl ?_
  clear hK2 K2
  refine stI_nil ?_
  generalize (((((w3.setCell ⟨g, i * 5, none⟩ (.int .i64 v.k)).setCell ⟨g, i * 5 + 1, none⟩ (.int .i64 v.p)).setCell ⟨g, i * 5 + 2, none⟩ (.int .i64 v.q)).setCell ⟨g, i * 5 + 3, none⟩ (.string v.s)).setCell ⟨g, i * 5 + 4, none⟩ (.int .i64 v.r)).drew = w8 at hT8' ⊢
  clear u0 u1 u2 u3 u4 c0 hol hgf hgl hS10 hV3 hC3
  have hl8 : Hid ((a.set i v).length = q) := hid (by rw [List.length_set]; exact hq.out)
  obtain ⟨A8, cap8, c8, c0, c1, -⟩ := hT8'.out.1.cells hl8.out
  have hol8 := hT8'.out.1.lt
  by_cases hiq1 : i + 1 = q
  · have e1 : ((i : Int) + 1 == (q : Int)) = true := by simp; omega
    have hif : Hid (a' = shrinkA (a.set i v)) := hid (by rw [← ha'.out]; exact if_pos (by rw [hq.out]; exact hiq1))
    clear c1 hiq1
    go_wp2_with fail
    refine (t_shrink hT8'.out.1 (by rw [hl8.out]; exact hbq)).mono ?_
    rintro e w9 ⟨rfl, hT9', hc9⟩
    have fin := hid (And.intro hT9' (hT8'.out.2.trans_same hc9))
    clear hT9' hc9 hT8'
    go_wp2_with fail
    go_ret
    exact ⟨rfl, by rw [hif.out]; exact fin.out.1, fin.out.2⟩
  · have e1 : ((i : Int) + 1 == (q : Int)) = false := by simp; omega
    have hif : Hid (a' = a.set i v) := hid (by rw [← ha'.out]; exact if_neg (by rw [hq.out]; exact hiq1))
    clear c1 hiq1
    go_wp2_with fail
    go_ret
    exact ⟨rfl, by rw [hif.out]; exact hT8'.out.1, hT8'.out.2⟩
end
end Go.Proofs.Ytoelgnjnbelokaa
