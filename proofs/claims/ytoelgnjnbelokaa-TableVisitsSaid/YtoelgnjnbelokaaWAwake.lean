/-
  The examples of the chapter, as the laws check them.
-/
import Derived.Test.YtoelgnjnbelokaaTAw
namespace Go.Proofs.Ytoelgnjnbelokaa
open Go.RowKit Go.Maps

theorem num_k (w : World) (n : Int) : Calls Try.prog 22 #[.int .i64 n] w fun e w' => e = .returned (.agg #[.int .i64 2, .int .i64 n, .int .i64 1, .string ⟨#[]⟩, .int .i64 0]) ∧ Chg (fun _ => False) w w' := t_num w n
theorem str_k (w : World) (s : ByteArray) : Calls Try.prog 24 #[.string s] w fun e w' => e = .returned (.agg #[.int .i64 3, .int .i64 0, .int .i64 0, .string s, .int .i64 0]) ∧ Chg (fun _ => False) w w' := t_str w s
theorem aw_x {w : World} {S : Nat → Prop} {N o M : Nat} {a : List V} {m : List Sl} (h : Tab w S N o M a m) (hb : a.length ≤ 1000000) {n : Int} (hn : -2147483647 ≤ n ∧ n ≤ 2147483647) {s : ByteArray} (hx : getT a m (kI n) = kS s) : Calls Try.prog 13 #[.pointer (some ⟨o, 0, none⟩), .agg #[.int .i64 2, .int .i64 n, .int .i64 1, .string ⟨#[]⟩, .int .i64 0]] w fun e w' => e = .returned (.agg #[.int .i64 3, .int .i64 0, .int .i64 0, .string s, .int .i64 0]) ∧ Chg (fun _ => False) w w' := t_get h hb (kI_wf hn.1 hn.2) hx
theorem aw_rem {w : World} {S : Nat → Prop} {N o M : Nat} (h : Tab w S N o M [cA, cX, cB, cC] []) (hN : N ≤ w.heap.size) : Calls Try.prog 12 #[.pointer (some ⟨o, 0, none⟩), .int .i64 1] w fun e w' => e = .returned (.tuple #[.agg #[.int .i64 3, .int .i64 0, .int .i64 0, .string ⟨#[97]⟩, .int .i64 0], .int .i64 0]) ∧ Tab w' S N o M [cX, cB, cC] [] ∧ Chg (fun k => S k ∨ N ≤ k) w w' :=
  (t_remove h hN (by simp) (i := 0) (by simp) aw7.1).mono fun _ _ ⟨h1, h2, h3⟩ => ⟨h1, by rw [aw7.2] at h2; exact h2, h3⟩
theorem aw_next {w : World} {S : Nat → Prop} {N o M : Nat} (h : Tab w S N o M [cX, cB, cC] []) : Calls Try.prog 11 #[.pointer (some ⟨o, 0, none⟩), .agg #[.int .i64 0, .int .i64 0, .int .i64 0, .string ⟨#[]⟩, .int .i64 0]] w fun e w' => e = .returned (.tuple #[.agg #[.int .i64 2, .int .i64 1, .int .i64 1, .string ⟨#[]⟩, .int .i64 0], .agg #[.int .i64 3, .int .i64 0, .int .i64 0, .string ⟨#[120]⟩, .int .i64 0], .bool true, .int .i64 0]) ∧ Chg (fun _ => False) w w' := t_next h (by simp) zero_wf aw8
theorem aw_ins {w : World} {S : Nat → Prop} {N o M : Nat} (h : Tab w S N o M [cA, cB, cC] []) (hN : N ≤ w.heap.size) : Calls Try.prog 15 #[.pointer (some ⟨o, 0, none⟩), .int .i64 2, .agg #[.int .i64 3, .int .i64 0, .int .i64 0, .string ⟨#[120]⟩, .int .i64 0]] w fun e w' => e = .returned (.int .i64 0) ∧ Tab w' S N o (M + 400000) [cA, cX, cB, cC] [] ∧ Chg (fun k => S k ∨ N ≤ k) w w' :=
  (t_insert_mid h hN (by simp) (by simp) (i := 1) (by simp) (v := cX) awv.1 (by decide +kernel)).mono fun _ _ ⟨h1, ⟨a', m', h2, h3⟩, h4⟩ => ⟨h1, by obtain ⟨rfl, rfl⟩ := aw4 h2; exact h3, h4⟩
theorem aw_set {w : World} {S : Nat → Prop} {N o M : Nat} {a : List V} {m : List Sl} (h : Tab w S N o M a m) (hN : N ≤ w.heap.size) (hb : a.length + m.length ≤ 300) (hM : M ≤ 100000000) {n : Int} (hn : -2147483647 ≤ n ∧ n ≤ 2147483647) {s : ByteArray} {a2 : List V} {m2 : List Sl} (hr : ∀ e a' m', SetR a m (kI n) (kS s) e a' m' → e = 0 ∧ a' = a2 ∧ m' = m2) : Calls Try.prog 14 #[.pointer (some ⟨o, 0, none⟩), .agg #[.int .i64 2, .int .i64 n, .int .i64 1, .string ⟨#[]⟩, .int .i64 0], .agg #[.int .i64 3, .int .i64 0, .int .i64 0, .string s, .int .i64 0]] w fun e w' => e = .returned (.int .i64 0) ∧ Tab w' S N o (M + 400000) a2 m2 ∧ Chg (fun k => S k ∨ N ≤ k) w w' :=
  (t_set h hN (by omega) (by omega) hM (k := kI n) (v := kS s) (kI_wf hn.1 hn.2)).mono fun _ _ ⟨x, a', m', h1, h2, h3, h4⟩ => by obtain ⟨rfl, rfl, rfl⟩ := hr _ _ _ h2; exact ⟨h1, h3, h4⟩
theorem aw_bad (w : World) (c : Nat) (n : Int) : Calls Try.prog 14 #[.pointer (some ⟨c, 0, none⟩), .agg #[.int .i64 0, .int .i64 0, .int .i64 0, .string ⟨#[]⟩, .int .i64 0], .agg #[.int .i64 2, .int .i64 n, .int .i64 1, .string ⟨#[]⟩, .int .i64 0]] w fun e w' => e = .returned (.int .i64 13) ∧ Chg (fun _ => False) w w' := t_set_bad w c V.zero (kI n) (.inl ⟨.inl rfl, rfl⟩)
set_option maxRecDepth 100000 in
set_option maxHeartbeats 8000000 in
theorem awake_true (w : World) : Calls Try.prog 10 #[] w fun e w' => e = .returned (.bool true) ∧ Chg (fun _ => False) w w' := by
  go_enter Try.func10, Try.ntmps10
  go_wp2_with fail
  refine (t_new w).mono ?_
  rintro e w1 ⟨o, rfl, hO', hc1⟩
  have hO1 := hid hO'
  have hC1 := hid hc1
  clear hO' hc1
  go_wp2_with fail
  refine (num_k w1 3).mono ?_
  rintro e w2 ⟨rfl, hc⟩
  have hO2 := hid (hO1.out.none_ hc)
  have hC2 := hid (hC1.out.trans_same hc)
  clear hc hO1 hC1
  go_wp2_with fail
  refine (str_k w2 _).mono ?_
  rintro e w3 ⟨rfl, hc⟩
  have hO3 := hid (hO2.out.none_ hc)
  have hC3 := hid (hC2.out.trans_same hc)
  clear hc hO2 hC2
  go_wp2_with fail
  refine (aw_set hO3.out hC3.out.size (by simp) (by omega) (by omega) (fun _ _ _ => aw1')).mono ?_
  rintro e w4 ⟨rfl, hO', hc⟩
  have hO4 := hid hO'
  have hC4 := hid (chg_new hC3.out hc (fun _ h => h.elim) (Nat.le_refl _))
  clear hO' hc hO3 hC3
  go_wp2_with fail
  refine (num_k w4 1).mono ?_
  rintro e w5 ⟨rfl, hc⟩
  have hO5 := hid (hO4.out.none_ hc)
  have hC5 := hid (hC4.out.trans_same hc)
  clear hc hO4 hC4
  go_wp2_with fail
  refine (str_k w5 _).mono ?_
  rintro e w6 ⟨rfl, hc⟩
  have hO6 := hid (hO5.out.none_ hc)
  have hC6 := hid (hC5.out.trans_same hc)
  clear hc hO5 hC5
  go_wp2_with fail
  refine (aw_set hO6.out hC6.out.size (by simp [m1]) (by omega) (by omega) (fun _ _ _ => aw2)).mono ?_
  rintro e w7 ⟨rfl, hO', hc⟩
  have hO7 := hid hO'
  have hC7 := hid (chg_new hC6.out hc (fun _ h => h.elim) (Nat.le_refl _))
  clear hO' hc hO6 hC6
  go_wp2_with fail
  refine (t_array hO7.out (q := 1) rfl).mono ?_
  rintro e w' ⟨rfl, hw⟩
  subst hw
  go_wp2_with fail
  refine (num_k w7 2).mono ?_
  rintro e w8 ⟨rfl, hc⟩
  have hO8 := hid (hO7.out.none_ hc)
  have hC8 := hid (hC7.out.trans_same hc)
  clear hc hO7 hC7
  go_wp2_with fail
  refine (str_k w8 _).mono ?_
  rintro e w9 ⟨rfl, hc⟩
  have hO9 := hid (hO8.out.none_ hc)
  have hC9 := hid (hC8.out.trans_same hc)
  clear hc hO8 hC8
  go_wp2_with fail
  refine (aw_set hO9.out hC9.out.size (by simp [m1]) (by omega) (by omega) (fun _ _ _ => aw3)).mono ?_
  rintro e w10 ⟨rfl, hO', hc⟩
  have hO10 := hid hO'
  have hC10 := hid (chg_new hC9.out hc (fun _ h => h.elim) (Nat.le_refl _))
  clear hO' hc hO9 hC9
  go_wp2_with fail
  refine (t_array hO10.out (q := 3) rfl).mono ?_
  rintro e w' ⟨rfl, hw⟩
  subst hw
  go_wp2_with fail
  refine (t_size hO10.out (q := 3) (s := 0) rfl rfl (by omega)).mono ?_
  rintro e w11 ⟨rfl, hc⟩
  have hO11 := hid (hO10.out.none_ hc)
  have hC11 := hid (hC10.out.trans_same hc)
  clear hc hO10 hC10
  go_wp2_with fail
  refine (t_count hO11.out (by simp) (x := 3) aw9).mono ?_
  rintro e w12 ⟨rfl, hc⟩
  have hO12 := hid (hO11.out.none_ hc)
  have hC12 := hid (hC11.out.trans_same hc)
  clear hc hO11 hC11
  go_wp2_with fail
  refine (str_k w12 _).mono ?_
  rintro e w13 ⟨rfl, hc⟩
  have hO13 := hid (hO12.out.none_ hc)
  have hC13 := hid (hC12.out.trans_same hc)
  clear hc hO12 hC12
  go_wp2_with fail
  refine (aw_ins hO13.out hC13.out.size).mono ?_
  rintro e w14 ⟨rfl, hO', hc⟩
  have hO14 := hid hO'
  have hC14 := hid (chg_new hC13.out hc (fun _ h => h.elim) (Nat.le_refl _))
  clear hO' hc hO13 hC13
  go_wp2_with fail
  refine (num_k w14 2).mono ?_
  rintro e w15 ⟨rfl, hc⟩
  have hO15 := hid (hO14.out.none_ hc)
  have hC15 := hid (hC14.out.trans_same hc)
  clear hc hO14 hC14
  go_wp2_with fail
  refine (aw_x hO15.out (by simp) (by omega) (s := ⟨#[120]⟩) aw5).mono ?_
  rintro e w16 ⟨rfl, hc⟩
  have hO16 := hid (hO15.out.none_ hc)
  have hC16 := hid (hC15.out.trans_same hc)
  clear hc hO15 hC15
  go_wp2_with fail
  refine (str_k w16 _).mono ?_
  rintro e w17 ⟨rfl, hc⟩
  have hO17 := hid (hO16.out.none_ hc)
  have hC17 := hid (hC16.out.trans_same hc)
  clear hc hO16 hC16
  go_wp2_with fail
  refine (num_k w17 4).mono ?_
  rintro e w18 ⟨rfl, hc⟩
  have hO18 := hid (hO17.out.none_ hc)
  have hC18 := hid (hC17.out.trans_same hc)
  clear hc hO17 hC17
  go_wp2_with fail
  refine (aw_x hO18.out (by simp) (by omega) (s := ⟨#[99]⟩) aw6).mono ?_
  rintro e w19 ⟨rfl, hc⟩
  have hO19 := hid (hO18.out.none_ hc)
  have hC19 := hid (hC18.out.trans_same hc)
  clear hc hO18 hC18
  go_wp2_with fail
  refine (str_k w19 _).mono ?_
  rintro e w20 ⟨rfl, hc⟩
  have hO20 := hid (hO19.out.none_ hc)
  have hC20 := hid (hC19.out.trans_same hc)
  clear hc hO19 hC19
  go_wp2_with fail
  refine (aw_rem hO20.out hC20.out.size).mono ?_
  rintro e w21 ⟨rfl, hO', hc⟩
  have hO21 := hid hO'
  have hC21 := hid (chg_new hC20.out hc (fun _ h => h.elim) (Nat.le_refl _))
  clear hO' hc hO20 hC20
  have hO21a := hid (hO21.out.none_ ((Chg.refl (fun _ => False) w21).alloc (.cells cA.cs.toArray 26)))
  have hC21a := hid (hC21.out.alloc (.cells cA.cs.toArray 26))
  have hBa := hid (Bk.new w21 26 cA.cs)
  clear hO21 hC21
  go_wp2_with fail
  refine (aw_next hO21a.out).mono ?_
  rintro e w22 ⟨rfl, hc⟩
  have hO22 := hid ((hO21a.out.none_ hc).none_ ((((Chg.refl (fun _ => False) w22).alloc (.cells (kI 1).cs.toArray 26)).alloc (.cells cX.cs.toArray 26)).drew))
  have hC22 := hid ((((hC21a.out.trans_same hc).alloc (.cells (kI 1).cs.toArray 26)).alloc (.cells cX.cs.toArray 26)).drew)
  have hB22 := hid ((((hBa.out.none_ hc).alloc (.cells (kI 1).cs.toArray 26)).alloc (.cells cX.cs.toArray 26)).drew)
  have hD22 := hid (((Bk.new w22 26 (kI 1).cs).alloc (.cells cX.cs.toArray 26)).drew)
  have hE22 := hid ((Bk.new_at (w22.alloc (.cells (kI 1).cs.toArray 26)) 26 cX.cs.toArray (w22.heap.size + 1) (by simp)).drew)
  clear hc hO21a hC21a hBa
  go_wp2_with fail
  refine wp_region_rc (id := 8) [.rd [0], .act 1, .rd [2, 3, 4, 5, 6, 7, 8], .act 9, .rd [10, 11, 12, 13], .act 14, .wl [15, 16, 17, 18, 19, 20, 21, 22, 23, 24, 25], .act 26, .wl [27, 28, 29, 30, 31]] [32, 33, 34, 35, 36] [] (fun w' => Bk w' w21.heap.size 26 cA.cs ∧ Bk w' w22.heap.size 26 (kI 1).cs ∧ Bk w' (w22.heap.size + 1) 26 cX.cs) (by kernel_rfl) 119 rfl (by kernel_rfl) (fun _ _ _ _ _ h => h) ⟨hB22.out, hD22.out, hE22.out⟩ ?_
  refine steps_rdW ?_
  apply Exists.intro
  refine ⟨?_, ?_⟩
  focus
    rintro w' ⟨hS, hSb, hSc⟩
    obtain ⟨p0, p1, p2, p3, p4⟩ := V.box hS
    simp only [cA, kS] at p0 p1 p2 p3 p4
    clear hS hSb hSc
    iterate 1 (refine stW_step rfl (fun K hK => ?_); go_simp; refine hK _ ?_; clear hK K)
    exact stW_nil rfl
  refine steps_act (o := ⟨_, _, _, _, _, _⟩) rfl (fun K2 hK2 => ?_)
  go_wp2_with fail
  refine (str_k _ _).mono ?_
  rintro e wg ⟨rfl, hcg⟩
  have hSg := hid (show Bk wg w21.heap.size 26 cA.cs ∧ Bk wg w22.heap.size 26 (kI 1).cs ∧ Bk wg (w22.heap.size + 1) 26 cX.cs from ⟨hB22.out.none_ hcg, hD22.out.none_ hcg, hE22.out.none_ hcg⟩)
  have hOg := hid (hO22.out.none_ hcg)
  have hCg := hid (hC22.out.trans_same hcg)
  clear hcg hB22 hD22 hE22 hO22 hC22
  go_wp2
  refine hK2 _ _ hSg.out rfl ?_
  clear hK2 K2
  refine steps_rdW ?_
  apply Exists.intro
  refine ⟨?_, ?_⟩
  focus
    rintro w' ⟨hS, hSb, hSc⟩
    obtain ⟨p0, p1, p2, p3, p4⟩ := V.box hSb
    simp only [kI] at p0 p1 p2 p3 p4
    clear hS hSb hSc
    iterate 7 (refine stW_step rfl (fun K hK => ?_); go_simp; refine hK _ ?_; clear hK K)
    exact stW_nil rfl
  refine steps_act (o := ⟨_, _, _, _, _, _⟩) rfl (fun K2 hK2 => ?_)
  go_wp2_with fail
  refine (num_k _ 1).mono ?_
  rintro e wh ⟨rfl, hcg⟩
  have hSh := hid (show Bk wh w21.heap.size 26 cA.cs ∧ Bk wh w22.heap.size 26 (kI 1).cs ∧ Bk wh (w22.heap.size + 1) 26 cX.cs from ⟨hSg.out.1.none_ hcg, hSg.out.2.1.none_ hcg, hSg.out.2.2.none_ hcg⟩)
  have hOh := hid (hOg.out.none_ hcg)
  have hCh := hid (hCg.out.trans_same hcg)
  clear hcg hSg hOg hCg
  go_wp2
  refine hK2 _ _ hSh.out rfl ?_
  clear hK2 K2
  refine steps_rdW ?_
  apply Exists.intro
  refine ⟨?_, ?_⟩
  focus
    rintro w' ⟨hS, hSb, hSc⟩
    obtain ⟨p0, p1, p2, p3, p4⟩ := V.box hSc
    simp only [cX, kS] at p0 p1 p2 p3 p4
    clear hS hSb hSc
    iterate 4 (refine stW_step rfl (fun K hK => ?_); go_simp; refine hK _ ?_; clear hK K)
    exact stW_nil rfl
  refine steps_act (o := ⟨_, _, _, _, _, _⟩) rfl (fun K2 hK2 => ?_)
  go_wp2_with fail
  refine (str_k _ _).mono ?_
  rintro e wi ⟨rfl, hcg⟩
  have hSi := hid (show Bk wi w21.heap.size 26 cA.cs ∧ Bk wi w22.heap.size 26 (kI 1).cs ∧ Bk wi (w22.heap.size + 1) 26 cX.cs from ⟨hSh.out.1.none_ hcg, hSh.out.2.1.none_ hcg, hSh.out.2.2.none_ hcg⟩)
  have hOi := hid (hOh.out.none_ hcg)
  have hCi := hid (hCh.out.trans_same hcg)
  clear hcg hSh hOh hCh
  go_wp2
  refine hK2 _ _ hSi.out rfl ?_
  clear hK2 K2
  refine steps_wlW ?_
  apply Exists.intro
  refine ⟨?_, ?_⟩
  focus
    intro w'
    iterate 11 (refine stW_step rfl (fun K hK => ?_); go_simp; refine hK _ ?_; clear hK K)
    exact stW_nil rfl
  refine steps_act (o := ⟨_, _, _, _, _, _⟩) rfl (fun K2 hK2 => ?_)
  go_wp2_with fail
  refine (t_len hOi.out (q := 3) rfl).mono ?_
  rintro e wj ⟨rfl, hw⟩
  subst hw
  go_wp2
  refine hK2 _ _ hSi.out rfl ?_
  clear hK2 K2
  refine steps_wlW ?_
  apply Exists.intro
  refine ⟨?_, ?_⟩
  focus
    intro w'
    iterate 5 (refine stW_step rfl (fun K hK => ?_); go_simp; refine hK _ ?_; clear hK K)
    exact stW_nil rfl
  refine steps_nil (l := [⟨_, _, _, _, _, _⟩, ⟨_, _, _, _, _, _⟩, ⟨_, _, _, _, _, _⟩, ⟨_, _, _, _, _, _⟩, ⟨_, _, _, _, _, _⟩]) rfl (fun K2 hK2 => ?_)
  go_wp2_with fail
  refine (num_k _ 1).mono ?_
  rintro e wk ⟨rfl, hcg⟩
  have hCk := hid (hCi.out.trans_same hcg)
  clear hcg hSi hOi hCi
  go_wp2_with fail
  refine (aw_bad _ _ 1).mono ?_
  rintro e wl ⟨rfl, hcg⟩
  have hCl := hid (hCk.out.trans_same hcg)
  clear hcg hCk
  go_wp2
  refine hK2 _ _ rfl ?_
  clear hK2 K2
  refine stI_nil ?_
  go_wp2
  go_ret
  exact ⟨rfl, hCl.out⟩
end Go.Proofs.Ytoelgnjnbelokaa
