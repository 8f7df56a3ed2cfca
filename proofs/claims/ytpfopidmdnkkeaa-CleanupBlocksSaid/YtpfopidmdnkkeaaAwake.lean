/-
  The examples of the chapter, as the laws check them.
-/
import Derived.Test.YtpfopidmdnkkeaaMade
namespace Go.Proofs.Ytpfopidmdnkkeaa
open Go.RowKit Go.Maps

section
variable {w w' w1 : World} {S : Nat → Prop} {N o M : Nat} {es : List En} {fl : Option Fl}
theorem One.fix (h : One w S N o M es fl) : ∃ S', (∀ k, S' k → k < w.heap.size ∧ (S k ∨ N ≤ k)) ∧ ∀ w2 N2, Chg (fun _ => False) w w2 → One w2 S' N2 o M es fl := by
  obtain ⟨ve, bm, vf, tv, n, D, h1, h2, h3⟩ := h
  exact ⟨ownF o ve bm vf tv, fun k hk => ⟨h1.lt hk, h2 k hk⟩, fun w2 N2 hc => ⟨ve, bm, vf, tv, n, D, h1.none_ hc, fun k hk => .inl hk, h3⟩⟩
theorem chg_new (h : Chg (fun _ => False) w w1) (hc : Chg (fun k => S k ∨ N ≤ k) w1 w') (hS : ∀ k, S k → w.heap.size ≤ k) (hN : w.heap.size ≤ N) : Chg (fun _ => False) w w' :=
  h.trans hc fun k hk e => by
    rcases e with e | e
    · have := hS k e; omega
    · omega
end
def nv (n : Int) : V := ⟨2, n, 1, ⟨#[]⟩, 0⟩
def bv : V := ⟨1, 0, 0, ⟨#[]⟩, 0⟩
theorem aw1 : push [] 3 (nv 1) = (0, [⟨3, nv 1⟩]) := by decide +kernel
theorem aw2 : push [⟨3, nv 1⟩] 3 (nv 2) = (16, [⟨3, nv 1⟩]) := by decide +kernel
theorem aw3 : push [⟨3, nv 1⟩] 2 bv = (0, [⟨3, nv 1⟩]) := by decide +kernel
theorem aw4 : push [⟨3, nv 1⟩] 5 (nv 2) = (0, [⟨3, nv 1⟩, ⟨5, nv 2⟩]) := by decide +kernel
theorem aw5 : pop [⟨3, nv 1⟩, ⟨5, nv 2⟩] 4 = (nv 2, true, [⟨3, nv 1⟩]) := by decide +kernel
theorem aw6 : pop [⟨3, nv 1⟩] 4 = (V.zero, false, [⟨3, nv 1⟩]) := by decide +kernel
theorem num_nv (w : World) (n : Int) : Calls Try.prog 28 #[.int .i64 n] w fun e w' => e = .returned (.agg #[.int .i64 2, .int .i64 n, .int .i64 1, .string ⟨#[]⟩, .int .i64 0]) ∧ Chg (fun _ => False) w w' := num_any w n
set_option maxRecDepth 100000 in
set_option maxHeartbeats 8000000 in
theorem awake_true (w : World) : Calls Try.prog 19 #[] w fun e w' => e = .returned (.bool true) ∧ Chg (fun _ => False) w w' := by
  go_enter Try.func19, Try.ntmps19
  go_wp2_with fail
  refine (own_new_one w).mono ?_
  rintro e w1 ⟨o, rfl, hO', hc1⟩
  have hO1 := hid hO'
  have hC1 := hid hc1
  clear hO' hc1
  go_wp2_with fail
  refine (num_nv w1 1).mono ?_
  rintro e w2 ⟨rfl, hc2⟩
  have hO2 := hid (hO1.out.none_ hc2)
  have hC2 := hid (hC1.out.trans_same hc2)
  clear hc2 hO1 hC1
  go_wp2_with fail
  refine (o_push hO2.out hC2.out.size (by simp) (by omega) 3 (nv 1) aw1).mono ?_
  rintro e w3 ⟨rfl, hO', hc3⟩
  have hO3 := hid hO'
  have hC3 := hid (chg_new hC2.out hc3 (fun _ h => h.elim) (Nat.le_refl _))
  clear hO' hc3 hO2 hC2
  go_wp2_with fail
  refine (num_nv w3 2).mono ?_
  rintro e w4 ⟨rfl, hc4⟩
  have hO4 := hid (hO3.out.none_ hc4)
  have hC4 := hid (hC3.out.trans_same hc4)
  clear hc4 hO3 hC3
  go_wp2_with fail
  refine (o_push hO4.out hC4.out.size (by simp) (by omega) 3 (nv 2) aw2).mono ?_
  rintro e w5 ⟨rfl, hO', hc5⟩
  have hO5 := hid hO'
  have hC5 := hid (chg_new hC4.out hc5 (fun _ h => h.elim) (Nat.le_refl _))
  clear hO' hc5 hO4 hC4
  go_wp2_with fail
  refine (o_push hO5.out hC5.out.size (by simp) (by omega) 2 bv aw3).mono ?_
  rintro e w6 ⟨rfl, hO', hc6⟩
  have hO6 := hid hO'
  have hC6 := hid (chg_new hC5.out hc6 (fun _ h => h.elim) (Nat.le_refl _))
  clear hO' hc6 hO5 hC5
  go_wp2_with fail
  refine (num_nv w6 2).mono ?_
  rintro e w7 ⟨rfl, hc7⟩
  have hO7 := hid (hO6.out.none_ hc7)
  have hC7 := hid (hC6.out.trans_same hc7)
  clear hc7 hO6 hC6
  go_wp2_with fail
  refine (o_push hO7.out hC7.out.size (by simp) (by omega) 5 (nv 2) aw4).mono ?_
  rintro e w8 ⟨rfl, hO', hc8⟩
  have hO8 := hid hO'
  have hC8 := hid (chg_new hC7.out hc8 (fun _ h => h.elim) (Nat.le_refl _))
  clear hO' hc8 hO7 hC7
  go_wp2_with fail
  refine (o_len hO8.out (n := 2) rfl).mono ?_
  rintro e w9 ⟨rfl, rfl⟩
  go_wp2_with fail
  refine (o_pop hO8.out hC8.out.size (by simp) 4 aw5).mono ?_
  rintro e wa ⟨rfl, hO', hca⟩
  have hCa := hid (chg_new hC8.out hca (fun _ h => h.elim) (Nat.le_refl _))
  obtain ⟨S, hS', hfix⟩ := hO'.fix
  have hza : w.heap.size ≤ wa.heap.size := hCa.out.size
  have hOa := hid (hfix (wa.alloc (.cells (nv 2).cs.toArray 25)) (wa.heap.size + 1) ((Chg.refl _ wa).alloc _))
  have hS : Hid (∀ k, S k → w.heap.size ≤ k) := hid fun k hk => (hS' k hk).2.elim False.elim id
  have hnS : Hid (¬ S wa.heap.size) := hid fun e => by have := (hS' _ e).1; omega
  have hBa := hid (Bk.new wa 25 (nv 2).cs)
  have hCb := hid (hCa.out.alloc (.cells (nv 2).cs.toArray 25))
  clear hO' hca hO8 hC8 hS' hfix hCa
  go_wp2_with fail
  refine (o_pop hOa.out (by simp) (by simp) 4 aw6).mono ?_
  rintro e wc ⟨rfl, hO', hcc⟩
  have hBc := hid ((hBa.out.twoChg hcc hnS.out (by omega)).alloc (.cells V.zero.cs.toArray 25))
  have hOc := hid (hO'.none_ ((Chg.refl (fun _ => False) wc).alloc (.cells V.zero.cs.toArray 25)))
  have hCc := hid ((chg_new hCb.out hcc hS.out (by omega)).alloc (.cells V.zero.cs.toArray 25))
  clear hO' hcc hOa hBa hCb
  go_wp2_with fail
  refine (num_nv _ 7).mono ?_
  rintro e wd ⟨rfl, hcd⟩
  have hBd := hid (hBc.out.none_ hcd)
  have hOd := hid (hOc.out.none_ hcd)
  have hCd := hid (hCc.out.trans_same hcd)
  have hzd : wa.heap.size < wd.heap.size := hBd.out.lt
  clear hcd hOc hBc hCc
  go_wp2_with fail
  refine (o_fail hOd.out (by omega) (nv 7) none [] 0 ⟨rfl, fun h => absurd h (by simp)⟩ (by simp)).mono ?_
  rintro e we ⟨rfl, hO', hce⟩
  have hBe := hid (hBd.out.twoChg hce hnS.out (by omega))
  have hOe := hid hO'
  have hCe := hid (chg_new hCd.out hce hS.out (by omega))
  clear hO' hce hOd hBd hCd
  go_wp2_with fail
  refine (o_failure hOe.out (x := nv 7) (b := true) (l := []) rfl rfl rfl (by simp)).mono ?_
  rintro e wf ⟨A1, k1, rfl, -, hcf⟩
  have hBf := hid (((hBe.out.none_ hcf).alloc (.cells #[.int .i64 ((nv 7)).k, .int .i64 ((nv 7)).p, .int .i64 ((nv 7)).q, .string ((nv 7)).s, .int .i64 ((nv 7)).r, .slice A1 0 k1] 30)).drew)
  have hOf := hid (((hOe.out.none_ hcf).none_ ((Chg.refl (fun _ => False) wf).alloc (.cells #[.int .i64 ((nv 7)).k, .int .i64 ((nv 7)).p, .int .i64 ((nv 7)).q, .string ((nv 7)).s, .int .i64 ((nv 7)).r, .slice A1 0 k1] 30))).none_ ((Chg.refl (fun _ => False) _).drew))
  have hCf := hid ((((hCe.out.trans_same hcf).alloc (.cells #[.int .i64 ((nv 7)).k, .int .i64 ((nv 7)).p, .int .i64 ((nv 7)).q, .string ((nv 7)).s, .int .i64 ((nv 7)).r, .slice A1 0 k1] 30))).drew)
  have hGf := hid ((Bk.new wf 30 [.int .i64 ((nv 7)).k, .int .i64 ((nv 7)).p, .int .i64 ((nv 7)).q, .string ((nv 7)).s, .int .i64 ((nv 7)).r, .slice A1 0 k1]).drew)
  clear hcf hOe hBe hCe
  go_wp2_with fail
  refine wp_region_rc (id := 8) [.rd [0], .act 1, .rd [2, 3, 4, 5, 6, 7, 8, 9, 10, 11, 12, 13, 14, 15], .act 16, .wl [17, 18, 19, 20]] [21, 22, 23, 24, 25, 26, 27, 28, 29, 30, 31, 32, 33, 34, 35] [] (fun w' => Bk w' wa.heap.size 25 (nv 2).cs ∧ Bk w' wf.heap.size 30 [.int .i64 ((nv 7)).k, .int .i64 ((nv 7)).p, .int .i64 ((nv 7)).q, .string ((nv 7)).s, .int .i64 ((nv 7)).r, .slice A1 0 k1]) (by kernel_rfl) 94 rfl (by kernel_rfl) (fun _ _ _ _ _ h => h) ⟨hBf.out, hGf.out⟩ ?_
  refine steps_rdW ?_
  apply Exists.intro
  refine ⟨?_, ?_⟩
  focus
    rintro w' ⟨hS, hSb⟩
    obtain ⟨p0, p1, p2, p3, p4⟩ := V.box hS
    simp only [nv] at p0 p1 p2 p3 p4
    clear hS hSb
    iterate 1 (refine stW_step rfl (fun K hK => ?_); go_simp; refine hK _ ?_; clear hK K)
    exact stW_nil rfl
  refine steps_act (o := ⟨_, _, _, _, _, _⟩) rfl (fun K2 hK2 => ?_)
  go_wp2_with fail
  refine (num_nv _ 2).mono ?_
  rintro e wg ⟨rfl, hcg⟩
  have hBg := hid (show Bk wg wa.heap.size 25 (nv 2).cs ∧ Bk wg wf.heap.size 30 [.int .i64 ((nv 7)).k, .int .i64 ((nv 7)).p, .int .i64 ((nv 7)).q, .string ((nv 7)).s, .int .i64 ((nv 7)).r, .slice A1 0 k1] from ⟨hBf.out.none_ hcg, hGf.out.none_ hcg⟩)
  have hOg := hid (hOf.out.none_ hcg)
  have hCg := hid (hCf.out.trans_same hcg)
  clear hcg hBf hGf hOf hCf
  go_wp2
  refine hK2 _ _ hBg.out rfl ?_
  clear hK2 K2
  refine steps_rdW ?_
  apply Exists.intro
  refine ⟨?_, ?_⟩
  focus
    rintro w' ⟨hS, hSb⟩
    obtain ⟨p0, p1, p2, p3, p4, p5⟩ := FB.box hSb
    simp only [nv] at p0 p1 p2 p3 p4
    clear hS hSb
    iterate 14 (refine stW_step rfl (fun K hK => ?_); go_simp; refine hK _ ?_; clear hK K)
    exact stW_nil rfl
  refine steps_act (o := ⟨_, _, _, _, _, _⟩) rfl (fun K2 hK2 => ?_)
  go_wp2_with fail
  refine (num_nv _ 7).mono ?_
  rintro e wh ⟨rfl, hch⟩
  have hBh := hid (show Bk wh wa.heap.size 25 (nv 2).cs ∧ Bk wh wf.heap.size 30 [.int .i64 ((nv 7)).k, .int .i64 ((nv 7)).p, .int .i64 ((nv 7)).q, .string ((nv 7)).s, .int .i64 ((nv 7)).r, .slice A1 0 k1] from ⟨hBg.out.1.none_ hch, hBg.out.2.none_ hch⟩)
  have hOh := hid (hOg.out.none_ hch)
  have hCh := hid (hCg.out.trans_same hch)
  clear hch hBg hOg hCg
  go_wp2
  refine hK2 _ _ hBh.out rfl ?_
  clear hK2 K2
  refine steps_wlW ?_
  apply Exists.intro
  refine ⟨?_, ?_⟩
  focus
    intro w'
    iterate 4 (refine stW_step rfl (fun K hK => ?_); go_simp; refine hK _ ?_; clear hK K)
    exact stW_nil rfl
  refine steps_nil (l := [⟨_, _, _, _, _, _⟩, ⟨_, _, _, _, _, _⟩, ⟨_, _, _, _, _, _⟩, ⟨_, _, _, _, _, _⟩, ⟨_, _, _, _, _, _⟩, ⟨_, _, _, _, _, _⟩, ⟨_, _, _, _, _, _⟩, ⟨_, _, _, _, _, _⟩, ⟨_, _, _, _, _, _⟩, ⟨_, _, _, _, _, _⟩, ⟨_, _, _, _, _, _⟩, ⟨_, _, _, _, _, _⟩, ⟨_, _, _, _, _, _⟩, ⟨_, _, _, _, _, _⟩, ⟨_, _, _, _, _, _⟩]) rfl (fun K2 hK2 => ?_)
  go_wp2_with fail
  refine (num_nv _ 9).mono ?_
  rintro e wi ⟨rfl, hci⟩
  have hOi := hid (hOh.out.none_ hci)
  have hCi := hid (hCh.out.trans_same hci)
  clear hci hBh hOh hCh
  go_wp2_with fail
  refine (o_args hOi.out (nv 9) (x := nv 7) rfl).mono ?_
  rintro e wj ⟨A2, k2, rfl, hR', hcj⟩
  have hRj := hid hR'
  have hOj := hid (hOi.out.none_ hcj)
  have hCj := hid (hCi.out.trans_same hcj)
  clear hcj hR' hOi hCi
  go_wp2_with fail
  refine (num_nv _ 9).mono ?_
  rintro e wk ⟨rfl, hck⟩
  have hRk := hid (hRj.out.none_ hck)
  have hOk := hid (hOj.out.none_ hck)
  have hCk := hid (hCj.out.trans_same hck)
  clear hck hRj hOj hCj
  go_wp2_with fail
  refine (num_nv _ 7).mono ?_
  rintro e wl ⟨rfl, hcl⟩
  have hRl := hid ((hRk.out.none_ hcl).alloc (.cells #[.int .i64 ((nv 9)).k, .int .i64 ((nv 9)).p, .int .i64 ((nv 9)).q, .string ((nv 9)).s, .int .i64 ((nv 9)).r, .int .i64 ((nv 7)).k, .int .i64 ((nv 7)).p, .int .i64 ((nv 7)).q, .string ((nv 7)).s, .int .i64 ((nv 7)).r] 25))
  have hOl := hid ((hOk.out.none_ hcl).none_ ((Chg.refl (fun _ => False) wl).alloc (.cells #[.int .i64 ((nv 9)).k, .int .i64 ((nv 9)).p, .int .i64 ((nv 9)).q, .string ((nv 9)).s, .int .i64 ((nv 9)).r, .int .i64 ((nv 7)).k, .int .i64 ((nv 7)).p, .int .i64 ((nv 7)).q, .string ((nv 7)).s, .int .i64 ((nv 7)).r] 25)))
  have hCl := hid ((hCk.out.trans_same hcl).alloc (.cells #[.int .i64 ((nv 9)).k, .int .i64 ((nv 9)).p, .int .i64 ((nv 9)).q, .string ((nv 9)).s, .int .i64 ((nv 9)).r, .int .i64 ((nv 7)).k, .int .i64 ((nv 7)).p, .int .i64 ((nv 7)).q, .string ((nv 7)).s, .int .i64 ((nv 7)).r] 25))
  have hQl := hid (two_row wl wl (nv 9) (nv 7) rfl (Nat.le_refl _))
  clear hcl hRk hOk hCk
  go_wp2_with fail
  refine (values_own (n := 2) (m := 2) rfl rfl hRl.out.own hQl.out.own (by omega) (by omega) (decide_eq_true rfl)).mono ?_
  rintro e wm ⟨rfl, hcm⟩
  have hOm := hid (hOl.out.none_ hcm)
  have hCm := hid (hCl.out.trans_same hcm)
  clear hcm hRl hQl hOl hCl
  go_wp2_with fail
  refine (o_values hOm.out (n := 1) rfl (by omega)).mono ?_
  rintro e wn ⟨A3, k3, rfl, hR', hcn⟩
  have hRn := hid hR'
  have hOn := hid (hOm.out.none_ hcn)
  have hCn := hid (hCm.out.trans_same hcn)
  clear hcn hR' hOm hCm
  go_wp2_with fail
  refine (num_nv _ 1).mono ?_
  rintro e wo ⟨rfl, hco⟩
  have hRo := hid ((hRn.out.none_ hco).alloc (.cells (nv 1).cs.toArray 25))
  have hCo := hid ((hCn.out.trans_same hco).alloc (.cells (nv 1).cs.toArray 25))
  have hQo : Hid ((wo.alloc (.cells (nv 1).cs.toArray 25)).ownsRow 0 25 5 (.slice (some ⟨wo.heap.size, 0, none⟩) 1 1) 1 ([nv 1].flatMap V.cs)) := hid (Bk.own (Bk.new wo 25 (nv 1).cs) (Nat.le_refl _) (by unfold maxLen; omega) rfl rfl)
  clear hco hRn hOn hCn
  go_wp2_with fail
  refine (values_own (n := 1) (m := 1) rfl rfl hRo.out.own hQo.out (by omega) (by omega) (decide_eq_true rfl)).mono ?_
  rintro e wp ⟨rfl, hcp⟩
  have hCp := hid (hCo.out.trans_same hcp)
  clear hcp hRo hQo hCo
  go_wp2
  refine hK2 _ _ rfl ?_
  clear hK2 K2
  refine stI_nil ?_
  go_wp2
  go_ret
  exact ⟨rfl, hCp.out⟩
end Go.Proofs.Ytpfopidmdnkkeaa
