/-
  ProtocolValid: the walk.
-/
import Derived.Deep.DeepCutAuto
import Derived.Deep.CutBlock
import Derived.Test.YtkkocoalildgnaaSix
namespace Go.Proofs.Ytkkocoalildgnaa
open Go.RowKit

/-- The law's function value, and the first value of its list. -/
def Src (w : World) (g b o : Nat) (f x : V) : Prop := Bk w g 25 f.cs ∧ b < w.heap.size ∧ w.cell? ⟨b, o, none⟩ = some (.int .i64 x.k) ∧ w.cell? ⟨b, o + 1, none⟩ = some (.int .i64 x.p) ∧ w.cell? ⟨b, o + 2, none⟩ = some (.int .i64 x.q) ∧
  w.cell? ⟨b, o + 3, none⟩ = some (.string x.s) ∧ w.cell? ⟨b, o + 4, none⟩ = some (.int .i64 x.r)
theorem Src.none_ {w w' : World} {g b o : Nat} {f x : V} (h : Src w g b o f x) (hc : Chg (fun _ => False) w w') : Src w' g b o f x := by
  obtain ⟨h1, h2, a0, a1, a2, a3, a4⟩ := h
  exact ⟨h1.none_ hc, Nat.lt_of_lt_of_le h2 hc.size, (hc.cell (p := ⟨b, o, none⟩) h2 id).trans a0, (hc.cell (p := ⟨b, o + 1, none⟩) h2 id).trans a1, (hc.cell (p := ⟨b, o + 2, none⟩) h2 id).trans a2, (hc.cell (p := ⟨b, o + 3, none⟩) h2 id).trans a3, (hc.cell (p := ⟨b, o + 4, none⟩) h2 id).trans a4⟩
theorem Vs.none_ {w w' : World} {A : Option Addr} {vs : List V} (h : Vs w A vs) (hc : Chg (fun _ => False) w w') : Vs w' A vs := Rd.none_ h hc
/-- A row of n values, whatever they are. -/
def SomeRow (w : World) (g n c : Nat) : Prop := ∃ rs : List V, rs.length = n ∧ w.ownsRow 0 25 5 (.slice (some ⟨g, 0, none⟩) n c) n (rs.flatMap V.cs)
theorem SomeRow.put {w : World} {g n c j : Nat} (h : SomeRow w g n c) (v : V) (hj : j < n) : SomeRow (put5 w g (j * 5) v) g n c := by
  obtain ⟨rs, h1, h2⟩ := h
  refine ⟨rs.set j v, by rw [List.length_set]; exact h1, ?_⟩
  have h3 := own_put5 h2 (j * 5) v
  simp only [list5] at h3
  rw [← setV5 rs j v (show j < rs.length by omega)]
  exact h3
theorem SomeRow.cells {w : World} {g n c : Nat} (h : SomeRow w g n c) {j : Nat} (hj : j < n) : g < w.heap.size ∧ (∀ i, w.frozen? ⟨g, i, none⟩ = false) ∧ ∃ x : V, w.cell? ⟨g, j * 5, none⟩ = some (.int .i64 x.k) ∧ w.cell? ⟨g, j * 5 + 1, none⟩ = some (.int .i64 x.p) ∧ w.cell? ⟨g, j * 5 + 2, none⟩ = some (.int .i64 x.q) ∧
    w.cell? ⟨g, j * 5 + 3, none⟩ = some (.string x.s) ∧ w.cell? ⟨g, j * 5 + 4, none⟩ = some (.int .i64 x.r) := by
  obtain ⟨rs, h1, h2⟩ := h
  subst h1
  obtain ⟨b', o', e2, hb, x⟩ := Vs.at_ (rs := rs) (Rd.of_own h2) hj
  injection e2 with e2
  injection e2 with e2 e3
  subst e2; subst e3
  exact ⟨hb, fun i => h2.frozenAt i, _, by simpa using x⟩
set_option maxRecDepth 100000 in
set_option maxHeartbeats 4000000 in
theorem valid_early (w : World) (f : V) (A : Option Addr) (vs : List V) (c : Nat) (nx lv : Int) (hA : Vs w A vs)
    (hbad : vs.length = 0 ∨ 32 < vs.length ∨ chkA ⟨1, 0, V.zero, vs, ⟨#[]⟩, 0, 0, []⟩ ≠ 0 ∨ chkA ⟨1, 0, V.zero, [f], ⟨#[]⟩, 0, 0, []⟩ ≠ 0) :
    Calls Try.prog 7 #[(.agg #[.int .i64 f.k, .int .i64 f.p, .int .i64 f.q, .string f.s, .int .i64 f.r]), .slice A vs.length c, .int .u8 nx, .int .u8 lv] w fun e w' => e = .returned (.bool true) ∧ Below w.heap.size w w' := by
  have hb0 := hid (Bk.new w 25 f.cs)
  have hC0 := hid ((Chg.refl (fun _ => False) w).alloc (.cells f.cs.toArray 25))
  have hA0 := hid (Vs.none_ hA hC0.out)
  by_cases h0 : vs.length = 0
  · have t0 : ((vs.length : Int) == 0) = true := by rw [h0]; rfl
    clear h0 hbad hA
    go_enter Try.func7, Try.ntmps7
    go_wp2_with fail
    refine (awake_true _).mono ?_
    rintro e w9 ⟨rfl, hc⟩
    have fin := hid (hC0.out.trans_same hc)
    clear hc
    go_wp2_with fail
    go_ret
    exact ⟨rfl, fin.out.below (Nat.le_refl _) fun _ _ h => h⟩
  have t0 : ((vs.length : Int) == 0) = false := by simp; intro e; rw [e] at h0; exact h0 rfl
  by_cases h32 : 32 < vs.length
  · have t1 : decide ((32 : Int) < (vs.length : Int)) = true := by simp; omega
    clear h0 hbad hA h32
    go_enter Try.func7, Try.ntmps7
    go_wp2_with fail
    refine (awake_true _).mono ?_
    rintro e w9 ⟨rfl, hc⟩
    have fin := hid (hC0.out.trans_same hc)
    clear hc
    go_wp2_with fail
    go_ret
    exact ⟨rfl, fin.out.below (Nat.le_refl _) fun _ _ h => h⟩
  have t1 : decide ((32 : Int) < (vs.length : Int)) = false := by simp; omega
  have hn : vs.length ≤ 1000 := by omega
  obtain ⟨r1, hr1⟩ : ∃ r, Hid (chkA ⟨1, 0, V.zero, vs, ⟨#[]⟩, 0, 0, []⟩ = r) := ⟨_, hid rfl⟩
  obtain ⟨r2, hr2⟩ : ∃ r, Hid (chkA ⟨1, 0, V.zero, [f], ⟨#[]⟩, 0, 0, []⟩ = r) := ⟨_, hid rfl⟩
  have hbadh := hid (show r1 ≠ 0 ∨ r2 ≠ 0 from by
    rcases hbad with h | h | h | h
    · exact absurd h h0
    · exact absurd h h32
    · rw [hr1.out] at h; exact .inl h
    · rw [hr2.out] at h; exact .inr h)
  clear hbad h0 h32 hA
  go_enter Try.func7, Try.ntmps7
  go_wp2_with fail
  refine (doc_return _ A vs c hA0.out hn).mono ?_
  rintro e w1 ⟨B1, d1, C1, e1, rfl, hP1, hQ1, hc1⟩
  have hP1 := hid hP1.vs
  have hQ1 := hid hQ1.vs
  have hC1 := hid (hC0.out.trans_same hc1)
  have hb1 := hid (hb0.out.none_ hc1)
  clear hc1 hC0 hb0 hA0
  go_wp2_with fail
  refine (doc_check (a := ⟨1, 0, V.zero, vs, ⟨#[]⟩, 0, 0, []⟩) hr1.out hP1.out hQ1.out hn (by simp)).mono ?_
  rintro e w2 ⟨rfl, hc2⟩
  have hC2 := hid (hC1.out.trans_same hc2)
  have hb2 := hid (hb1.out.none_ hc2)
  obtain ⟨x0, x1, x2, x3, x4⟩ := V.box hb2.out
  have hxl := hb2.out.lt
  clear hc2 hC1 hb1 hP1 hQ1
  obtain ⟨b1, hb1'⟩ : ∃ b, (r1 != 0) = b := ⟨_, rfl⟩
  cases b1
  case' false =>
    have hr20 : (r2 != 0) = true := by
      have h1 : r1 = 0 := by simpa using hb1'
      have h2 := hbadh.out.resolve_left (fun h => h h1)
      simpa using h2
    have hV := hid (vs_one w2 f w2.heap.size rfl)
    have hC2a := hid (hC2.out.alloc (.cells f.cs.toArray 25))
    go_wp2_with fail
    refine (doc_return _ (some ⟨w2.heap.size, 0, none⟩) [f] 1 hV.out (by simp)).mono ?_
    rintro e w3 ⟨B3, d3, C3, e3, rfl, hP3, hQ3, hc3⟩
    have hP3 := hid hP3.vs
    have hQ3 := hid hQ3.vs
    have hC3 := hid (hC2a.out.trans_same hc3)
    clear hc3 hC2 hC2a hV x0 x1 x2 x3 x4 hxl hb2
    go_wp2_with fail
    refine (doc_check (a := ⟨1, 0, V.zero, [f], ⟨#[]⟩, 0, 0, []⟩) hr2.out hP3.out hQ3.out (by simp) (by simp)).mono ?_
    rintro e w4 ⟨rfl, hc4⟩
    have hC4 := hid (hC3.out.trans_same hc4)
    clear hc4 hC3 hP3 hQ3
  case' true =>
    have hC4 := hC2
    clear hC2
  all_goals
    go_wp2_with fail
    refine (awake_true _).mono ?_
    rintro e w9 ⟨rfl, hc⟩
    have fin := hid (hC4.out.trans_same hc)
    clear hc
    go_wp2_with fail
    go_ret
    exact ⟨rfl, fin.out.below (Nat.le_refl _) fun _ _ h => h⟩
set_option maxRecDepth 100000 in
set_option maxHeartbeats 16000000 in
theorem valid_true (w : World) (f : V) (A : Option Addr) (vs : List V) (c : Nat) (nx lv : Int) (hA : Vs w A vs) (hnx : 0 ≤ nx ∧ nx ≤ 255) (hlv : 0 ≤ lv ∧ lv ≤ 255) :
    Calls Try.prog 7 #[(.agg #[.int .i64 f.k, .int .i64 f.p, .int .i64 f.q, .string f.s, .int .i64 f.r]), .slice A vs.length c, .int .u8 nx, .int .u8 lv] w fun e w' => e = .returned (.bool true) ∧ Below w.heap.size w w' := by
  by_cases hbad : vs.length = 0 ∨ 32 < vs.length ∨ chkA ⟨1, 0, V.zero, vs, ⟨#[]⟩, 0, 0, []⟩ ≠ 0 ∨ chkA ⟨1, 0, V.zero, [f], ⟨#[]⟩, 0, 0, []⟩ ≠ 0
  · exact valid_early w f A vs c nx lv hA hbad
  obtain ⟨i25, hi25, hz25, hs25, hb25⟩ := info_parts Try.info25
  have t0 : ((vs.length : Int) == 0) = false := by simp; intro e; exact hbad (.inl (by rw [e]; rfl))
  have t1 : decide ((32 : Int) < (vs.length : Int)) = false := by simp; omega
  have hn32 : vs.length ≤ 32 := by omega
  have hn : vs.length ≤ 1000 := by omega
  have hn0 : 0 < vs.length := by omega
  have hr1 : Hid (chkA ⟨1, 0, V.zero, vs, ⟨#[]⟩, 0, 0, []⟩ = 0) := hid (Classical.not_not.1 fun h => hbad (.inr (.inr (.inl h))))
  have hr2 : Hid (chkA ⟨1, 0, V.zero, [f], ⟨#[]⟩, 0, 0, []⟩ = 0) := hid (Classical.not_not.1 fun h => hbad (.inr (.inr (.inr h))))
  have hchk := hid (vAct_chk (f := f) (vs := vs) (nx := nx) (lv := lv) (by have := all_vok hr2.out; simpa using this) (all_vok hr1.out) hnx hlv hn0 hn32)
  have hw1 : IntKind.i64.wrap nx = nx := by rw [IntKind.wrap_i64]; omega
  have hw2 : IntKind.i64.wrap lv = lv := by rw [IntKind.wrap_i64]; omega
  have hb0 := hid (Bk.new w 25 f.cs)
  have hC0 := hid ((Chg.refl (fun _ => False) w).alloc (.cells f.cs.toArray 25))
  have hA0 := hid (Vs.none_ hA hC0.out)
  have hAh := hid hA
  have hones := hid (V.ones vs)
  clear hbad hA
  go_enter Try.func7, Try.ntmps7
  go_wp2_with fail
  refine (doc_return _ A vs c hA0.out hn).mono ?_
  rintro e w1 ⟨B1, d1, C1, e1, rfl, hP1, hQ1, hc1⟩
  have hP1 := hid hP1.vs
  have hQ1 := hid hQ1.vs
  have hC1 := hid (hC0.out.trans_same hc1)
  have hb1 := hid (hb0.out.none_ hc1)
  clear hc1 hC0 hb0 hA0
  go_wp2_with fail
  refine (doc_check (a := ⟨1, 0, V.zero, vs, ⟨#[]⟩, 0, 0, []⟩) hr1.out hP1.out hQ1.out hn (by simp)).mono ?_
  rintro e w2 ⟨rfl, hc2⟩
  have hC2 := hid (hC1.out.trans_same hc2)
  have hb2 := hid (hb1.out.none_ hc2)
  obtain ⟨x0, x1, x2, x3, x4⟩ := V.box hb2.out
  have hxl := hb2.out.lt
  have hV := hid (vs_one w2 f w2.heap.size rfl)
  have hC2a := hid (hC2.out.alloc (.cells f.cs.toArray 25))
  have hb2a := hid (hb2.out.alloc (.cells f.cs.toArray 25))
  clear hc2 hC1 hb1 hP1 hQ1
  go_wp2_with fail
  refine (doc_return _ (some ⟨w2.heap.size, 0, none⟩) [f] 1 hV.out (by simp)).mono ?_
  rintro e w3 ⟨B3, d3, C3, e3, rfl, hP3, hQ3, hc3⟩
  have hP3 := hid hP3.vs
  have hQ3 := hid hQ3.vs
  have hC3 := hid (hC2a.out.trans_same hc3)
  have hb3 := hid (hb2a.out.none_ hc3)
  clear hc3 hC2 hC2a hV x0 x1 x2 x3 x4 hxl hb2 hb2a
  go_wp2_with fail
  refine (doc_check (a := ⟨1, 0, V.zero, [f], ⟨#[]⟩, 0, 0, []⟩) hr2.out hP3.out hQ3.out (by simp) (by simp)).mono ?_
  rintro e w4 ⟨rfl, hc4⟩
  have hC4 := hid (hC3.out.trans_same hc4)
  have hb4 := hid (hb3.out.none_ hc4)
  have hA4 := hid (hAh.out.none_ hC4.out)
  have h00 : Hid ((w4.alloc (.cells #[] 25)).ownsRow 0 25 5 (.slice (some ⟨w4.heap.size, 0, none⟩) 0 0) 0 []) := hid (by have := World.ownsRow_made (base := 0) (e := 25) (size := 5) w4 #[] 0 (Nat.zero_le _) (Nat.zero_le _) rfl; simpa using this)
  clear hc4 hC3 hP3 hQ3 hb3
  clear t0 t1
  go_wp2_with ((with_reducible show wpList _ _ _ ((⟨some 38, _, _, _, _, _⟩ : Oper) :: _) _ _); refine wpList_append_rd (o := ⟨some 38, _, _, _, _, _⟩) rfl (.tmp 36) (.tmp 37) 26 rfl 25 i25 _ 5 48 Try.underlying26 hi25 hz25 hs25 hb25 rfl (by omega) (.slice (some ⟨w4.heap.size, 0, none⟩) 0 0) 0 [] rfl h00.out A vs.length c (vs.flatMap V.cs) rfl (Vs.none_ hA4.out ((Chg.refl (fun _ => False) w4).alloc _)) hones.out (by unfold maxLen; omega) (by omega) (w4.heap.size + 1) (by simp) ?_; intro A5 c5 w5 hown hg hat; rw [Nat.zero_add] at hown hat ⊢; rw [List.nil_append] at hown; have hR5 := hid hown; have hC5 := hid (show Chg (fun _ => False) w4 w5 from ((Chg.refl (fun _ => False) w4).alloc _).grown hg fun k hk hlt => absurd (show w4.heap.size = k by simpa [Value.ownBlock] using hk) (by omega)); have hR5lo := hid (show ∀ k, (Value.slice A5 vs.length c5).ownBlock = some k → w4.heap.size ≤ k from fun k hk => (hat k hk).elim (fun h => Nat.le_of_eq (show w4.heap.size = k by simpa [Value.ownBlock] using h)) fun h => by omega); clear hown hg hat)
  obtain ⟨g, rfl⟩ : ∃ g, A5 = some ⟨g, 0, none⟩ := by
    obtain ⟨A', cap', e1, _, _, hA', -⟩ := own_form hR5.out
    injection e1 with e1 _ e3
    subst e1
    exact hA' (by omega)
  have hgl : Hid (g < w5.heap.size) := hid (own_lt hR5.out (k := g) rfl)
  have hglo : Hid (w4.heap.size ≤ g) := hid (hR5lo.out g rfl)
  have hM5 : Hid (Vs w5 (some ⟨g, 0, none⟩) vs) := hid (Rd.of_own hR5.out)
  have hA5 := hid (hA4.out.none_ hC5.out)
  obtain ⟨b, o, rfl, hb, c0, c1, c2, c3, c4⟩ := Vs.at_ (rs := vs) hA5.out (i := 0) hn0
  obtain ⟨x, hx⟩ : ∃ x, Hid (vAt vs 0 = x) := ⟨_, hid rfl⟩
  rw [hx.out] at c0 c1 c2 c3 c4
  simp only [Nat.zero_mul, Nat.add_zero] at c0 c1 c2 c3 c4
  have hS5 : Hid (Src w5 w.heap.size b o f x) := hid ⟨hb4.out.none_ hC5.out, hb, c0, c1, c2, c3, c4⟩
  have hR5h : Hid (SomeRow w5 g vs.length c5) := hid ⟨vs, rfl, hR5.out⟩
  clear hb c0 c1 c2 c3 c4 hb4 hA4 hR5 hR5lo h00 hAh hones hP1 hQ1 hP3 hQ3
  go_upto_region 4 with fail
  go_cut [10] (fun t wx => ∃ M p0 p1 p2 p3 p4 p5, t = .slice (some ⟨M, 0, none⟩) 6 6 ∧ Hid (SixS w5 wx M (vAct f vs nx lv) p0 p1 p2 p3 p4 p5 ∧ Chg (fun _ => False) w5 wx ∧ w5.heap.size ≤ M))
  case first =>
    refine wp_region_rc (id := 4) [.rd [0, 2, 3, 4, 5, 6, 9, 10, 11, 12, 13, 15, 16, 17, 18, 19], .wl [21, 22, 23, 24], .act 1, .act 7, .act 8, .act 14] [20, 25, 26, 27] [] (fun w' => Src w' w.heap.size b o f x) (by kernel_rfl) 128 rfl (by kernel_rfl) (fun _ _ _ _ _ h => h) (hS5.out.none_ ((Chg.refl (fun _ => False) w5).drew)) ?_
    refine steps_rdW ?_
    apply Exists.intro
    refine ⟨?_, ?_⟩
    focus
      rintro w' ⟨hSa, hSl, c0, c1, c2, c3, c4⟩
      obtain ⟨x0, x1, x2, x3, x4⟩ := V.box hSa
      clear hSa hSl
      iterate 16 (refine stW_step rfl (fun K hK => ?_); go_simp; refine hK _ ?_; clear hK K)
      exact stW_nil rfl
    refine steps_wlW ?_
    apply Exists.intro
    refine ⟨?_, ?_⟩
    focus
      intro w'
      iterate 4 (refine stW_step rfl (fun K hK => ?_); go_simp; refine hK _ ?_; clear hK K)
      exact stW_nil rfl
    have hV0 := hid (hM5.out.none_ ((Chg.refl (fun _ => False) w5).drew))
    have hT0 := hid (hS5.out.none_ ((Chg.refl (fun _ => False) w5).drew))
    have hD0 := hid ((Chg.refl (fun _ => False) w5).drew)
    clear hS5 hM5 hA5
    refine steps_act (o := ⟨_, _, _, _, _, _⟩) rfl (fun K2 hK2 => ?_)
    go_wp2_with fail
    refine (own_return _ (some ⟨g, 0, none⟩) vs c5 hV0.out hn).mono ?_
    rintro e v1 ⟨B0, d0, E0, e0, rfl, hP, hQ, hc⟩
    have hN0 : Hid (AS.own w5 v1 ⟨vAct f vs nx lv 0, B0, d0, E0, e0⟩) := hid (AS.own.base ⟨hP, hQ⟩ hD0.out.size)
    have hD1 := hid (hD0.out.trans_same hc)
    have hV1 := hid (hV0.out.none_ hc)
    have hT1 := hid (hT0.out.none_ hc)
    clear hc hP hQ hV0 hT0 hD0
    go_wp2_with fail
    refine hK2 _ _ hT1.out rfl ?_
    clear hK2 K2
    refine steps_act (o := ⟨_, _, _, _, _, _⟩) rfl (fun K2 hK2 => ?_)
    go_wp2_with fail
    refine (own_fail _ x lv).mono ?_
    rintro e v2 ⟨B1, d1, E1, e1, rfl, hP, hQ, hc⟩
    have hN1 : Hid (AS.own w5 v2 ⟨(⟨2, 0, V.zero, [x], ⟨#[]⟩, lv, 0, []⟩ : Ac), B1, d1, E1, e1⟩) := hid (AS.own.base ⟨hP, hQ⟩ hD1.out.size)
    have hD2 := hid (hD1.out.trans_same hc)
    have hN0 := hid (hN0.out.none_ hc)
    have hV2 := hid (hV1.out.none_ hc)
    have hT2 := hid (hT1.out.none_ hc)
    clear hc hP hQ hV1 hT1 hD1
    go_wp2_with fail
    refine hK2 _ _ hT2.out rfl ?_
    clear hK2 K2
    refine steps_act (o := ⟨_, _, _, _, _, _⟩) rfl (fun K2 hK2 => ?_)
    go_wp2_with fail
    refine (own_error _ ⟨#[120]⟩ (by decide +kernel)).mono ?_
    rintro e v3 ⟨B2, d2, E2, e2, rfl, hP, hQ, hc⟩
    have hN2 : Hid (AS.own w5 v3 ⟨vAct f vs nx lv 2, B2, d2, E2, e2⟩) := hid (AS.own.base ⟨hP, hQ⟩ hD2.out.size)
    have hD3 := hid (hD2.out.trans_same hc)
    have hN0 := hid (hN0.out.none_ hc)
    have hN1 := hid (hN1.out.none_ hc)
    have hV3 := hid (hV2.out.none_ hc)
    have hT3 := hid (hT2.out.none_ hc)
    clear hc hP hQ hV2 hT2 hD2
    go_wp2_with fail
    refine hK2 _ _ hT3.out rfl ?_
    clear hK2 K2
    refine steps_act (o := ⟨_, _, _, _, _, _⟩) rfl (fun K2 hK2 => ?_)
    go_wp2_with fail
    refine (own_call _ f (some ⟨g, 0, none⟩) vs c5 nx (some ⟨g, 0, none⟩) vs c5 hV3.out hn hV3.out hn).mono ?_
    rintro e v4 ⟨B3, d3, E3, e3, rfl, hP, hQ, hc⟩
    have hN3 : Hid (AS.own w5 v4 ⟨vAct f vs nx lv 3, B3, d3, E3, e3⟩) := hid (AS.own.base ⟨hP, hQ⟩ hD3.out.size)
    have hD4 := hid (hD3.out.trans_same hc)
    have hN0 := hid (hN0.out.none_ hc)
    have hN1 := hid (hN1.out.none_ hc)
    have hN2 := hid (hN2.out.none_ hc)
    have hV4 := hid (hV3.out.none_ hc)
    have hT4 := hid (hT3.out.none_ hc)
    clear hc hP hQ hV3 hT3 hD3
    go_wp2_with fail
    refine hK2 _ _ hT4.out rfl ?_
    clear hK2 K2
    refine steps_nil (l := [⟨_, _, _, _, _, _⟩, ⟨_, _, _, _, _, _⟩, ⟨_, _, _, _, _, _⟩, ⟨_, _, _, _, _, _⟩]) rfl (fun K2 hK2 => ?_)
    go_wp2_with fail
    refine (own_try _ f (some ⟨g, 0, none⟩) vs c5 nx (some ⟨g, 0, none⟩) vs c5 hV4.out hn hV4.out hn).mono ?_
    rintro e v5 ⟨B4, d4, E4, e4, rfl, hP, hQ, hc⟩
    have hN4 : Hid (AS.own w5 v5 ⟨vAct f vs nx lv 4, B4, d4, E4, e4⟩) := hid (AS.own.base ⟨hP, hQ⟩ hD4.out.size)
    have hD5 := hid (hD4.out.trans_same hc)
    have hN0 := hid (hN0.out.none_ hc)
    have hN1 := hid (hN1.out.none_ hc)
    have hN2 := hid (hN2.out.none_ hc)
    have hN3 := hid (hN3.out.none_ hc)
    have hV5 := hid (hV4.out.none_ hc)
    have hT5 := hid (hT4.out.none_ hc)
    clear hc hP hQ hV4 hT4 hD4
    go_wp2_with fail
    refine (own_yield _ (some ⟨g, 0, none⟩) vs c5 nx (some ⟨g, 0, none⟩) vs c5 hV5.out hn hV5.out hn).mono ?_
    rintro e v6 ⟨B5, d5, E5, e5, rfl, hP, hQ, hc⟩
    have hN5 : Hid (AS.own w5 v6 ⟨vAct f vs nx lv 5, B5, d5, E5, e5⟩) := hid (AS.own.base ⟨hP, hQ⟩ hD5.out.size)
    have hD6 := hid (hD5.out.trans_same hc)
    have hN0 := hid (hN0.out.none_ hc)
    have hN1 := hid (hN1.out.none_ hc)
    have hN2 := hid (hN2.out.none_ hc)
    have hN3 := hid (hN3.out.none_ hc)
    have hN4 := hid (hN4.out.none_ hc)
    have hV6 := hid (hV5.out.none_ hc)
    have hT6 := hid (hT5.out.none_ hc)
    clear hc hP hQ hV5 hT5 hD5
    have hfin : Hid (SixS w5 (v6.alloc (.cells (([(⟨vAct f vs nx lv 0, B0, d0, E0, e0⟩ : AS), ⟨⟨2, 0, V.zero, [x], ⟨#[]⟩, lv, 0, []⟩, B1, d1, E1, e1⟩, ⟨vAct f vs nx lv 2, B2, d2, E2, e2⟩, ⟨vAct f vs nx lv 3, B3, d3, E3, e3⟩, ⟨vAct f vs nx lv 4, B4, d4, E4, e4⟩, ⟨vAct f vs nx lv 5, B5, d5, E5, e5⟩] : List AS).flatMap AS.cs).toArray 28)) v6.heap.size (vAct f vs nx lv) ⟨vAct f vs nx lv 0, B0, d0, E0, e0⟩ ⟨⟨2, 0, V.zero, [x], ⟨#[]⟩, lv, 0, []⟩, B1, d1, E1, e1⟩ ⟨vAct f vs nx lv 2, B2, d2, E2, e2⟩ ⟨vAct f vs nx lv 3, B3, d3, E3, e3⟩ ⟨vAct f vs nx lv 4, B4, d4, E4, e4⟩ ⟨vAct f vs nx lv 5, B5, d5, E5, e5⟩) := hid (by
      have ha : Chg (fun _ => False) v6 (v6.alloc (.cells (([(⟨vAct f vs nx lv 0, B0, d0, E0, e0⟩ : AS), ⟨⟨2, 0, V.zero, [x], ⟨#[]⟩, lv, 0, []⟩, B1, d1, E1, e1⟩, ⟨vAct f vs nx lv 2, B2, d2, E2, e2⟩, ⟨vAct f vs nx lv 3, B3, d3, E3, e3⟩, ⟨vAct f vs nx lv 4, B4, d4, E4, e4⟩, ⟨vAct f vs nx lv 5, B5, d5, E5, e5⟩] : List AS).flatMap AS.cs).toArray 28)) := (Chg.refl _ v6).alloc _
      exact ⟨Bk.new v6 28 _, ⟨rfl, by rw [← hx.out]; rfl, rfl, rfl, rfl, rfl⟩, hN0.out.none_ ha, hN1.out.none_ ha, hN2.out.none_ ha, hN3.out.none_ ha, hN4.out.none_ ha, hN5.out.none_ ha⟩)
    have hfc : Hid (Chg (fun _ => False) w5 v6) := hD6
    clear hN0 hN1 hN2 hN3 hN4 hN5 hV6 hT6
    go_wp2_with fail
    refine hK2 _ _ rfl ?_
    clear hK2 K2
    refine stI_nil ?_
    go_wp2_with fail
    go_meet
    case rel => exact ⟨_, _, _, _, _, _, _, rfl, hid ⟨hfin.out, hfc.out.alloc _, hfc.out.size⟩⟩
  case rest =>
    obtain ⟨M, p0, p1, p2, p3, p4, p5, rfl, hF⟩ := hcut
    rename World => w12
    have hX12 := hid hF.out.1
    have hC12 := hid hF.out.2.1
    have hMlo := hid hF.out.2.2
    have hS12 := hid (hS5.out.none_ hC12.out)
    have hA12 := hid (hA5.out.none_ hC12.out)
    clear hF
    go_upto_region 5 with fail
    go_cut [11] (fun t wx => ∃ M2 q0 q1 q2 q3 q4 q5, t = .slice (some ⟨M2, 0, none⟩) 6 6 ∧ Hid (SixS w12 wx M2 (vAct f vs nx lv) q0 q1 q2 q3 q4 q5 ∧ Chg (fun _ => False) w12 wx ∧ w12.heap.size ≤ M2))
    case first =>
      refine wp_region_rc (id := 5) [.rd [0, 2, 3, 4, 5, 6, 9, 10, 11, 12, 13, 15, 16, 17, 18, 19], .wl [21, 22, 23, 24], .act 1, .act 7, .act 8, .act 14] [20, 25, 26, 27] [] (fun w' => Src w' w.heap.size b o f x) (by kernel_rfl) 128 rfl (by kernel_rfl) (fun _ _ _ _ _ h => h) (hS12.out.none_ ((Chg.refl (fun _ => False) w12).drew)) ?_
      refine steps_rdW ?_
      apply Exists.intro
      refine ⟨?_, ?_⟩
      focus
        rintro w' ⟨hSa, hSl, c0, c1, c2, c3, c4⟩
        obtain ⟨x0, x1, x2, x3, x4⟩ := V.box hSa
        clear hSa hSl
        iterate 16 (refine stW_step rfl (fun K hK => ?_); go_simp; refine hK _ ?_; clear hK K)
        exact stW_nil rfl
      refine steps_wlW ?_
      apply Exists.intro
      refine ⟨?_, ?_⟩
      focus
        intro w'
        iterate 4 (refine stW_step rfl (fun K hK => ?_); go_simp; refine hK _ ?_; clear hK K)
        exact stW_nil rfl
      have hV0 := hid (hA12.out.none_ ((Chg.refl (fun _ => False) w12).drew))
      have hT0 := hid (hS12.out.none_ ((Chg.refl (fun _ => False) w12).drew))
      have hD0 := hid ((Chg.refl (fun _ => False) w12).drew)
      clear hS12 hA12 hX12
      refine steps_act (o := ⟨_, _, _, _, _, _⟩) rfl (fun K2 hK2 => ?_)
      go_wp2_with fail
      refine (doc_return _ (some ⟨b, o, none⟩) vs c hV0.out hn).mono ?_
      rintro e v1 ⟨B0, d0, E0, e0, rfl, hP, hQ, hc⟩
      have hN0 : Hid (AS.own w12 v1 ⟨vAct f vs nx lv 0, B0, d0, E0, e0⟩) := hid (AS.own.base ⟨hP, hQ⟩ hD0.out.size)
      have hD1 := hid (hD0.out.trans_same hc)
      have hV1 := hid (hV0.out.none_ hc)
      have hT1 := hid (hT0.out.none_ hc)
      clear hc hP hQ hV0 hT0 hD0
      go_wp2_with fail
      refine hK2 _ _ hT1.out rfl ?_
      clear hK2 K2
      refine steps_act (o := ⟨_, _, _, _, _, _⟩) rfl (fun K2 hK2 => ?_)
      go_wp2_with fail
      refine (doc_fail _ x lv).mono ?_
      rintro e v2 ⟨B1, d1, E1, e1, rfl, hP, hQ, hc⟩
      have hN1 : Hid (AS.own w12 v2 ⟨(⟨2, 0, V.zero, [x], ⟨#[]⟩, lv, 0, []⟩ : Ac), B1, d1, E1, e1⟩) := hid (AS.own.base ⟨hP, hQ⟩ hD1.out.size)
      have hD2 := hid (hD1.out.trans_same hc)
      have hN0 := hid (hN0.out.none_ hc)
      have hV2 := hid (hV1.out.none_ hc)
      have hT2 := hid (hT1.out.none_ hc)
      clear hc hP hQ hV1 hT1 hD1
      go_wp2_with fail
      refine hK2 _ _ hT2.out rfl ?_
      clear hK2 K2
      refine steps_act (o := ⟨_, _, _, _, _, _⟩) rfl (fun K2 hK2 => ?_)
      go_wp2_with fail
      refine (doc_error _ ⟨#[120]⟩ (by decide +kernel)).mono ?_
      rintro e v3 ⟨B2, d2, E2, e2, rfl, hP, hQ, hc⟩
      have hN2 : Hid (AS.own w12 v3 ⟨vAct f vs nx lv 2, B2, d2, E2, e2⟩) := hid (AS.own.base ⟨hP, hQ⟩ hD2.out.size)
      have hD3 := hid (hD2.out.trans_same hc)
      have hN0 := hid (hN0.out.none_ hc)
      have hN1 := hid (hN1.out.none_ hc)
      have hV3 := hid (hV2.out.none_ hc)
      have hT3 := hid (hT2.out.none_ hc)
      clear hc hP hQ hV2 hT2 hD2
      go_wp2_with fail
      refine hK2 _ _ hT3.out rfl ?_
      clear hK2 K2
      refine steps_act (o := ⟨_, _, _, _, _, _⟩) rfl (fun K2 hK2 => ?_)
      go_wp2_with fail
      refine (doc_call_any _ f (some ⟨b, o, none⟩) vs c nx (some ⟨b, o, none⟩) vs c hV3.out hn hV3.out hn).mono ?_
      rintro e v4 ⟨B3, d3, E3, e3, rfl, hP, hQ, hc⟩
      have hN3 : Hid (AS.own w12 v4 ⟨vAct f vs nx lv 3, B3, d3, E3, e3⟩) := hid (AS.own.base ⟨hP, hQ⟩ hD3.out.size)
      have hD4 := hid (hD3.out.trans_same hc)
      have hN0 := hid (hN0.out.none_ hc)
      have hN1 := hid (hN1.out.none_ hc)
      have hN2 := hid (hN2.out.none_ hc)
      have hV4 := hid (hV3.out.none_ hc)
      have hT4 := hid (hT3.out.none_ hc)
      clear hc hP hQ hV3 hT3 hD3
      go_wp2_with fail
      refine hK2 _ _ hT4.out rfl ?_
      clear hK2 K2
      refine steps_nil (l := [⟨_, _, _, _, _, _⟩, ⟨_, _, _, _, _, _⟩, ⟨_, _, _, _, _, _⟩, ⟨_, _, _, _, _, _⟩]) rfl (fun K2 hK2 => ?_)
      go_wp2_with fail
      refine (doc_try_any _ f (some ⟨b, o, none⟩) vs c nx (some ⟨b, o, none⟩) vs c hV4.out hn hV4.out hn).mono ?_
      rintro e v5 ⟨B4, d4, E4, e4, rfl, hP, hQ, hc⟩
      have hN4 : Hid (AS.own w12 v5 ⟨vAct f vs nx lv 4, B4, d4, E4, e4⟩) := hid (AS.own.base ⟨hP, hQ⟩ hD4.out.size)
      have hD5 := hid (hD4.out.trans_same hc)
      have hN0 := hid (hN0.out.none_ hc)
      have hN1 := hid (hN1.out.none_ hc)
      have hN2 := hid (hN2.out.none_ hc)
      have hN3 := hid (hN3.out.none_ hc)
      have hV5 := hid (hV4.out.none_ hc)
      have hT5 := hid (hT4.out.none_ hc)
      clear hc hP hQ hV4 hT4 hD4
      go_wp2_with fail
      refine (doc_yield _ (some ⟨b, o, none⟩) vs c nx (some ⟨b, o, none⟩) vs c hV5.out hn hV5.out hn).mono ?_
      rintro e v6 ⟨B5, d5, E5, e5, rfl, hP, hQ, hc⟩
      have hN5 : Hid (AS.own w12 v6 ⟨vAct f vs nx lv 5, B5, d5, E5, e5⟩) := hid (AS.own.base ⟨hP, hQ⟩ hD5.out.size)
      have hD6 := hid (hD5.out.trans_same hc)
      have hN0 := hid (hN0.out.none_ hc)
      have hN1 := hid (hN1.out.none_ hc)
      have hN2 := hid (hN2.out.none_ hc)
      have hN3 := hid (hN3.out.none_ hc)
      have hN4 := hid (hN4.out.none_ hc)
      have hV6 := hid (hV5.out.none_ hc)
      have hT6 := hid (hT5.out.none_ hc)
      clear hc hP hQ hV5 hT5 hD5
      have hfin : Hid (SixS w12 (v6.alloc (.cells (([(⟨vAct f vs nx lv 0, B0, d0, E0, e0⟩ : AS), ⟨⟨2, 0, V.zero, [x], ⟨#[]⟩, lv, 0, []⟩, B1, d1, E1, e1⟩, ⟨vAct f vs nx lv 2, B2, d2, E2, e2⟩, ⟨vAct f vs nx lv 3, B3, d3, E3, e3⟩, ⟨vAct f vs nx lv 4, B4, d4, E4, e4⟩, ⟨vAct f vs nx lv 5, B5, d5, E5, e5⟩] : List AS).flatMap AS.cs).toArray 28)) v6.heap.size (vAct f vs nx lv) ⟨vAct f vs nx lv 0, B0, d0, E0, e0⟩ ⟨⟨2, 0, V.zero, [x], ⟨#[]⟩, lv, 0, []⟩, B1, d1, E1, e1⟩ ⟨vAct f vs nx lv 2, B2, d2, E2, e2⟩ ⟨vAct f vs nx lv 3, B3, d3, E3, e3⟩ ⟨vAct f vs nx lv 4, B4, d4, E4, e4⟩ ⟨vAct f vs nx lv 5, B5, d5, E5, e5⟩) := hid (by
        have ha : Chg (fun _ => False) v6 (v6.alloc (.cells (([(⟨vAct f vs nx lv 0, B0, d0, E0, e0⟩ : AS), ⟨⟨2, 0, V.zero, [x], ⟨#[]⟩, lv, 0, []⟩, B1, d1, E1, e1⟩, ⟨vAct f vs nx lv 2, B2, d2, E2, e2⟩, ⟨vAct f vs nx lv 3, B3, d3, E3, e3⟩, ⟨vAct f vs nx lv 4, B4, d4, E4, e4⟩, ⟨vAct f vs nx lv 5, B5, d5, E5, e5⟩] : List AS).flatMap AS.cs).toArray 28)) := (Chg.refl _ v6).alloc _
        exact ⟨Bk.new v6 28 _, ⟨rfl, by rw [← hx.out]; rfl, rfl, rfl, rfl, rfl⟩, hN0.out.none_ ha, hN1.out.none_ ha, hN2.out.none_ ha, hN3.out.none_ ha, hN4.out.none_ ha, hN5.out.none_ ha⟩)
      have hfc : Hid (Chg (fun _ => False) w12 v6) := hD6
      clear hN0 hN1 hN2 hN3 hN4 hN5 hV6 hT6
      go_wp2_with fail
      refine hK2 _ _ rfl ?_
      clear hK2 K2
      refine stI_nil ?_
      go_wp2_with fail
      go_meet
      case rel => exact ⟨_, _, _, _, _, _, _, rfl, hid ⟨hfin.out, hfc.out.alloc _, hfc.out.size⟩⟩
    case rest =>
      obtain ⟨M2, q0, q1, q2, q3, q4, q5, rfl, hF⟩ := hcut
      rename World => w13
      have hY13 := hid hF.out.1
      have hC13 := hid hF.out.2.1
      have hM2lo := hid hF.out.2.2
      have hX13 := hid (hX12.out.none_ hC13.out)
      have hrow13 : Hid (SomeRow w13 g vs.length c5) := hid (by
        obtain ⟨rs, h1, h2⟩ := hR5h.out
        exact ⟨rs, h1, own_chg h2 (hC12.out.trans_same hC13.out) fun _ _ h => h⟩)
      have hCw : Hid (Chg (fun _ => False) w w13) := hid (((hC4.out.trans_same hC5.out).trans_same hC12.out).trans_same hC13.out)
      have h512 : Hid (w5.heap.size ≤ w12.heap.size) := hid hC12.out.size
      have hww4 : Hid (w.heap.size ≤ w4.heap.size) := hid hC4.out.size
      clear hF hX12 hS12 hA12 hS5 hA5 hM5 hR5h hC5 hC4 hC12 hC13
      go_wp2_with fail
      go_loopw [95] (fun i wr => ∃ j : Nat, j ≤ vs.length ∧ i = .int .i64 j ∧ Hid (SomeRow wr g vs.length c5 ∧ Chg (fun k => k = g) w13 wr)) (fun i _ => vs.length - (intOf i).toNat)
      case atStart => exact ⟨0, Nat.zero_le _, rfl, hid ⟨hrow13.out, Chg.refl _ _⟩⟩
      case round =>
        obtain ⟨j, hj, rfl, hst⟩ := hrel
        clear hrow13
        refine (Classical.em (j < vs.length)).elim ?more ?done
        case' more =>
          intro hlt
          obtain ⟨hgw, hfz, y, c0, c1, c2, c3, c4⟩ := hst.out.1.cells hlt
          have fin := hid (And.intro (hst.out.1.put (⟨1, 0, 0, ⟨#[]⟩, 1⟩ : V) hlt) (hst.out.2.trans_same (put5_chg wr g (j * 5) (⟨1, 0, 0, ⟨#[]⟩, 1⟩ : V))))
          clear hst
          go_wp2_with fail
          go_roundw
          case rel => exact ⟨j + 1, by omega, by go_num, fin⟩
          case measure => simp [intOf]; omega
        case' done =>
          intro hlt
          have hX14 : Hid (SixS w5 wr M (vAct f vs nx lv) p0 p1 p2 p3 p4 p5) := hid (hX13.out.put hst.out.2 hgl.out (by have := hMlo.out; have := hgl.out; omega))
          have hY14 : Hid (SixS w12 wr M2 (vAct f vs nx lv) q0 q1 q2 q3 q4 q5) := hid (hY13.out.put hst.out.2 (by have := h512.out; have := hgl.out; omega) (by have := hM2lo.out; have := h512.out; have := hgl.out; omega))
          have hC14 : Hid (Chg (fun _ => False) w wr) := hid (hCw.out.trans hst.out.2 fun k hk e => by have := hglo.out; have := hww4.out; omega)
          clear hX13 hY13 hCw hst hMlo hM2lo
          go_wp2_with fail
          go_loopw [105] (fun i w2r => ∃ j : Nat, j ≤ 6 ∧ i = .int .i64 j ∧ Hid (Chg (fun _ => False) wr w2r)) (fun i _ => 6 - (intOf i).toNat)
          case atStart => exact ⟨0, by omega, rfl, hid (Chg.refl _ _)⟩
          case round =>
            obtain ⟨i, hi, rfl, hcr⟩ := hrel
            refine (Classical.em (i < 6)).elim ?more2 ?done2
            case' more2 =>
              intro hlt2
              have hi6 : (i : Int) < 6 := by omega
              obtain ⟨p, hpa', hpo', hpc⟩ := (hX14.out.none_ hcr.out).at_ hlt2
              obtain ⟨q, hqa', hqo', hqc⟩ := (hY14.out.none_ hcr.out).at_ hlt2
              have hS0 := hid (show Cells12 wr.drew M i p ∧ Cells12 wr.drew M2 i q from ⟨⟨(hX14.out.none_ hcr.out).1.lt, hpc⟩, ⟨(hY14.out.none_ hcr.out).1.lt, hqc⟩⟩)
              have hpo := hid (hpo'.none_ ((Chg.refl (fun _ => False) wr).drew))
              have hqo := hid (hqo'.none_ ((Chg.refl (fun _ => False) wr).drew))
              have hck : Hid (chkA p.a = 0) := hid (by rw [hpa']; exact hchk.out i hlt2)
              have hpq : Hid (p.a = q.a) := hid (by rw [hpa', hqa'])
              have hlen := hid (chk_len hck.out)
              have hC15 := hid hcr.out.drew
              clear hpa' hqa' hpc hqc hpo' hqo' hcr
              go_wp2_with fail
              refine wp_region_rc (id := 14) [.rd [0, 1, 2, 3], .act 4, .rd [5, 6, 7, 8, 9, 10, 11, 12, 13, 14]] [15, 16, 17] [] (fun w' => Cells12 w' M i p ∧ Cells12 w' M2 i q) (by kernel_rfl) 128 rfl (by kernel_rfl) (fun _ _ _ _ _ h => h) hS0.out ?_
              refine steps_rdW ?_
              apply Exists.intro
              refine ⟨?_, ?_⟩
              focus
                rintro w' ⟨hSa, hSb⟩
                obtain ⟨y0, y1, y2, y3, y4, y5, y6, y7, y8, y9, y10, y11⟩ := hSa.box
                clear hSa hSb
                iterate 4 (refine stW_step rfl (fun K hK => ?_); go_simp; refine hK _ ?_; clear hK K)
                exact stW_nil rfl
              refine steps_act (o := ⟨_, _, _, _, _, _⟩) rfl (fun K2 hK2 => ?_)
              go_wp2_with fail
              refine (own_check (a := p.a) hck.out hpo.out.1.vs hpo.out.2.vs (by have := hlen.out; omega) (by have := hlen.out; omega)).mono ?_
              rintro e w6 ⟨rfl, hc6⟩
              have hS6 := hid (And.intro (hS0.out.1.none_ hc6) (hS0.out.2.none_ hc6))
              have hpo6 := hid (hpo.out.none_ hc6)
              have hqo6 := hid (hqo.out.none_ hc6)
              have hC16 := hid (hC15.out.trans_same hc6)
              clear hc6 hS0 hpo hqo hC15
              go_wp2_with fail
              refine hK2 _ _ hS6.out rfl ?_
              clear hK2 K2
              refine steps_rdW ?_
              apply Exists.intro
              refine ⟨?_, ?_⟩
              focus
                rintro w' ⟨hSa, hSb⟩
                obtain ⟨y0, y1, y2, y3, y4, y5, y6, y7, y8, y9, y10, y11⟩ := hSa.box
                obtain ⟨z0, z1, z2, z3, z4, z5, z6, z7, z8, z9, z10, z11⟩ := hSb.box
                clear hSa hSb
                iterate 10 (refine stW_step rfl (fun K hK => ?_); go_simp; refine hK _ ?_; clear hK K)
                exact stW_nil rfl
              refine steps_nil (l := [⟨_, _, _, _, _, _⟩, ⟨_, _, _, _, _, _⟩, ⟨_, _, _, _, _, _⟩]) rfl (fun K2 hK2 => ?_)
              go_wp2_with fail
              refine (doc_same_eq (a := p.a) (b := q.a) (decide_eq_true hpq.out) hpo6.out.1.vs hpo6.out.2.vs hqo6.out.1.vs hqo6.out.2.vs (by have := hlen.out; omega) (by have := hlen.out; omega) (by rw [← hpq.out]; have := hlen.out; omega) (by rw [← hpq.out]; have := hlen.out; omega)).mono ?_
              rintro e w7 ⟨rfl, hc7⟩
              have fin := hid (hC16.out.trans_same hc7)
              clear hc7 hS6 hpo6 hqo6 hC16
              go_wp2_with fail
              refine hK2 _ _ rfl ?_
              clear hK2 K2
              refine stI_nil ?_
              go_wp2_with fail
              go_roundw
              case rel => exact ⟨i + 1, by omega, by go_num, fin⟩
              case measure => simp [intOf]; omega
            case' done2 =>
              intro hlt2
              have hi6 : ¬ ((i : Int) < 6) := by omega
              have hC15 := hid (hC14.out.trans_same hcr.out)
              clear hcr hC14 hX14 hY14
              go_wp2_with fail
              refine (awake_true _).mono ?_
              rintro e w9 ⟨rfl, hc⟩
              have fin := hid (hC15.out.trans_same hc)
              clear hc
              go_wp2_with fail
              go_ret
              exact ⟨rfl, fin.out.below (Nat.le_refl _) fun _ _ h => h⟩
end Go.Proofs.Ytkkocoalildgnaa
