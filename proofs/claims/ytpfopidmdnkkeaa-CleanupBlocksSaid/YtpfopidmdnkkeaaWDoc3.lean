/-
  The document's list: pop, the error in flight, the arguments of closing.
-/
import Derived.Test.YtpfopidmdnkkeaaWDoc2
namespace Go.Proofs.Ytpfopidmdnkkeaa
open Go.RowKit Go.Maps

section
variable {w w' : World} {c : Nat} {vr vv tv : Value} {es : List En} {fl : Option Fl}
set_option maxRecDepth 100000 in
set_option maxHeartbeats 4000000 in
theorem doc_pop_no (h : DocL w c vr vv tv es fl) (r : Int) (hn : es.length ≤ 1000) (hl : es.length = 0 ∨ (lastE es).r < r) :
    Calls Try.prog 35 #[.pointer (some ⟨c, 0, none⟩), .int .i64 r] w fun e w' => e = .returned (.tuple #[(.agg #[.int .i64 V.zero.k, .int .i64 V.zero.p, .int .i64 V.zero.q, .string V.zero.s, .int .i64 V.zero.r]), .bool false]) ∧ Chg (fun _ => False) w w' := by
  obtain ⟨A, cap, hve, _⟩ := own_form h.reg
  subst hve
  have hcl := h.blk.lt
  by_cases h0 : es.length = 0
  · have c0 : w.cell? ⟨c, 0, none⟩ = some (.slice A 0 cap) := by have := h.blk.cell 0; rw [h0] at this; exact this
    clear h hn hl h0
    go_enter Try.func35, Try.ntmps35
    go_wp2
    (refine wp_region_rc (id := 1) [.rd [0, 1, 2, 3, 4, 5, 6, 7, 8, 9, 10, 11, 12, 13, 14, 15, 16, 17, 18, 19, 20, 21, 22, 23, 24, 25]] [] [] (fun w' => w' = _) (by kernel_rfl) 67 rfl (by kernel_rfl) (fun _ _ _ _ _ h => h) rfl ?_; refine steps_rdW ?_; apply Exists.intro; refine ⟨?_, ?_⟩; (focus (rintro w' rfl; (iterate 26 (refine stW_step rfl (fun K hK => ?_); go_simp; refine hK _ ?_; clear hK K)); exact stW_nil rfl)); refine steps_end rfl ?_)
    go_wp2
    exact bodyPost_ret (v := .tuple #[(.agg #[.int .i64 V.zero.k, .int .i64 V.zero.p, .int .i64 V.zero.q, .string V.zero.s, .int .i64 V.zero.r]), .bool false]) (by simp [results, Try.results35, go_sem, V.zero]) rfl ⟨rfl, ((Chg.refl _ w).alloc _).drew⟩
  · obtain ⟨m, hm⟩ : ∃ m, es.length = m + 1 := ⟨es.length - 1, by omega⟩
    obtain ⟨b, rfl, hbl, q0⟩ := Reg.at_ h.reg (i := m) (by omega)
    have hlt : decide ((enAt es m).r < r) = true := by
      unfold lastE at hl
      rw [hm, Nat.add_sub_cancel] at hl
      simp
      omega
    have c0 : w.cell? ⟨c, 0, none⟩ = some (.slice (some ⟨b, 0, none⟩) (m + 1) cap) := by have := h.blk.cell 0; rw [hm] at this; exact this
    generalize (enAt es m).r = x at q0 hlt
    have hml : m + 1 ≤ 1000 := by omega
    have z0 : (((m : Int) + 1) == 0) = false := by rw [beq_eq_false_iff_ne]; omega
    clear h hn hl h0 hm
    go_enter Try.func35, Try.ntmps35
    go_wp2
    have hw1 : IntKind.i64.wrap (m : Int) = m := by rw [IntKind.wrap_i64]; omega
    have hmc : (m : Int) < (m : Int) + 1 := by omega
    (refine wp_region_rc (id := 1) [.rd [0, 1, 2, 3, 4, 5, 6, 7, 8, 9, 10, 11, 12, 13, 14, 15, 16, 17, 18, 19, 20, 21, 22, 23, 24, 25]] [] [] (fun w' => w' = _) (by kernel_rfl) 67 rfl (by kernel_rfl) (fun _ _ _ _ _ h => h) rfl ?_; refine steps_rdW ?_; apply Exists.intro; refine ⟨?_, ?_⟩; (focus (rintro w' rfl; (iterate 26 (refine stW_step rfl (fun K hK => ?_); go_simp; refine hK _ ?_; clear hK K)); exact stW_nil rfl)); refine steps_end rfl ?_)
    go_wp2
    exact bodyPost_ret (v := .tuple #[(.agg #[.int .i64 V.zero.k, .int .i64 V.zero.p, .int .i64 V.zero.q, .string V.zero.s, .int .i64 V.zero.r]), .bool false]) (by simp [results, Try.results35, go_sem, V.zero]) rfl ⟨rfl, ((Chg.refl _ w).alloc _).drew⟩
theorem own_take {base e size m n cap : Nat} {A : Option Addr} {xs : List Value} (h : w.ownsRow base e size (.slice A n cap) n xs) (hm : m ≤ n) (ys : List Value) (hy : xs.take (m * size) = ys) : w.ownsRow base e size (.slice A m cap) m ys := by
  subst hy
  exact own_front h hm
theorem flat_takeV (rs : List V) (k : Nat) : (rs.flatMap V.cs).take (k * 5) = (rs.take k).flatMap V.cs := by
  induction k generalizing rs with
  | zero => simp
  | succ k ih =>
    cases rs with
    | nil => simp
    | cons a l =>
      rw [List.flatMap_cons, List.take_succ_cons, List.flatMap_cons, ← ih l, List.take_append]
      rw [List.take_of_length_le (by rw [V.cs_len]; omega), V.cs_len, show (k + 1) * 5 - 5 = k * 5 by omega]
theorem doc_pop_fin {A A' : Option Addr} {cap cap' m : Nat} {ob ob' : Obj} (h : DocL w c (.slice A es.length cap) (.slice A' es.length cap') tv es fl) (hm : es.length = m + 1) :
    DocPost w (((((w.setCell ⟨c, 0, none⟩ (.slice A m cap)).setCell ⟨c, 1, none⟩ (.slice A' m cap')).alloc ob).alloc ob').drew) c (.slice A es.length cap) (.slice A' es.length cap') tv (es.take m) fl := by
  have hc : Chg (fun k => k = c) w (((((w.setCell ⟨c, 0, none⟩ (.slice A m cap)).setCell ⟨c, 1, none⟩ (.slice A' m cap')).alloc ob).alloc ob').drew) :=
    (((((Chg.refl (fun k => k = c) w).setCell (p := ⟨c, 0, none⟩) (fun _ => rfl) _).setCell (p := ⟨c, 1, none⟩) (fun _ => rfl) _).alloc _).alloc _).drew
  obtain ⟨s1, s2, s3, s4, s5⟩ := h.sep
  have hl : (es.take m).length = m := by rw [List.length_take, hm]; omega
  refine ⟨.slice A m cap, .slice A' m cap', tv, ⟨((((h.blk.set_ 0 _).set_ 1 _).alloc _).alloc _), ?_, ?_, own_chg h.tra hc fun k hk e => s3 (by rw [← e]; exact hk)⟩, hc.mono fun k _ e => .inl e, ?_⟩
  · rw [hl]
    refine own_chg (own_take h.reg (by omega) _ ?_) hc fun k hk e => s1 (by rw [← e]; cases A <;> exact hk)
    rw [Nat.mul_one, List.map_take]
  · rw [hl]
    refine own_chg (own_take h.val (by omega) _ ?_) hc fun k hk e => s2 (by rw [← e]; cases A' <;> exact hk)
    rw [flat_takeV, vals_take]
  · intro k hk
    cases A <;> cases A' <;> exact .inl hk
set_option maxRecDepth 100000 in
set_option maxHeartbeats 4000000 in
theorem doc_pop_yes (h : DocL w c vr vv tv es fl) (r : Int) {m : Nat} (hm : es.length = m + 1) (hn : m < 1000) (hr : r ≤ (enAt es m).r) :
    Calls Try.prog 35 #[.pointer (some ⟨c, 0, none⟩), .int .i64 r] w fun e w' => e = .returned (.tuple #[(.agg #[.int .i64 ((enAt es m).v).k, .int .i64 ((enAt es m).v).p, .int .i64 ((enAt es m).v).q, .string ((enAt es m).v).s, .int .i64 ((enAt es m).v).r]), .bool true]) ∧ DocPost w w' c vr vv tv (es.take m) fl := by
  obtain ⟨A, cap, hve, hcap, _⟩ := own_form h.reg
  obtain ⟨A', cap', hvv, hcap', _⟩ := own_form h.val
  subst hve
  subst hvv
  have hcl := h.blk.lt
  obtain ⟨b, rfl, hbl, q0⟩ := Reg.at_ h.reg (i := m) (by omega)
  obtain ⟨b', o', rfl, hbl', y0, y1, y2, y3, y4⟩ := Vs.at_ (A := A') (rs := valsOf es) (by unfold Vs; rw [vals_len]; exact Rd.of_own h.val) (i := m) (by rw [vals_len]; omega)
  rw [vals_at (by omega)] at y0 y1 y2 y3 y4
  have hlt : decide ((enAt es m).r < r) = false := by simp; omega
  have c0 : w.cell? ⟨c, 0, none⟩ = some (.slice (some ⟨b, 0, none⟩) (m + 1) cap) := by have := h.blk.cell 0; rw [hm] at this; exact this
  have c1 : w.cell? ⟨c, 1, none⟩ = some (.slice (some ⟨b', o', none⟩) (m + 1) cap') := by have := h.blk.cell 1; rw [hm] at this; exact this
  have f0 := h.blk.frozen 0
  have f1 := h.blk.frozen 1
  have hL := hid h
  have hmm := hid hm
  have hml : m + 1 ≤ 1000 := by omega
  have hc1 : m + 1 ≤ cap := by omega
  have hc2 : m + 1 ≤ cap' := by omega
  have z0 : (((m : Int) + 1) == 0) = false := by rw [beq_eq_false_iff_ne]; omega
  generalize (enAt es m).r = x at q0 hlt
  generalize (enAt es m).v = y at y0 y1 y2 y3 y4
  clear h hn hr hm hcap hcap'
  go_enter Try.func35, Try.ntmps35
  go_wp2
  have hw1 : IntKind.i64.wrap (m : Int) = m := by rw [IntKind.wrap_i64]; omega
  have hmc : (m : Int) < (m : Int) + 1 := by omega
  (refine wp_region_rc (id := 1) [.rd [0, 1, 2, 3, 4, 5, 6, 7, 8, 9, 10, 11, 12, 13, 14, 15, 16, 17, 18, 19, 20, 21, 22, 23, 24, 25]] [] [] (fun w' => w' = _) (by kernel_rfl) 67 rfl (by kernel_rfl) (fun _ _ _ _ _ h => h) rfl ?_; refine steps_rdW ?_; apply Exists.intro; refine ⟨?_, ?_⟩; (focus (rintro w' rfl; (iterate 26 (refine stW_step rfl (fun K hK => ?_); go_simp; refine hK _ ?_; clear hK K)); exact stW_nil rfl)); refine steps_end rfl ?_)
  clear hw1 hmc
  go_wp2
  exact bodyPost_ret (v := .tuple #[(.agg #[.int .i64 y.k, .int .i64 y.p, .int .i64 y.q, .string y.s, .int .i64 y.r]), .bool true]) (by simp [results, Try.results35, go_sem]) rfl ⟨rfl, doc_pop_fin hL.out hmm.out⟩
theorem doc_fail_fin {w5 : World} {x : V} {l : List Pl} {A5 : Option Addr} {c5 : Nat} (h : DocL w c vr vv tv es fl) (hown : w5.ownsRow 0 64 3 (.slice A5 l.length c5) l.length (l.flatMap Pl.cs)) (hc : Chg (fun _ => False) w w5)
    (hat : ∀ k, (Value.slice A5 l.length c5).ownBlock = some k → w.heap.size ≤ k) : DocPost w (((put5 w5 c 2 x).setCell ⟨c, 7, none⟩ (.slice A5 l.length c5)).setCell ⟨c, 8, none⟩ (.bool true)) c vr vv tv es (some ⟨x, l⟩) := by
  obtain ⟨s1, s2, s3, s4, s5⟩ := h.sep
  have hcl := h.blk.lt
  have D : Chg (fun k => k = c) w5 (((put5 w5 c 2 x).setCell ⟨c, 7, none⟩ (.slice A5 l.length c5)).setCell ⟨c, 8, none⟩ (.bool true)) := ((put5_chg w5 c 2 x).setCell (p := ⟨c, 7, none⟩) (fun _ => rfl) _).setCell (p := ⟨c, 8, none⟩) (fun _ => rfl) _
  have C : Chg (fun k => k = c) w (((put5 w5 c 2 x).setCell ⟨c, 7, none⟩ (.slice A5 l.length c5)).setCell ⟨c, 8, none⟩ (.bool true)) := (hc.mono fun _ _ h => h.elim).trans_same D
  refine ⟨vr, vv, .slice A5 l.length c5, ⟨((((((((h.blk.none_ hc).set_ 2 _).set_ 3 _).set_ 4 _).set_ 5 _).set_ 6 _).set_ 7 _).set_ 8 _), own_chg h.reg C fun k hk e => s1 (by rw [← e]; exact hk), own_chg h.val C fun k hk e => s2 (by rw [← e]; exact hk), own_chg hown D fun k hk e => by have := hat k hk; omega⟩, C.mono fun k _ e => .inl e, ?_⟩
  intro k hk
  rcases hk with hk | hk | hk | hk
  · exact .inl (.inl hk)
  · exact .inl (.inr (.inl hk))
  · exact .inl (.inr (.inr (.inl hk)))
  · exact .inr (hat k hk)
set_option maxRecDepth 100000 in
set_option maxHeartbeats 4000000 in
theorem doc_fail (h : DocL w c vr vv tv es fl) (x : V) (A : Option Addr) (l : List Pl) (k : Nat) (hA : Rd w 3 A l.length (l.flatMap Pl.cs)) (hl : l.length ≤ 1000) :
    Calls Try.prog 36 #[.pointer (some ⟨c, 0, none⟩), .agg #[.int .i64 x.k, .int .i64 x.p, .int .i64 x.q, .string x.s, .int .i64 x.r, .slice A l.length k]] w fun e w' => e = .returned (.tuple #[]) ∧ DocPost w w' c vr vv tv es (some ⟨x, l⟩) := by
  obtain ⟨i64, hi64, hz64, hs64, hb64⟩ := info_parts Try.info64
  have hL := hid h
  have hA3 := hid (((hA.alloc (.cells #[.int .i64 x.k, .int .i64 x.p, .int .i64 x.q, .string x.s, .int .i64 x.r, .slice A l.length k] 30)).alloc (.cells #[] 64)).drew)
  have hb0 := hid (Bk.new w 30 [.int .i64 x.k, .int .i64 x.p, .int .i64 x.q, .string x.s, .int .i64 x.r, .slice A l.length k])
  have hb3 : Hid (Bk (((w.alloc (.cells #[.int .i64 x.k, .int .i64 x.p, .int .i64 x.q, .string x.s, .int .i64 x.r, .slice A l.length k] 30)).alloc (.cells #[] 64)).drew) w.heap.size 30 [.int .i64 x.k, .int .i64 x.p, .int .i64 x.q, .string x.s, .int .i64 x.r, .slice A l.length k]) := hid (hb0.out.alloc _)
  have hC3 : Hid (Chg (fun k => k = w.heap.size + 1) w (((w.alloc (.cells #[.int .i64 x.k, .int .i64 x.p, .int .i64 x.q, .string x.s, .int .i64 x.r, .slice A l.length k] 30)).alloc (.cells #[] 64)).drew)) := hid ((((Chg.refl _ w).alloc _).alloc _).drew)
  have hmade : Hid ((((w.alloc (.cells #[.int .i64 x.k, .int .i64 x.p, .int .i64 x.q, .string x.s, .int .i64 x.r, .slice A l.length k] 30)).alloc (.cells #[] 64)).drew).ownsRow 0 64 3 (.slice (some ⟨w.heap.size + 1, 0, none⟩) 0 0) 0 []) := hid (made_drew (w.alloc (.cells #[.int .i64 x.k, .int .i64 x.p, .int .i64 x.q, .string x.s, .int .i64 x.r, .slice A l.length k] 30)) 64 3 (by simp))
  have hcl := h.blk.lt
  clear h hA
  go_enter Try.func36, Try.ntmps36
  go_wp2
  refine wp_region_rc (id := 2) [.rd [0, 1, 2, 4, 5], .act 3, .act 6, .wl [7, 8, 9]] [10] [] (fun w' => Bk w' w.heap.size 30 [.int .i64 x.k, .int .i64 x.p, .int .i64 x.q, .string x.s, .int .i64 x.r, .slice A l.length k]) (by kernel_rfl) 19 rfl (by kernel_rfl) (fun _ _ _ _ _ h => h) hb0.out ?_
  refine steps_rdW ?_
  apply Exists.intro
  refine ⟨?_, ?_⟩
  focus
    rintro w' hS
    obtain ⟨x0, x1, x2, x3, x4, x5⟩ := FB.box hS
    clear hS
    iterate 5 (refine stW_step rfl (fun K hK => ?_); go_simp; refine hK _ ?_; clear hK K)
    exact stW_nil rfl
  refine steps_act (o := ⟨_, _, _, _, _, _⟩) rfl (fun K2 hK2 => ?_)
  go_wp2
  refine hK2 _ _ hb3.out rfl ?_
  clear hK2 K2
  refine steps_act (o := ⟨_, _, _, _, _, _⟩) rfl (fun K2 hK2 => ?_)
  go_wp2_with ((with_reducible show wpList _ _ _ ((⟨some 12, _, _, _, _, _⟩ : Oper) :: _) _ _); refine wpList_append_rd (o := ⟨some 12, _, _, _, _, _⟩) rfl (.tmp 9) (.tmp 11) 28 rfl 64 i64 _ 3 32 Try.underlying28 hi64 hz64 hs64 hb64 rfl (by omega) (.slice (some ⟨w.heap.size + 1, 0, none⟩) 0 0) 0 [] rfl hmade.out A l.length k (l.flatMap Pl.cs) rfl hA3.out (Pl.ones l) (by unfold maxLen; omega) (by omega) (w.heap.size + 2) (by simp) ?_; intro A5 c5 w5 hown5' hg5' hat5'; rw [Nat.zero_add, List.nil_append] at hown5'; rw [Nat.zero_add] at hat5'; have hown5 := hid hown5'; have hat5 : Hid (∀ k, (Value.slice A5 l.length c5).ownBlock = some k → w.heap.size ≤ k) := (hid fun k hk => (hat5' k hk).elim (fun e => (by have : w.heap.size + 1 = k := (by simpa [Value.ownBlock] using e); omega)) fun e => (by omega)); have hb5 := hid (hb3.out.grown hg5' (by simp [Value.ownBlock])); have hC5 := hid ((hC3.out.grown hg5' (fun k hk _ => by simpa [Value.ownBlock] using hk.symm)).mono (T := fun _ => False) (fun k hk e => by omega)); clear hown5' hg5' hat5')
  refine hK2 _ _ hb5.out rfl ?_
  clear hK2 K2
  refine steps_wlW ?_
  apply Exists.intro
  refine ⟨?_, ?_⟩
  focus
    intro w'
    iterate 3 (refine stW_step rfl (fun K hK => ?_); go_simp; refine hK _ ?_; clear hK K)
    exact stW_nil rfl
  have hB5 := hid (hL.out.blk.none_ hC5.out)
  have k2 := hB5.out.cell 2
  have k3 := hB5.out.cell 3
  have k4 := hB5.out.cell 4
  have k5 := hB5.out.cell 5
  have k6 := hB5.out.cell 6
  have k7 := hB5.out.cell 7
  have k8 := hB5.out.cell 8
  have hfz := fun j => hB5.out.frozen j
  simp only [List.getElem?_cons_succ, List.getElem?_cons_zero] at k2 k3 k4 k5 k6 k7 k8
  refine steps_nil (l := [⟨_, _, _, _, _, _⟩]) rfl (fun K2 hK2 => ?_)
  go_wp2
  refine hK2 _ _ rfl ?_
  clear hK2 K2
  refine stI_nil ?_
  go_wp2
  go_end0
  exact ⟨rfl, doc_fail_fin hL.out hown5.out hC5.out hat5.out⟩
set_option maxRecDepth 100000 in
set_option maxHeartbeats 4000000 in
theorem doc_failure (h : DocL w c vr vv tv es fl) {x : V} {b : Bool} {l : List Pl} (hx : failV fl = x) (hb : fl.isSome = b) (hm : (fl.getD Fl.zero).tr = l) (hl : l.length ≤ 1000) :
    Calls Try.prog 37 #[.pointer (some ⟨c, 0, none⟩)] w fun e w' => ∃ A k, e = .returned (.tuple #[.agg #[.int .i64 x.k, .int .i64 x.p, .int .i64 x.q, .string x.s, .int .i64 x.r, .slice A l.length k], .bool b]) ∧ OwnR w w' 64 3 (.slice A l.length k) l.length (l.flatMap Pl.cs) ∧ Chg (fun _ => False) w w' := by
  obtain ⟨i64, hi64, hz64, hs64, hb64⟩ := info_parts Try.info64
  have hcl := h.blk.lt
  cases fl with
  | none =>
    subst hx hb hm
    have c8 : w.cell? ⟨c, 8, none⟩ = some (.bool false) := h.blk.cell 8
    clear h
    go_enter Try.func37, Try.ntmps37
    go_wp2
    exact bodyPost_ret (v := .tuple #[.agg #[.int .i64 V.zero.k, .int .i64 V.zero.p, .int .i64 V.zero.q, .string V.zero.s, .int .i64 V.zero.r, .slice none 0 0], .bool false]) (by simp [results, Try.results37, go_sem, V.zero]) rfl ⟨none, 0, rfl, OwnR.nil _ _ _ _, (Chg.refl _ w).alloc _⟩
  | some f =>
    obtain ⟨fx, ftr⟩ := f
    obtain rfl : fx = x := hx
    obtain rfl : true = b := hb
    obtain rfl : ftr = l := hm
    obtain ⟨A0, k0, htv, _⟩ := own_form h.tra
    subst htv
    have c8 : w.cell? ⟨c, 8, none⟩ = some (.bool true) := h.blk.cell 8
    have hrd := Rd.of_own h.tra
    simp only [Option.getD_some] at hrd h
    have hblk : Hid (Bk w c 56 [vr, vv, .int .i64 fx.k, .int .i64 fx.p, .int .i64 fx.q, .string fx.s, .int .i64 fx.r, .slice A0 ftr.length k0, .bool true]) := hid h.blk
    have hA3 := hid (((hrd.alloc (.cells #[.int .i64 V.zero.k, .int .i64 V.zero.p, .int .i64 V.zero.q, .string V.zero.s, .int .i64 V.zero.r, .slice none 0 0] 30)).alloc (.cells #[] 64)).drew)
    have hB1 : Hid (Bk ((w.alloc (.cells #[.int .i64 V.zero.k, .int .i64 V.zero.p, .int .i64 V.zero.q, .string V.zero.s, .int .i64 V.zero.r, .slice none 0 0] 30)).drew) c 56 [vr, vv, .int .i64 fx.k, .int .i64 fx.p, .int .i64 fx.q, .string fx.s, .int .i64 fx.r, .slice A0 ftr.length k0, .bool true]) := hid (hblk.out.alloc _)
    have hB3 : Hid (Bk (((w.alloc (.cells #[.int .i64 V.zero.k, .int .i64 V.zero.p, .int .i64 V.zero.q, .string V.zero.s, .int .i64 V.zero.r, .slice none 0 0] 30)).alloc (.cells #[] 64)).drew) c 56 [vr, vv, .int .i64 fx.k, .int .i64 fx.p, .int .i64 fx.q, .string fx.s, .int .i64 fx.r, .slice A0 ftr.length k0, .bool true]) := hid ((hblk.out.alloc _).alloc _)
    have hz3 : Hid (Bk (((w.alloc (.cells #[.int .i64 V.zero.k, .int .i64 V.zero.p, .int .i64 V.zero.q, .string V.zero.s, .int .i64 V.zero.r, .slice none 0 0] 30)).alloc (.cells #[] 64)).drew) w.heap.size 30 [.int .i64 V.zero.k, .int .i64 V.zero.p, .int .i64 V.zero.q, .string V.zero.s, .int .i64 V.zero.r, .slice none 0 0]) := hid ((Bk.new w 30 [.int .i64 V.zero.k, .int .i64 V.zero.p, .int .i64 V.zero.q, .string V.zero.s, .int .i64 V.zero.r, .slice none 0 0]).alloc _)
    have hC3 : Hid (Chg (fun k => k = w.heap.size + 1) w (((w.alloc (.cells #[.int .i64 V.zero.k, .int .i64 V.zero.p, .int .i64 V.zero.q, .string V.zero.s, .int .i64 V.zero.r, .slice none 0 0] 30)).alloc (.cells #[] 64)).drew)) := hid ((((Chg.refl _ w).alloc _).alloc _).drew)
    have hmade : Hid ((((w.alloc (.cells #[.int .i64 V.zero.k, .int .i64 V.zero.p, .int .i64 V.zero.q, .string V.zero.s, .int .i64 V.zero.r, .slice none 0 0] 30)).alloc (.cells #[] 64)).drew).ownsRow 0 64 3 (.slice (some ⟨w.heap.size + 1, 0, none⟩) 0 0) 0 []) := hid (made_drew (w.alloc (.cells #[.int .i64 V.zero.k, .int .i64 V.zero.p, .int .i64 V.zero.q, .string V.zero.s, .int .i64 V.zero.r, .slice none 0 0] 30)) 64 3 (by simp))
    clear h hrd
    go_enter Try.func37, Try.ntmps37
    go_wp2
    refine wp_region_rc (id := 3) [.rd [0, 1, 2, 3, 4, 6, 7, 8, 9, 10], .act 5, .act 11, .wl [12]] [13, 14] [] (fun w' => Bk w' c 56 [vr, vv, .int .i64 fx.k, .int .i64 fx.p, .int .i64 fx.q, .string fx.s, .int .i64 fx.r, .slice A0 ftr.length k0, .bool true]) (by kernel_rfl) 27 rfl (by kernel_rfl) (fun _ _ _ _ _ h => h) hB1.out ?_
    refine steps_rdW ?_
    apply Exists.intro
    refine ⟨?_, ?_⟩
    focus
      rintro w' hS
      have q2 : w'.cell? ⟨c, 2, none⟩ = some (.int .i64 fx.k) := hS.cell 2
      have q3 : w'.cell? ⟨c, 3, none⟩ = some (.int .i64 fx.p) := hS.cell 3
      have q4 : w'.cell? ⟨c, 4, none⟩ = some (.int .i64 fx.q) := hS.cell 4
      have q5 : w'.cell? ⟨c, 5, none⟩ = some (.string fx.s) := hS.cell 5
      have q6 : w'.cell? ⟨c, 6, none⟩ = some (.int .i64 fx.r) := hS.cell 6
      have q7 : w'.cell? ⟨c, 7, none⟩ = some (.slice A0 ftr.length k0) := hS.cell 7
      clear hS
      iterate 10 (refine stW_step rfl (fun K hK => ?_); go_simp; refine hK _ ?_; clear hK K)
      exact stW_nil rfl
    refine steps_act (o := ⟨_, _, _, _, _, _⟩) rfl (fun K2 hK2 => ?_)
    go_wp2
    refine hK2 _ _ hB3.out rfl ?_
    clear hK2 K2
    refine steps_act (o := ⟨_, _, _, _, _, _⟩) rfl (fun K2 hK2 => ?_)
    go_wp2_with ((with_reducible show wpList _ _ _ ((⟨some 25, _, _, _, _, _⟩ : Oper) :: _) _ _); refine wpList_append_rd (o := ⟨some 25, _, _, _, _, _⟩) rfl (.tmp 19) (.tmp 24) 28 rfl 64 i64 _ 3 32 Try.underlying28 hi64 hz64 hs64 hb64 rfl (by omega) (.slice (some ⟨w.heap.size + 1, 0, none⟩) 0 0) 0 [] rfl hmade.out A0 ftr.length k0 (ftr.flatMap Pl.cs) rfl hA3.out (Pl.ones ftr) (by unfold maxLen; omega) (by omega) (w.heap.size + 2) (by simp) ?_; intro A5 c5 w5 hown5' hg5' hat5'; rw [Nat.zero_add, List.nil_append] at hown5'; rw [Nat.zero_add] at hat5'; have hown5 := hid hown5'; have hat5 : Hid (∀ k, (Value.slice A5 ftr.length c5).ownBlock = some k → w.heap.size ≤ k) := (hid fun k hk => (hat5' k hk).elim (fun e => (by have : w.heap.size + 1 = k := (by simpa [Value.ownBlock] using e); omega)) fun e => (by omega)); have hb5 := hid (hB3.out.grown hg5' (by simp [Value.ownBlock]; omega)); have hz5 := hid (hz3.out.grown hg5' (by simp [Value.ownBlock])); have hC5 := hid ((hC3.out.grown hg5' (fun k hk _ => by simpa [Value.ownBlock] using hk.symm)).mono (T := fun _ => False) (fun k hk e => by omega)); clear hown5' hg5' hat5')
    refine hK2 _ _ hb5.out rfl ?_
    clear hK2 K2
    refine steps_wlW ?_
    apply Exists.intro
    refine ⟨?_, ?_⟩
    focus
      intro w'
      iterate 1 (refine stW_step rfl (fun K hK => ?_); go_simp; refine hK _ ?_; clear hK K)
      exact stW_nil rfl
    obtain ⟨z0, z1, z2, z3, z4, z5⟩ := FB.box hz5.out
    have hfz := fun j => hz5.out.frozen j
    have hlz := hz5.out.lt
    refine steps_nil (l := [⟨_, _, _, _, _, _⟩, ⟨_, _, _, _, _, _⟩]) rfl (fun K2 hK2 => ?_)
    go_wp2
    refine hK2 _ _ rfl ?_
    clear hK2 K2
    refine stI_nil ?_
    go_wp2
    refine ret_flb (t := 2) (u := 3) (b := w.heap.size) (x := fx) (A := A5) (n := ftr.length) (k := c5) (bb := true) rfl rfl rfl rfl (put6_bk (y := fx) (tw := .slice A5 ftr.length c5) hz5.out) ⟨A5, c5, rfl, ⟨?_, ?_⟩, ?_⟩
    · exact own_chg hown5.out (put6_chg w5 w.heap.size fx _) fun k hk e => hz5.out.ne_row hown5.out (by decide) (by rw [← e]; exact hk)
    · exact hat5.out
    · exact hC5.out.trans (put6_chg _ w.heap.size fx _) fun k hk e => by omega
set_option maxRecDepth 100000 in
set_option maxHeartbeats 4000000 in
theorem doc_args (h : DocL w c vr vv tv es fl) (v : V) {x : V} (hx : failV fl = x) :
    Calls Try.prog 38 #[.pointer (some ⟨c, 0, none⟩), (.agg #[.int .i64 v.k, .int .i64 v.p, .int .i64 v.q, .string v.s, .int .i64 v.r])] w fun e w' => ∃ A k, e = .returned (.slice A 2 k) ∧ OwnR w w' 25 5 (.slice A 2 k) 2 ([v, x].flatMap V.cs) ∧ Chg (fun _ => False) w w' := by
  have hcl := h.blk.lt
  have hB0 : Hid (Bk ((w.alloc (.cells v.cs.toArray 25)).drew) c 56 [vr, vv, .int .i64 x.k, .int .i64 x.p, .int .i64 x.q, .string x.s, .int .i64 x.r, tv, .bool fl.isSome]) := hid (by have := h.blk.alloc (.cells v.cs.toArray 25); rw [hx] at this; exact this)
  have hb0 : Hid (Bk ((w.alloc (.cells v.cs.toArray 25)).drew) w.heap.size 25 v.cs) := hid (Bk.new w 25 v.cs)
  clear h hx
  go_enter Try.func38, Try.ntmps38
  go_wp2
  refine wp_region_rc (id := 3) [.rd [0, 1, 2, 3, 4, 5]] [6, 7] [] (fun w' => Bk w' c 56 [vr, vv, .int .i64 x.k, .int .i64 x.p, .int .i64 x.q, .string x.s, .int .i64 x.r, tv, .bool fl.isSome] ∧ Bk w' w.heap.size 25 v.cs) (by kernel_rfl) 14 rfl (by kernel_rfl) (fun _ _ _ _ _ h => h) ⟨hB0.out, hb0.out⟩ ?_
  refine steps_rdW ?_
  apply Exists.intro
  refine ⟨?_, ?_⟩
  focus
    rintro w' ⟨hS, hS2⟩
    have q2 : w'.cell? ⟨c, 2, none⟩ = some (.int .i64 x.k) := hS.cell 2
    have q3 : w'.cell? ⟨c, 3, none⟩ = some (.int .i64 x.p) := hS.cell 3
    have q4 : w'.cell? ⟨c, 4, none⟩ = some (.int .i64 x.q) := hS.cell 4
    have q5 : w'.cell? ⟨c, 5, none⟩ = some (.string x.s) := hS.cell 5
    have q6 : w'.cell? ⟨c, 6, none⟩ = some (.int .i64 x.r) := hS.cell 6
    obtain ⟨y0, y1, y2, y3, y4⟩ := V.box hS2
    clear hS hS2
    iterate 6 (refine stW_step rfl (fun K hK => ?_); go_simp; refine hK _ ?_; clear hK K)
    exact stW_nil rfl
  refine steps_nil (l := [⟨_, _, _, _, _, _⟩, ⟨_, _, _, _, _, _⟩]) rfl (fun K2 hK2 => ?_)
  go_wp2
  refine hK2 _ _ rfl ?_
  clear hK2 K2
  refine stI_nil ?_
  go_wp2
  go_ret
  exact ⟨_, _, rfl, (two_row w (w.alloc (.cells v.cs.toArray 25)) v x (by simp) (by omega)).drew, (((Chg.refl _ w).alloc _).alloc _).drew⟩
end
end Go.Proofs.Ytpfopidmdnkkeaa
