/-
  The document's list: push where a value is added, pop.
-/
import Derived.Test.YtpfopidmdnkkeaaWDoc
namespace Go.Proofs.Ytpfopidmdnkkeaa
open Go.RowKit Go.Maps

section
variable {w w' : World} {c : Nat} {vr vv tv : Value} {es : List En} {fl : Option Fl}
/-- The parts of the document's list lie in different blocks. -/
theorem DocL.sep (h : DocL w c vr vv tv es fl) : vr.ownBlock ≠ some c ∧ vv.ownBlock ≠ some c ∧ tv.ownBlock ≠ some c ∧ (∀ k, vr.ownBlock = some k → vv.ownBlock ≠ some k ∧ tv.ownBlock ≠ some k) ∧ ∀ k, vv.ownBlock = some k → tv.ownBlock ≠ some k :=
  ⟨h.blk.ne_row h.reg (by decide), h.blk.ne_row h.val (by decide), h.blk.ne_row h.tra (by decide), fun _ hk => ⟨own_ne h.reg h.val (by decide) hk, own_ne h.reg h.tra (by decide) hk⟩, fun _ hk => own_ne h.val h.tra (by decide) hk⟩
theorem doc_push_fin {w6 w7 : World} {A5 A7 : Option Addr} {c5 c7 m : Nat} {r : Int} {v : V} (_h : DocL w c vr vv tv es fl) (hm : es.length = m)
    (F1 : Bk w6 c 56 [.slice A5 (m + 1) c5, vv, .int .i64 ((failV fl)).k, .int .i64 ((failV fl)).p, .int .i64 ((failV fl)).q, .string ((failV fl)).s, .int .i64 ((failV fl)).r, tv, .bool fl.isSome]) (F2 : w6.ownsRow 0 3 1 (.slice A5 (m + 1) c5) (m + 1) ((es ++ [(⟨r, v⟩ : En)]).map fun e => .int .i64 e.r))
    (F3 : w6.ownsRow 0 25 5 vv es.length ((valsOf es).flatMap V.cs)) (F4 : w6.ownsRow 0 64 3 tv (fl.getD Fl.zero).tr.length ((fl.getD Fl.zero).tr.flatMap Pl.cs)) (F5 : Chg (docF c vr vv tv) w w6)
    (F6 : ∀ k, (Value.slice A5 (m + 1) c5).ownBlock = some k → vr.ownBlock = some k ∨ w.heap.size ≤ k)
    (G1 : w7.ownsRow 0 25 5 (.slice A7 (m + 1) c7) (m + 1) ((valsOf es).flatMap V.cs ++ v.cs)) (G2 : (w6.alloc (.cells v.cs.toArray 25)).drew.grownBy w7 vv.ownBlock) (G3 : ∀ k, (Value.slice A7 (m + 1) c7).ownBlock = some k → vv.ownBlock = some k ∨ k = w6.heap.size + 1) :
    DocPost w (w7.setCell ⟨c, 1, none⟩ (.slice A7 (m + 1) c7)) c vr vv tv (es ++ [⟨r, v⟩]) fl := by
  subst hm
  have e1 := F1.ne_row F2 (by decide)
  have e2 := F1.ne_row F3 (by decide)
  have e3 := F1.ne_row F4 (by decide)
  have hc7 : Chg (fun k => vv.ownBlock = some k) w6 w7 := (((Chg.refl (fun k => vv.ownBlock = some k) w6).alloc _).drew).grown G2 fun k hk _ => hk
  have hc8 : Chg (fun k => vv.ownBlock = some k ∨ k = c) w6 (w7.setCell ⟨c, 1, none⟩ (.slice A7 (es.length + 1) c7)) := (hc7.mono (T := fun k => vv.ownBlock = some k ∨ k = c) fun _ _ h => .inl h).setCell (p := ⟨c, 1, none⟩) (fun _ => .inr rfl) _
  have hz := F5.size
  have hv : (valsOf (es ++ [(⟨r, v⟩ : En)])).flatMap V.cs = (valsOf es).flatMap V.cs ++ v.cs := by simp [valsOf]
  have B7 := F1.chg hc7 e2
  have e7 := B7.ne_row G1 (by decide)
  refine ⟨.slice A5 (es.length + 1) c5, .slice A7 (es.length + 1) c7, tv, ⟨B7.set_ 1 _, ?_, ?_, own_chg F4 hc8 fun k hk e => e.elim (fun e => own_ne F4 F3 (by decide) hk e) fun e => e3 (by rw [← e]; exact hk)⟩, F5.trans hc8 fun k _ e => e.elim (fun e => .inr (.inr (.inl e))) fun e => .inl e, ?_⟩
  · rw [List.length_append, List.length_singleton]
    exact own_chg F2 hc8 fun k hk e => e.elim (fun e => own_ne F2 F3 (by decide) hk e) fun e => e1 (by rw [← e]; exact hk)
  · rw [List.length_append, List.length_singleton, hv]
    exact own_far G1 (p := ⟨c, 1, none⟩) e7 _
  · intro k hk
    rcases hk with hk | hk | hk | hk
    · exact .inl (.inl hk)
    · exact (F6 k hk).imp (fun e => .inr (.inl e)) id
    · rcases G3 k hk with e | e
      · exact .inl (.inr (.inr (.inl e)))
      · right; omega
    · exact .inl (.inr (.inr (.inr hk)))
set_option maxRecDepth 100000 in
set_option maxHeartbeats 4000000 in
theorem doc_push_main (h : DocL w c vr vv tv es fl) (r : Int) (v : V) (hn : es.length ≤ 1000) (h0 : 0 ≤ r) (h1 : r ≤ 2147483647) (hv0 : vok v = true) (ht0 : trueV v = true) (hl : ¬ (0 < es.length ∧ r ≤ (lastE es).r)) :
    Calls Try.prog 34 #[.pointer (some ⟨c, 0, none⟩), .int .i64 r, (.agg #[.int .i64 v.k, .int .i64 v.p, .int .i64 v.q, .string v.s, .int .i64 v.r])] w fun e w' => e = .returned (.int .i64 0) ∧ DocPost w w' c vr vv tv (es ++ [⟨r, v⟩]) fl := by
  have d0 : decide (r < 0) = false := by simp; omega
  have d1 : decide (2147483647 < r) = false := by simp; omega
  have hv := hid hv0
  have ht := hid ht0
  have hb0 := hid (Bk.new w 25 v.cs)
  obtain ⟨i25, hi25, hz25, hs25, hb25⟩ := info_parts Try.info25
  obtain ⟨i3, hi3, hz3, hs3, hb3⟩ := info_parts Try.info3
  obtain ⟨A, cap, hve, _⟩ := own_form h.reg
  obtain ⟨A', cap', hvv, _⟩ := own_form h.val
  subst hve
  subst hvv
  have hL := hid h
  have hcl := h.blk.lt
  obtain ⟨n, hn'⟩ : ∃ n, Hid (es.length = n) := ⟨_, hid rfl⟩
  have hnl : n ≤ 1000 := by have := hn'.out; omega
  -- the last register, where there is one
  obtain ⟨b, x, hlast⟩ : ∃ b x, Hid (n = 0 ∨ ∃ m, n = m + 1 ∧ A = some ⟨b, 0, none⟩ ∧ b < w.heap.size ∧ w.cell? ⟨b, m, none⟩ = some (.int .i64 x) ∧ x < r) := by
    rcases Nat.eq_zero_or_pos es.length with h0 | h0
    · exact ⟨0, 0, hid (.inl (by rw [← hn'.out]; exact h0))⟩
    · obtain ⟨m, hm⟩ : ∃ m, es.length = m + 1 := ⟨es.length - 1, by omega⟩
      obtain ⟨b, rfl, hbl, q0⟩ := Reg.at_ h.reg (i := m) (by omega)
      refine ⟨b, _, hid (.inr ⟨m, by rw [← hn'.out]; exact hm, rfl, hbl, q0, ?_⟩)⟩
      unfold lastE at hl
      rw [hm, Nat.add_sub_cancel] at hl
      omega
  have hreg : Hid (∀ W, Chg (fun _ => False) w W → W.ownsRow 0 3 1 (.slice A n cap) n (es.map fun e => .int .i64 e.r)) := hid fun W hc => by have := own_chg h.reg hc fun _ _ h => h; rw [hn'.out] at this; exact this
  have hfields : Hid (∀ W, Chg (fun _ => False) w W → Bk W c 56 [.slice A n cap, .slice A' n cap', .int .i64 ((failV fl)).k, .int .i64 ((failV fl)).p, .int .i64 ((failV fl)).q, .string ((failV fl)).s, .int .i64 ((failV fl)).r, tv, .bool fl.isSome]) := hid fun W hc => by have := h.blk.none_ hc; rw [hn'.out] at this; exact this
  rw [hn'.out] at hL
  rw [hn'.out]
  clear h hl hn hv0 ht0
  have key : ∀ w2 : World, Hid (Chg (fun _ => False) w w2) → Hid (Bk w2 w.heap.size 25 v.cs) → Hid (Chg (fun _ => False) w w2.drew ∧ Bk w2.drew w.heap.size 25 v.cs) := fun w2 h1 h2 => hid ⟨h1.out.drew, h2.out.drew⟩
  go_enter Try.func34, Try.ntmps34
  go_wp2_with (first
    | (go_at_call 26; refine (doc_valid_eq hv.out).mono ?_; rintro e w1 ⟨rfl, hc1⟩; have hb1 := hid (hb0.out.none_ hc1); obtain ⟨x0, x1, x2, x3, x4⟩ := V.box hb1.out; have hC1 := hid (((Chg.refl (fun _ => False) w).alloc _).trans_same hc1); clear hc1)
    | (go_at_call 27; refine (doc_true _ v ht.out).mono ?_; rintro e w2 ⟨rfl, hc2⟩; have hb2 := hid (hb1.out.none_ hc2); have hC2 := hid (hC1.out.trans_same hc2); have c0 : w2.cell? ⟨c, 0, none⟩ = some (.slice A n cap) := (hfields.out w2 hC2.out).cell 0; clear hc2))
  have hK := key w2 hC2 hb2
  clear key hb1 hC1 hb2
  have fin : ∀ (A5 : Option Addr) (c5 : Nat) (w5 : World), w5.ownsRow 0 3 1 (.slice A5 (n + 1) c5) (n + 1) ((es.map fun e => .int .i64 e.r) ++ [.int .i64 r]) → ((w2.alloc (.cells #[.int .i64 r] 3)).drew).grownBy w5 (Value.slice A n cap).ownBlock →
      (∀ k, (Value.slice A5 (n + 1) c5).ownBlock = some k → (Value.slice A n cap).ownBlock = some k ∨ k = w2.heap.size + 1) →
      Hid (Bk w5 c 56 [.slice A n cap, .slice A' n cap', .int .i64 ((failV fl)).k, .int .i64 ((failV fl)).p, .int .i64 ((failV fl)).q, .string ((failV fl)).s, .int .i64 ((failV fl)).r, tv, .bool fl.isSome] ∧ Bk (w5.setCell ⟨c, 0, none⟩ (.slice A5 (n + 1) c5)) c 56 [.slice A5 (n + 1) c5, .slice A' n cap', .int .i64 ((failV fl)).k, .int .i64 ((failV fl)).p, .int .i64 ((failV fl)).q, .string ((failV fl)).s, .int .i64 ((failV fl)).r, tv, .bool fl.isSome] ∧ (w5.setCell ⟨c, 0, none⟩ (.slice A5 (n + 1) c5)).ownsRow 0 3 1 (.slice A5 (n + 1) c5) (n + 1) ((es ++ [(⟨r, v⟩ : En)]).map fun e => .int .i64 e.r) ∧
        (w5.setCell ⟨c, 0, none⟩ (.slice A5 (n + 1) c5)).ownsRow 0 25 5 (.slice A' n cap') es.length ((valsOf es).flatMap V.cs) ∧ (w5.setCell ⟨c, 0, none⟩ (.slice A5 (n + 1) c5)).ownsRow 0 64 3 tv (fl.getD Fl.zero).tr.length ((fl.getD Fl.zero).tr.flatMap Pl.cs) ∧
        Chg (docF c (.slice A n cap) (.slice A' n cap') tv) w (w5.setCell ⟨c, 0, none⟩ (.slice A5 (n + 1) c5)) ∧ (∀ k, (Value.slice A5 (n + 1) c5).ownBlock = some k → (Value.slice A n cap).ownBlock = some k ∨ w.heap.size ≤ k) ∧ Bk (w5.setCell ⟨c, 0, none⟩ (.slice A5 (n + 1) c5)) w.heap.size 25 v.cs) := by
    intro A5 c5 w5 hown5 hg5 hat5
    have hC4 : Chg (fun _ => False) w ((w2.alloc (.cells #[.int .i64 r] 3)).drew) := (hC2.out.alloc _).drew
    have hx4 : Bk ((w2.alloc (.cells #[.int .i64 r] 3)).drew) w.heap.size 25 v.cs := (hK.out.2.alloc (.cells #[.int .i64 r] 3))
    have hL4 := hL.out.none_ hC4
    obtain ⟨s1, s2, s3, s4, s5⟩ := hL4.sep
    have hs5 : Chg (fun k => (Value.slice A n cap).ownBlock = some k) ((w2.alloc (.cells #[.int .i64 r] 3)).drew) w5 := (Chg.refl _ _).grown hg5 fun k hk _ => hk
    have hs6 : Chg (fun k => (Value.slice A n cap).ownBlock = some k ∨ k = c) ((w2.alloc (.cells #[.int .i64 r] 3)).drew) (w5.setCell ⟨c, 0, none⟩ (.slice A5 (n + 1) c5)) := (hs5.mono (T := fun k => (Value.slice A n cap).ownBlock = some k ∨ k = c) fun _ _ h => .inl h).setCell (p := ⟨c, 0, none⟩) (fun _ => .inr rfl) _
    have B5 := (hfields.out _ hC4).chg hs5 s1
    refine hid ⟨B5, B5.set_ 0 _, ?_, own_chg hL4.val hs6 fun k hk e => e.elim (fun e => (s4 k e).1 hk) fun e => s2 (by rw [← e]; exact hk), own_chg hL4.tra hs6 fun k hk e => e.elim (fun e => (s4 k e).2 hk) fun e => s3 (by rw [← e]; exact hk), ?_, ?_, ?_⟩
    · have h6 := own_far hown5 (B5.ne_row hown5 (by decide)) (p := ⟨c, 0, none⟩) (.slice A5 (n + 1) c5)
      rw [List.map_append]
      exact h6
    · exact (hC4.mono fun _ _ h => h.elim).trans hs6 fun k _ e => e.elim (fun e => .inr (.inl e)) fun e => .inl e
    · intro k hk
      rcases hat5 k hk with e | e
      · exact .inl e
      · right
        have := hC2.out.size
        omega
    · refine hx4.chg hs6 fun e => e.elim (fun e => hx4.ne_row hL4.reg (by decide) e) fun e => by omega
  have hfin := hid fin
  clear fin
  have hw1 : ∀ m : Nat, n = m + 1 → IntKind.i64.wrap ((n : Int) - 1) = m := fun m hm => by rw [IntKind.wrap_i64]; omega
  have hw1 := hid hw1
  rcases hlast.out with h00 | ⟨m, hm, hA, hbl, hq, hxr⟩
  case' inl =>
    have dn : decide (0 < n) = false := by simp; omega
    clear h00
    (refine wp_region_rc (id := 7) [.rd [0, 1, 2, 3, 4, 5, 6, 7, 8, 9, 10, 11, 12, 13, 14, 15, 16, 17, 18, 19, 20, 21]] [] [] (fun w' => w' = _) (by kernel_rfl) 65 rfl (by kernel_rfl) (fun _ _ _ _ _ h => h) rfl ?_; refine steps_rdW ?_; apply Exists.intro; refine ⟨?_, ?_⟩; (focus (rintro w' rfl; (iterate 22 (refine stW_step rfl (fun K hK => ?_); go_simp; refine hK _ ?_; clear hK K)); exact stW_nil rfl)); refine steps_end rfl ?_)
    clear dn
  case' inr =>
    subst hA
    have q1 : w2.cell? ⟨b, m, none⟩ = some (.int .i64 x) := hC2.out.of_cell hq hbl id
    have dx : decide (r ≤ x) = false := by simp; omega
    have dn : decide (0 < n) = true := by simp; omega
    have hmc : (m : Int) < (n : Int) := by omega
    have hw2 := hw1.out m hm
    clear hq hxr hm
    (refine wp_region_rc (id := 7) [.rd [0, 1, 2, 3, 4, 5, 6, 7, 8, 9, 10, 11, 12, 13, 14, 15, 16, 17, 18, 19, 20, 21]] [] [] (fun w' => w' = _) (by kernel_rfl) 65 rfl (by kernel_rfl) (fun _ _ _ _ _ h => h) rfl ?_; refine steps_rdW ?_; apply Exists.intro; refine ⟨?_, ?_⟩; (focus (rintro w' rfl; (iterate 22 (refine stW_step rfl (fun K hK => ?_); go_simp; refine hK _ ?_; clear hK K)); exact stW_nil rfl)); refine steps_end rfl ?_)
    clear hw2 hmc q1 dx dn
  all_goals
    clear hlast hw1
    have hr4 : Hid (Rd ((w2.alloc (.cells #[.int .i64 r] 3)).drew) 1 (some ⟨w2.heap.size, 0, none⟩) 1 [.int .i64 r]) := hid (Rd.one w2 3 1 [.int .i64 r] rfl _ rfl).drew
    have hreg4 := hid (hreg.out ((w2.alloc (.cells #[.int .i64 r] 3)).drew) ((hC2.out.alloc _).drew))
    go_wp2_with ((with_reducible show wpList _ _ _ ((⟨some 52, _, _, _, _, _⟩ : Oper) :: _) _ _); refine wpList_append_rd (o := ⟨some 52, _, _, _, _, _⟩) rfl (.tmp 49) (.tmp 51) 54 rfl 3 i3 _ 1 8 Try.underlying54 hi3 hz3 hs3 hb3 rfl (by omega) _ n _ rfl hreg4.out (some ⟨w2.heap.size, 0, none⟩) 1 1 [.int .i64 r] rfl hr4.out (by simp [Value.oneCell']) (by unfold maxLen; omega) (by omega) (w2.heap.size + 1) (by simp) ?_; intro A5 c5 w5 hown5' hg5' hat5'; have hF := hfin.out A5 c5 w5 hown5' hg5' hat5'; have k0 := hF.out.1.cell 0; have kf : w5.frozen? ⟨c, 0, none⟩ = false := hF.out.1.frozen 0; have hG := hid hF.out.2; clear hown5' hg5' hat5' hF)
    clear k0 kf hr4 hreg4 hfin hreg
    generalize (w5.setCell ⟨c, 0, none⟩ (.slice A5 (n + 1) c5)) = w6 at hG ⊢
    have hr6 : Hid (Rd ((w6.alloc (.cells v.cs.toArray 25)).drew) 5 (some ⟨w6.heap.size, 0, none⟩) 1 v.cs) := hid (Rd.one w6 25 5 v.cs rfl _ rfl).drew
    have hv6 : Hid (((w6.alloc (.cells v.cs.toArray 25)).drew).ownsRow 0 25 5 (.slice A' n cap') n ((valsOf es).flatMap V.cs)) := hid (by have h' := own_chg hG.out.2.2.1 (((Chg.refl (fun _ => False) w6).alloc (.cells v.cs.toArray 25)).drew) fun _ _ h => h; rw [hn'.out] at h'; exact h')
    have hB6 : Hid (Bk ((w6.alloc (.cells v.cs.toArray 25)).drew) c 56 [.slice A5 (n + 1) c5, .slice A' n cap', .int .i64 ((failV fl)).k, .int .i64 ((failV fl)).p, .int .i64 ((failV fl)).q, .string ((failV fl)).s, .int .i64 ((failV fl)).r, tv, .bool fl.isSome] ∧ Bk ((w6.alloc (.cells v.cs.toArray 25)).drew) w.heap.size 25 v.cs) := hid ⟨hG.out.1.alloc _, hG.out.2.2.2.2.2.2.alloc _⟩
    refine wp_region_rc (id := 10) [.wl [0], .rd [1, 2, 3, 4, 5], .act 6] [7, 8, 9, 10] [] (fun w' => Bk w' c 56 [.slice A5 (n + 1) c5, .slice A' n cap', .int .i64 ((failV fl)).k, .int .i64 ((failV fl)).p, .int .i64 ((failV fl)).q, .string ((failV fl)).s, .int .i64 ((failV fl)).r, tv, .bool fl.isSome] ∧ Bk w' w.heap.size 25 v.cs) (by kernel_rfl) 65 rfl (by kernel_rfl) (fun _ _ _ _ _ h => h) ⟨hG.out.1, hG.out.2.2.2.2.2.2⟩ ?_
    refine steps_wlW ?_
    apply Exists.intro
    refine ⟨?_, ?_⟩
    focus
      intro w'
      iterate 1 (refine stW_step rfl (fun K hK => ?_); go_simp; refine hK _ ?_; clear hK K)
      exact stW_nil rfl
    refine steps_rdW ?_
    apply Exists.intro
    refine ⟨?_, ?_⟩
    focus
      rintro w' ⟨hS, hS2⟩
      have q0 : w'.cell? ⟨c, 1, none⟩ = some (.slice A' n cap') := hS.cell 1
      obtain ⟨y0, y1, y2, y3, y4⟩ := V.box hS2
      clear hS hS2
      iterate 5 (refine stW_step rfl (fun K hK => ?_); go_simp; refine hK _ ?_; clear hK K)
      exact stW_nil rfl
    refine steps_act (o := ⟨_, _, _, _, _, _⟩) rfl (fun K2 hK2 => ?_)
    go_wp2
    refine hK2 _ _ hB6.out rfl ?_
    clear hK2 K2
    refine steps_nil (l := [⟨_, _, _, _, _, _⟩, ⟨_, _, _, _, _, _⟩, ⟨_, _, _, _, _, _⟩, ⟨_, _, _, _, _, _⟩]) rfl (fun K2 hK2 => ?_)
    go_wp2_with ((with_reducible show wpList _ _ _ ((⟨some 62, _, _, _, _, _⟩ : Oper) :: _) _ _); refine wpList_append_rd (o := ⟨some 62, _, _, _, _, _⟩) rfl (.tmp 59) (.tmp 61) 38 rfl 25 i25 _ 5 48 Try.underlying38 hi25 hz25 hs25 hb25 rfl (by omega) (.slice A' n cap') n _ rfl hv6.out (some ⟨w6.heap.size, 0, none⟩) 1 1 v.cs rfl hr6.out (V.ones1 v) (by unfold maxLen; omega) (by omega) (w6.heap.size + 1) (by simp) ?_; intro A7 c7 w7 hown7' hg7' hat7'; have b7 := hB6.out.1.grown hg7' (Ne.symm (hB6.out.1.ne_row hv6.out (by decide))); have k1 : w7.cell? ⟨c, 1, none⟩ = some (.slice A' n cap') := b7.cell 1; have k2 : w7.frozen? ⟨c, 1, none⟩ = false := b7.frozen 1; have fin := hid (doc_push_fin hL.out hn'.out hG.out.1 hG.out.2.1 hG.out.2.2.1 hG.out.2.2.2.1 hG.out.2.2.2.2.1 hG.out.2.2.2.2.2.1 hown7' hg7' hat7'); clear b7 hown7' hg7' hat7')
    refine hK2 _ _ rfl ?_
    clear hK2 K2
    refine stI_nil ?_
    go_wp2
    go_ret
    exact ⟨rfl, fin.out⟩
end
end Go.Proofs.Ytpfopidmdnkkeaa
