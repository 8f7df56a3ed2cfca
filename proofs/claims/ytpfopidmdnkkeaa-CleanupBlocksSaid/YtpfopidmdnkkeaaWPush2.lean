/-
  Push of the program, where a value is added.
-/
import Derived.Test.YtpfopidmdnkkeaaWPush
namespace Go.Proofs.Ytpfopidmdnkkeaa
open Go.RowKit Go.Maps

section
variable {w w' : World} {c bm n : Nat} {ve vf tv : Value} {D : DataW Unit} {es : List En} {fl : Option Fl}
/-- The blocks of the program's list are different ones. -/
theorem OwnL.sep (h : OwnL w c ve bm vf tv n D es fl) : bm ≠ c ∧ ve.ownBlock ≠ some bm ∧ (∀ k, vf.ownBlock = some k → k ≠ c ∧ ve.ownBlock ≠ some k ∧ k ≠ bm) ∧ ∀ k, tv.ownBlock = some k → k ≠ c ∧ ve.ownBlock ≠ some k ∧ k ≠ bm := by
  refine ⟨map_not_row h.mp h.blk, map_not_own h.mp h.ent, ?_, ?_⟩
  · intro k hk
    have hf := h.fa
    cases fl with
    | none => rw [hf.1] at hk; simp [Value.ownBlock] at hk
    | some f =>
      obtain ⟨bf, rfl, hb, _⟩ := hf
      obtain rfl : bf = k := by simpa [Value.ownBlock] using hk
      exact ⟨hb.ne h.blk (by decide), hb.ne_row h.ent (by decide), fun e => map_not_row h.mp hb e.symm⟩
  · intro k hk
    have hf := h.fa
    cases fl with
    | none => rw [hf.2] at hk; simp [Value.ownBlock] at hk
    | some f =>
      obtain ⟨bf, rfl, _, ho⟩ := hf
      exact ⟨fun e => h.blk.ne_row ho (by decide) (by rw [← e]; exact hk), own_ne ho h.ent (by decide) hk, fun e => map_not_own h.mp ho (by rw [← e]; exact hk)⟩
theorem En.one (w : World) (x : En) (H : Nat) (hH : w.heap.size = H) : Rd (w.alloc (.cells x.cs.toArray 73)) 6 (some ⟨H, 0, none⟩) 1 x.cs := Rd.one w 73 6 x.cs rfl H hH
theorem En.ones1 (x : En) : ∀ u ∈ x.cs, u.oneCell' = true := by
  intro u hu
  simp [En.cs] at hu
  rcases hu with rfl | rfl | rfl | rfl | rfl | rfl <;> rfl
theorem ix_put {D : DataW Unit} {r : Int} {v : V} (U : Up es) (hix : ∀ i, i < es.length → D.atKey (.int .i64 (enAt es i).r) (.lit (.int .i64 0)) = .lit (.int .i64 ((i : Int) + 1))) (hD : IsMap D) (hl : ¬ (0 < es.length ∧ r ≤ (lastE es).r)) :
    ∀ i, i < (es ++ [(⟨r, v⟩ : En)]).length → (D.put (.int .i64 r) (.lit (.int .i64 ((es.length : Int) + 1)))).atKey (.int .i64 (enAt (es ++ [(⟨r, v⟩ : En)]) i).r) (.lit (.int .i64 0)) = .lit (.int .i64 ((i : Int) + 1)) := by
  intro i hi
  rw [List.length_append, List.length_singleton] at hi
  by_cases hi' : i < es.length
  · rw [enAt_app_lt hi']
    have hlt : (enAt es i).r < r := by
      have hlast : (lastE es).r < r := by
        rcases Int.lt_or_le (lastE es).r r with h' | h'
        · exact h'
        · exact absurd ⟨by omega, h'⟩ hl
      by_cases e : i = es.length - 1
      · subst e; exact hlast
      · exact Int.lt_trans (U.inc i (es.length - 1) (by omega) (by omega)) hlast
    rw [atKey_put_other (by intro e; injection e with _ e; omega)]
    exact hix i hi'
  · obtain rfl : i = es.length := by omega
    rw [enAt_app_eq, atKey_put_same hD (by simp [WideAt.IsKeyLit])]
theorem own_push_fin {w6 w7 : World} {A A5 : Option Addr} {cap c5 : Nat} {r : Int} {v : V} (h : OwnL w c (.slice A es.length cap) bm vf tv n D es fl) (h0 : 0 ≤ r) (h1 : r ≤ 2147483647) (hl : ¬ (0 < es.length ∧ r ≤ (lastE es).r))
    (F1 : Bk w6 c 71 [.slice A5 (es.length + 1) c5, .map (some bm), vf]) (F2 : w6.ownsRow 0 73 6 (.slice A5 (es.length + 1) c5) (es ++ [(⟨r, v⟩ : En)]).length ((es ++ [(⟨r, v⟩ : En)]).flatMap En.cs)) (F3 : w6.ownsMap Try.prog 3 (plainElem Try.prog 3) bm n D) (F4 : FaRep w6 vf tv fl)
    (F5 : Chg (ownF c (.slice A es.length cap) bm vf tv) w w6) (F6 : ∀ k, (Value.slice A5 (es.length + 1) c5).ownBlock = some k → (Value.slice A es.length cap).ownBlock = some k ∨ w.heap.size ≤ k)
    (hm7 : w7.ownsMap Try.prog 3 (plainElem Try.prog 3) bm (n + 1) (D.put (.int .i64 r) (.lit (.int .i64 ((es.length : Int) + 1))))) (hg7 : w6.drew.grownBy w7 (some bm)) : OwnPost w w7 c (.slice A es.length cap) bm vf tv n (es ++ [(⟨r, v⟩ : En)]) fl := by
  obtain ⟨s1, s2, s3, s4⟩ := h.sep
  have e1 := map_not_row F3 F1
  have e2 := map_not_own F3 F2
  have hc7 : Chg (fun k => k = bm) w6 w7 := (((Chg.refl (fun k => k = bm) w6).drew).grown hg7 fun k hk _ => by injection hk with hk; exact hk.symm)
  refine ⟨.slice A5 (es.length + 1) c5, vf, tv, n + 1, _, ⟨F1.chg hc7 (fun e => e1 e.symm), own_chg F2 hc7 (fun k hk e => e2 (by rw [← e]; exact hk)), hm7, ix_put h.up h.ix h.mp.isMap hl, h.up.app h0 h1 hl, F4.chg hc7 (fun k hk e => (s3 k hk).2.2 e) (fun k hk e => (s4 k hk).2.2 e)⟩, Nat.le_refl _, F5.trans hc7 (fun k _ e => .inr (.inr (.inl e))), ?_⟩
  intro k hk
  rcases hk with hk | hk | hk | hk | hk
  · exact .inl (.inl hk)
  · exact (F6 k hk).imp (fun e => .inr (.inl e)) id
  · exact .inl (.inr (.inr (.inl hk)))
  · exact .inl (.inr (.inr (.inr (.inl hk))))
  · exact .inl (.inr (.inr (.inr (.inr hk))))
set_option maxRecDepth 100000 in
set_option maxHeartbeats 4000000 in
theorem own_push_main (h : OwnL w c ve bm vf tv n D es fl) (r : Int) (v : V) (hn : es.length ≤ 1000) (hnn : n ≤ 100000) (h0 : 0 ≤ r) (h1 : r ≤ 2147483647) (hv0 : vok v = true) (ht0 : trueV v = true) (hl : ¬ (0 < es.length ∧ r ≤ (lastE es).r)) :
    Calls Try.prog 13 #[.pointer (some ⟨c, 0, none⟩), .int .i64 r, (.agg #[.int .i64 v.k, .int .i64 v.p, .int .i64 v.q, .string v.s, .int .i64 v.r])] w fun e w' => e = .returned (.int .i64 0) ∧ OwnPost w w' c ve bm vf tv n (es ++ [⟨r, v⟩]) fl := by
  have d0 : decide (r < 0) = false := by simp; omega
  have d1 : decide (2147483647 < r) = false := by simp; omega
  have hv := hid hv0
  have ht := hid ht0
  have hl := hid hl
  have hb0 := hid (Bk.new w 25 v.cs)
  obtain ⟨A, cap, hve, _⟩ := own_form h.ent
  obtain ⟨x, hx⟩ : ∃ x, Hid (lastE es = x) := ⟨_, hid rfl⟩
  subst hve
  have hL := hid h
  obtain ⟨i73, hi73, hz73, hs73, hb73⟩ := info_parts Try.info73
  clear hv0 ht0 h
  obtain ⟨pb, hpb⟩ : ∃ pb, Hid (decide (0 < es.length) = pb) := ⟨_, hid rfl⟩
  have hle : pb = true → decide (r ≤ x.r) = false := fun e => by
    have h2 := hl.out
    rw [hx.out] at h2
    have h3 := hpb.out
    rw [e] at h3
    simp at h3 ⊢
    omega
  cases pb
  all_goals
    first
      | have hle := hle rfl
      | clear hle
    go_enter Try.func13, Try.ntmps13
    go_wp2_with (first
      | (go_at_call 32; refine (val_valid_eq hv.out).mono ?_; rintro e w1 ⟨rfl, hc1⟩; have hb1 := hid (hb0.out.none_ hc1); obtain ⟨x0, x1, x2, x3, x4⟩ := V.box hb1.out; have hL1 := hid ((hL.out.none_ ((Chg.refl (fun _ => False) w).alloc _)).none_ hc1); have hC1 := hid (((Chg.refl (fun _ => False) w).alloc _).trans_same hc1); clear hc1)
      | (go_at_call 33; refine (own_true _ v ht.out).mono ?_; rintro e w2 ⟨rfl, hc2⟩; have hb2 := hid (hb1.out.none_ hc2); have hL2 := hid (hL1.out.none_ hc2); have c0 : w2.cell? ⟨c, 0, none⟩ = some (.slice A es.length cap) := hL2.out.blk.cell 0; have hC2 := hid (hC1.out.trans_same hc2); clear hc2)
      | (go_at_call 30; refine (last_entry_eq hx.out hpb.out rfl (Rd.of_own hL2.out.ent) hn).mono ?_; rintro e w3 ⟨rfl, hc3⟩; have hb3 := hid (((hb2.out.none_ hc3).alloc (.cells #[.int .i64 x.r, .int .i64 x.v.k, .int .i64 x.v.p, .int .i64 x.v.q, .string x.v.s, .int .i64 x.v.r] 73)).drew); have hL3 := hid (((hL2.out.none_ hc3).none_ ((Chg.refl (fun _ => False) w3).alloc (.cells #[.int .i64 x.r, .int .i64 x.v.k, .int .i64 x.v.p, .int .i64 x.v.q, .string x.v.s, .int .i64 x.v.r] 73))).none_ ((Chg.refl (fun _ => False) _).drew)); have hC3 := hid (((hC2.out.trans_same hc3).alloc (.cells #[.int .i64 x.r, .int .i64 x.v.k, .int .i64 x.v.p, .int .i64 x.v.q, .string x.v.s, .int .i64 x.v.r] 73)).drew); clear hc3))
    have hL4 := hid ((hL3.out.none_ (w' := ((w3.alloc (.cells #[.int .i64 x.r, .int .i64 x.v.k, .int .i64 x.v.p, .int .i64 x.v.q, .string x.v.s, .int .i64 x.v.r] 73)).alloc (.cells (En.cs ⟨r, v⟩).toArray 73)).drew) (((Chg.refl (fun _ => False) _).alloc _))))
    have hb4 := hid (hb3.out.none_ (w' := ((w3.alloc (.cells #[.int .i64 x.r, .int .i64 x.v.k, .int .i64 x.v.p, .int .i64 x.v.q, .string x.v.s, .int .i64 x.v.r] 73)).alloc (.cells (En.cs ⟨r, v⟩).toArray 73)).drew) (((Chg.refl (fun _ => False) _).alloc _)))
    have hr4 : Hid (Rd (((w3.alloc (.cells #[.int .i64 x.r, .int .i64 x.v.k, .int .i64 x.v.p, .int .i64 x.v.q, .string x.v.s, .int .i64 x.v.r] 73)).alloc (.cells (En.cs ⟨r, v⟩).toArray 73)).drew) 6 (some ⟨w3.heap.size + 1, 0, none⟩) 1 (En.cs ⟨r, v⟩)) := hid (En.one (w3.alloc (.cells #[.int .i64 x.r, .int .i64 x.v.k, .int .i64 x.v.p, .int .i64 x.v.q, .string x.v.s, .int .i64 x.v.r] 73)) ⟨r, v⟩ (w3.heap.size + 1) (by simp)).drew
    have hC4 : Hid (Chg (fun _ => False) w (((w3.alloc (.cells #[.int .i64 x.r, .int .i64 x.v.k, .int .i64 x.v.p, .int .i64 x.v.q, .string x.v.s, .int .i64 x.v.r] 73)).alloc (.cells (En.cs ⟨r, v⟩).toArray 73)).drew)) := hid (hC3.out.trans_same ((Chg.refl (fun _ => False) _).alloc _))
    refine wp_region_rc (id := 10) [.wl [0], .rd [1, 2, 3, 4, 5, 6, 7], .act 8] [9, 10, 11, 12] [] (fun w' => Bk w' c 71 [.slice A es.length cap, .map (some bm), vf] ∧ Bk w' w.heap.size 25 v.cs) (by kernel_rfl) 65 rfl (by kernel_rfl) (fun _ _ _ _ _ h => h) ⟨hL3.out.blk, hb3.out⟩ ?_
    refine steps_wlW ?_
    apply Exists.intro
    refine ⟨?_, ?_⟩
    focus
      intro w'
      iterate 1 (refine stW_step rfl (fun K hK => ?_); go_simp; refine hK _ ?_; clear hK K)
      exact stW_nil rfl
    refine steps_rdW ?_
    apply Exists.intro
    refine ⟨?_, ?_⟩
    focus
      rintro w' ⟨hS, hS2⟩
      have q0 : w'.cell? ⟨c, 0, none⟩ = some (.slice A es.length cap) := hS.cell 0
      obtain ⟨y0, y1, y2, y3, y4⟩ := V.box hS2
      clear hS hS2
      iterate 7 (refine stW_step rfl (fun K hK => ?_); go_simp; refine hK _ ?_; clear hK K)
      exact stW_nil rfl
    refine steps_act (o := ⟨_, _, _, _, _, _⟩) rfl (fun K2 hK2 => ?_)
    go_wp2
    refine hK2 _ _ ⟨hL4.out.blk, hb4.out⟩ rfl ?_
    clear hK2 K2
    refine steps_nil (l := [⟨_, _, _, _, _, _⟩, ⟨_, _, _, _, _, _⟩, ⟨_, _, _, _, _, _⟩, ⟨_, _, _, _, _, _⟩]) rfl (fun K2 hK2 => ?_)
    go_wp2_with ((with_reducible show wpList _ _ _ ((⟨some 52, _, _, _, _, _⟩ : Oper) :: _) _ _); refine wpList_append_rd (o := ⟨some 52, _, _, _, _, _⟩) rfl (.tmp 47) (.tmp 51) 68 rfl 73 i73 _ 6 56 Try.underlying68 hi73 hz73 hs73 hb73 rfl (by omega) (.slice A es.length cap) es.length _ rfl hL4.out.ent (some ⟨w3.heap.size + 1, 0, none⟩) 1 1 (En.cs ⟨r, v⟩) rfl hr4.out (En.ones1 _) (by unfold maxLen; omega) (by omega) (w3.heap.size + 2) (by simp) ?_; intro A5 c5 w5 hown5' hg5' hat5'; have hown5 := hid hown5'; have hg5 := hid hg5'; have hat5 := hid hat5'; have b5 := hid (hL4.out.blk.grown hg5' (Ne.symm (hL4.out.blk.ne_row hL4.out.ent (by decide)))); have k0 : w5.cell? ⟨c, 0, none⟩ = some (.slice A es.length cap) := b5.out.cell 0; have k2 : w5.frozen? ⟨c, 0, none⟩ = false := b5.out.frozen 0; clear hown5' hg5' hat5')
    refine hK2 _ _ rfl ?_
    clear hK2 K2
    refine stI_nil ?_
    obtain ⟨s1, s2, s3, s4⟩ := hL4.out.sep
    have hs6 : Chg (fun k => k = c ∨ (Value.slice A es.length cap).ownBlock = some k) _ (w5.setCell ⟨c, 0, none⟩ (.slice A5 (es.length + 1) c5)) := ((Chg.refl (fun k => k = c ∨ (Value.slice A es.length cap).ownBlock = some k) _).grown hg5.out (fun k hk _ => .inr hk)).setCell (p := ⟨c, 0, none⟩) (fun _ => .inl rfl) _
    have F : Hid (Bk (w5.setCell ⟨c, 0, none⟩ (.slice A5 (es.length + 1) c5)) c 71 [.slice A5 (es.length + 1) c5, .map (some bm), vf] ∧ ((w5.setCell ⟨c, 0, none⟩ (.slice A5 (es.length + 1) c5))).ownsRow 0 73 6 (.slice A5 (es.length + 1) c5) (es ++ [(⟨r, v⟩ : En)]).length ((es ++ [(⟨r, v⟩ : En)]).flatMap En.cs) ∧ ((w5.setCell ⟨c, 0, none⟩ (.slice A5 (es.length + 1) c5))).ownsMap Try.prog 3 (plainElem Try.prog 3) bm n D ∧ FaRep (w5.setCell ⟨c, 0, none⟩ (.slice A5 (es.length + 1) c5)) vf tv fl ∧ Chg (ownF c (.slice A es.length cap) bm vf tv) w (w5.setCell ⟨c, 0, none⟩ (.slice A5 (es.length + 1) c5)) ∧ (∀ k, (Value.slice A5 (es.length + 1) c5).ownBlock = some k → (Value.slice A es.length cap).ownBlock = some k ∨ w.heap.size ≤ k)) := hid (by
      refine ⟨b5.out.set_ 0 _, ?_, map_chg hL4.out.mp hs6 (fun e => e.elim (fun e => s1 e) fun e => s2 e), hL4.out.fa.chg hs6 (fun k hk e => e.elim (fun e => (s3 k hk).1 e) fun e => (s3 k hk).2.1 e) (fun k hk e => e.elim (fun e => (s4 k hk).1 e) fun e => (s4 k hk).2.1 e), ?_, ?_⟩
      · have h6 := own_far hown5.out (b5.out.ne_row hown5.out (by decide)) (p := ⟨c, 0, none⟩) (.slice A5 (es.length + 1) c5)
        simpa using h6
      · exact (hC4.out.mono fun _ _ h => h.elim).trans (hs6) fun k _ e => e.elim (fun e => .inl e) fun e => .inr (.inl e)
      · intro k hk
        rcases hat5.out k hk with e | e
        · exact .inl e
        · right
          have := hC3.out.size
          simp at this
          omega)
    clear hs6 s1 s2 s3 s4 k0 k2 b5 hown5 hg5 hat5 hr4 hC4
    generalize (w5.setCell ⟨c, 0, none⟩ (.slice A5 (es.length + 1) c5)) = w6 at F ⊢
    have hF := F
    clear F
    have hwr : (Lit.int .i64 r).wf = true := WalkArith.wf_i64 (by omega)
    have hwl : (Lit.int .i64 ((es.length : Int) + 1)).wf = true := WalkArith.wf_i64 (by omega)
    have hwr := hid hwr
    have hwl := hid hwl
    go_wp2
    refine wp_region_rc (id := 11) [.rd [0, 1, 2, 3, 4, 5, 6, 7, 8, 9]] [10] [] (fun w' => w'.cell? ⟨c, 0, none⟩ = some (.slice A5 (es.length + 1) c5) ∧ w'.cell? ⟨c, 1, none⟩ = some (.map (some bm))) (by kernel_rfl) 65 rfl (by kernel_rfl) (fun _ _ _ _ _ h => h) ⟨hF.out.1.cell 0, hF.out.1.cell 1⟩ ?_
    refine steps_rdW ?_
    apply Exists.intro
    refine ⟨?_, ?_⟩
    focus
      rintro w' ⟨q0, q1⟩
      iterate 10 (refine stW_step rfl (fun K hK => ?_); go_simp; refine hK _ ?_; clear hK K)
      exact stW_nil rfl
    refine steps_nil (l := [⟨_, _, _, _, _, _⟩]) rfl (fun K2 hK2 => ?_)
    go_wp2_with (at_mapUpdate; refine wpList_mapUpdate_own _ rfl _ _ _ 69 rfl 3 3 int_law Try.underlying69 _ bm n D rfl hF.out.2.2.1.drew (by unfold maxLen; omega) _ _ (.int .i64 r) rfl rfl (keyOf_int_mk Try.underlying3 hwr.out) _ [] (plainElem_int Try.underlying3 hwl.out) ?_; intro w7 hm7' hg7'; have fin := hid (own_push_fin (v := v) hL.out h0 h1 hl.out hF.out.1 hF.out.2.1 hF.out.2.2.1 hF.out.2.2.2.1 hF.out.2.2.2.2.1 hF.out.2.2.2.2.2 hm7' hg7'); clear hm7' hg7')
    refine hK2 _ _ rfl ?_
    clear hK2 K2
    refine stI_nil ?_
    go_wp2
    go_ret
    exact ⟨rfl, fin.out⟩
end
end Go.Proofs.Ytpfopidmdnkkeaa
