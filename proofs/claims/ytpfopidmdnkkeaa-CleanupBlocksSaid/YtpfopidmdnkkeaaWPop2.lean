/-
  Pop of the program, where there is a value.
-/
import Derived.Test.YtpfopidmdnkkeaaWPop
namespace Go.Proofs.Ytpfopidmdnkkeaa
open Go.RowKit Go.Maps

section
variable {w w' : World} {c bm n : Nat} {ve vf tv : Value} {D : DataW Unit} {es : List En} {fl : Option Fl}
/-- The front of an own list, in the same block. -/
theorem own_front {w : World} {base : Nat} {e : TypeId} {size n k cap : Nat} {A : Option Addr} {xs : List Value} (h : w.ownsRow base e size (.slice A n cap) n xs) (hk : k ≤ n) : w.ownsRow base e size (.slice A k cap) k (xs.take (k * size)) := by
  have hks : k * size ≤ n * size := Nat.mul_le_mul_right _ hk
  refine ⟨by rw [List.length_take, h.1]; omega, ?_⟩
  rcases h.2 with ⟨e1, e2⟩ | ⟨g, cap', cur, e1, hb, hh, h1, h2, h3, h4⟩
  · injection e1 with e1 e3 e4
    subst e1 e4
    obtain rfl : k = 0 := by omega
    exact .inl ⟨rfl, rfl⟩
  · injection e1 with e1 e3 e4
    subst e1 e4
    exact .inr ⟨g, cap, cur, rfl, hb, hh, by omega, h2, h3, by rw [← h4, List.take_take, Nat.min_eq_left hks]⟩
theorem flat_take (es : List En) (k : Nat) : (es.flatMap En.cs).take (k * 6) = (es.take k).flatMap En.cs := by
  induction k generalizing es with
  | zero => simp
  | succ k ih =>
    cases es with
    | nil => simp
    | cons a l =>
      rw [List.flatMap_cons, List.take_succ_cons, List.flatMap_cons, ← ih l, List.take_append]
      rw [List.take_of_length_le (by rw [En.cs_len]; omega), En.cs_len, show (k + 1) * 6 - 6 = k * 6 by omega]
theorem zero3 (w : World) : (zeroValue 3).run Try.prog w = .ok (.int .i64 0) w := by kernel_rfl
theorem own_pop_fin {w6 w7 : World} {A : Option Addr} {cap m : Nat} (h : OwnL w c (.slice A (m + 1) cap) bm vf tv n D es fl) (hm : es.length = m + 1)
    (F1 : Bk w6 c 71 [.slice A m cap, .map (some bm), vf]) (F2 : w6.ownsRow 0 73 6 (.slice A m cap) (es.take m).length ((es.take m).flatMap En.cs)) (F3 : w6.ownsMap Try.prog 3 (plainElem Try.prog 3) bm n D) (F4 : FaRep w6 vf tv fl)
    (F5 : Chg (ownF c (.slice A (m + 1) cap) bm vf tv) w w6)
    (hm7 : w7.ownsMap Try.prog 3 (plainElem Try.prog 3) bm n (D.del (.int .i64 (enAt es m).r))) (hg7 : w6.drew.drew.grownBy w7 (some bm)) : OwnPost w w7 c (.slice A (m + 1) cap) bm vf tv n (es.take m) fl := by
  obtain ⟨s1, s2, s3, s4⟩ := h.sep
  have e1 := map_not_row F3 F1
  have e2 := map_not_own F3 F2
  have hc7 : Chg (fun k => k = bm) w6 w7 := (((Chg.refl (fun k => k = bm) w6).drew.drew).grown hg7 fun k hk _ => by injection hk with hk; exact hk.symm)
  refine ⟨.slice A m cap, vf, tv, n, _, ⟨F1.chg hc7 (fun e => e1 e.symm), own_chg F2 hc7 (fun k hk e => e2 (by rw [← e]; exact hk)), hm7, ?_, h.up.take m, F4.chg hc7 (fun k hk e => (s3 k hk).2.2 e) (fun k hk e => (s4 k hk).2.2 e)⟩, Nat.le_succ _, F5.trans hc7 (fun k _ e => .inr (.inr (.inl e))), ?_⟩
  · intro i hi
    rw [List.length_take] at hi
    have hlt := h.up.inc i m (by omega) (by omega)
    rw [enAt_take (by omega), atKey_del_other (by intro e; injection e with _ e; omega)]
    exact h.ix i (by omega)
  · intro k hk
    cases A <;> exact .inl hk
theorem FaRep.not_val {b : Nat} {cs : List Value} (h : FaRep w vf tv fl) (hb : Bk w b 25 cs) : vf.ownBlock ≠ some b ∧ tv.ownBlock ≠ some b := by
  cases fl with
  | none => rw [h.1, h.2]; simp [Value.ownBlock]
  | some f =>
    obtain ⟨bf, rfl, h1, h2⟩ := h
    refine ⟨fun e => ?_, hb.ne_row h2 (by decide)⟩
    obtain rfl : bf = b := by simpa [Value.ownBlock] using e
    exact h1.ne hb (by decide) rfl
theorem OwnL.not_val {b : Nat} {cs : List Value} (h : OwnL w c ve bm vf tv n D es fl) (hb : Bk w b 25 cs) : ¬ ownF c ve bm vf tv b := by
  rintro (e | e | e | e | e)
  · subst e; exact h.blk.ne hb (by decide) rfl
  · exact hb.ne_row h.ent (by decide) e
  · exact map_not_row h.mp hb e.symm
  · exact (h.fa.not_val hb).1 e
  · exact (h.fa.not_val hb).2 e
/-- A value is stored into a box of the call's own beside it. -/
theorem OwnPost.beside {es1 : List En} {fl1 : Option Fl} {b : Nat} {cs : List Value} (h : OwnPost w w' c ve bm vf tv n es1 fl1) (hb : Bk w' b 25 cs) (hge : w.heap.size ≤ b) (v : V) : OwnPost w (put5 w' b 0 v) c ve bm vf tv n es1 fl1 := by
  obtain ⟨ve1, vf1, tv1, n1, D1, hL, hn, hc, hf⟩ := h
  exact ⟨ve1, vf1, tv1, n1, D1, hL.chg (put5_chg w' b 0 v) (fun k hk e => hL.not_val hb (by rw [← e]; exact hk)), hn, hc.put5 (fun h => absurd h (by omega)) 0 v, hf⟩
set_option maxRecDepth 100000 in
set_option maxHeartbeats 4000000 in
theorem own_pop_yes (h : OwnL w c ve bm vf tv n D es fl) (r : Int) {m : Nat} (hm : es.length = m + 1) (hn : m < 1000) (hr : r ≤ (enAt es m).r) :
    Calls Try.prog 11 #[.pointer (some ⟨c, 0, none⟩), .int .i64 r] w fun e w' => e = .returned (.tuple #[(.agg #[.int .i64 ((enAt es m).v).k, .int .i64 ((enAt es m).v).p, .int .i64 ((enAt es m).v).q, .string ((enAt es m).v).s, .int .i64 ((enAt es m).v).r]), .bool true]) ∧ OwnPost w w' c ve bm vf tv n (es.take m) fl := by
  obtain ⟨A, cap, hve, hcap, _⟩ := own_form h.ent
  rw [hm] at hve hcap
  have hx : Hid (lastE es = enAt es m) := hid (by unfold lastE; rw [hm, Nat.add_sub_cancel])
  have hix := hid (h.ix m (by omega))
  have hlo := h.up.lo m (by omega)
  subst hve
  have hL := hid h
  have hpb : Hid (decide (0 < es.length) = true) := hid (by simpa using by omega)
  have hd : decide ((enAt es m).r < r) = false := by simp; omega
  have hL0 := hid (h.none_ ((Chg.refl (fun _ => False) w).alloc (.cells #[.int .i64 V.zero.k, .int .i64 V.zero.p, .int .i64 V.zero.q, .string V.zero.s, .int .i64 V.zero.r] 25)))
  have hcl : c < w.heap.size := h.blk.lt
  have c00 : w.cell? ⟨c, 0, none⟩ = some (.slice A (m + 1) cap) := h.blk.cell 0
  have hmm := hid hm
  have hel : Hid (es.length ≤ 1000) := hid (by omega)
  have hrd : Hid (Rd (w.alloc (.cells #[.int .i64 V.zero.k, .int .i64 V.zero.p, .int .i64 V.zero.q, .string V.zero.s, .int .i64 V.zero.r] 25)) 6 A es.length (es.flatMap En.cs)) := hid (by have h' := hL0.out.ent; rw [hmm.out] at h' ⊢; exact Rd.of_own h')
  clear h hm hr
  go_enter Try.func11, Try.ntmps11
  go_wp2_with (go_at_call 30; refine (last_entry_eq hx.out hpb.out hmm.out hrd.out hel.out).mono ?_; rintro e w3 ⟨rfl, hc3⟩; have hz3 := hid ((Bk.new w 25 V.zero.cs).none_ hc3); have hL3 := hid (hL0.out.none_ hc3); have hC3 := hid (((Chg.refl (fun _ => False) w).alloc _).trans_same hc3); clear hc3)
  have hL4 := hid ((hL3.out.none_ ((Chg.refl (fun _ => False) w3).alloc (.cells #[.int .i64 (enAt es m).r, .int .i64 ((enAt es m).v).k, .int .i64 ((enAt es m).v).p, .int .i64 ((enAt es m).v).q, .string ((enAt es m).v).s, .int .i64 ((enAt es m).v).r] 73))).none_ ((Chg.refl (fun _ => False) _).drew))
  have he4 : Hid (Bk ((w3.alloc (.cells #[.int .i64 (enAt es m).r, .int .i64 ((enAt es m).v).k, .int .i64 ((enAt es m).v).p, .int .i64 ((enAt es m).v).q, .string ((enAt es m).v).s, .int .i64 ((enAt es m).v).r] 73)).drew) w3.heap.size 73 (enAt es m).cs) := hid (Bk.new w3 73 (enAt es m).cs).drew
  have hwr : Hid ((Lit.int .i64 (enAt es m).r).wf = true) := hid (WalkArith.wf_i64 (by omega))
  have hw1 : IntKind.i64.wrap (m : Int) = m := by rw [IntKind.wrap_i64]; omega
  have hmc : (0 : Int) ≤ m ∧ (m : Int) ≤ cap := by omega
  refine wp_region_rc (id := 6) [.rd [0, 1, 2, 3, 4, 5, 6, 7, 8, 9, 10, 11, 12, 13, 14, 15]] [16] [] (fun w' => Bk w' c 71 [.slice A (m + 1) cap, .map (some bm), vf] ∧ w'.ownsMap Try.prog 3 (plainElem Try.prog 3) bm n D ∧ Bk w' w3.heap.size 73 (enAt es m).cs) (by kernel_rfl) 52 rfl (by kernel_rfl) (fun _ _ _ _ _ h => h) ⟨hL4.out.blk, hL4.out.mp, he4.out⟩ ?_
  refine steps_rdW ?_
  apply Exists.intro
  refine ⟨?_, ?_⟩
  focus
    rintro w' ⟨hS, hS2, hS3⟩
    have q0 : w'.cell? ⟨c, 0, none⟩ = some (.slice A (m + 1) cap) := hS.cell 0
    have q1 : w'.cell? ⟨c, 1, none⟩ = some (.map (some bm)) := hS.cell 1
    have q2 : w'.cell? ⟨w3.heap.size, 0, none⟩ = some (.int .i64 (enAt es m).r) := hS3.cell 0
    obtain ⟨y, hrun, hat, _⟩ := hS2.lookup_int int_law Try.underlying69 Try.underlying3 (zero3 _) (keyOf_int_mk Try.underlying3 hwr.out)
    rw [hix.out] at hat
    obtain rfl : y = (m : Int) + 1 := by simpa using hat.symm
    clear hS hS2 hS3 hat
    iterate 16 (refine stW_step rfl (fun K hK => ?_); go_simp; refine hK _ ?_; clear hK K)
    exact stW_nil rfl
  refine steps_nil (l := [⟨_, _, _, _, _, _⟩]) rfl (fun K2 hK2 => ?_)
  have k0 := hL4.out.blk.cell 0
  have k2 := hL4.out.blk.frozen 0
  go_wp2
  refine hK2 _ _ rfl ?_
  clear hK2 K2
  refine stI_nil ?_
  clear k0 k2
  obtain ⟨s1, s2, s3, s4⟩ := hL4.out.sep
  have hC4 : Hid (Chg (fun _ => False) w ((w3.alloc (.cells #[.int .i64 (enAt es m).r, .int .i64 ((enAt es m).v).k, .int .i64 ((enAt es m).v).p, .int .i64 ((enAt es m).v).q, .string ((enAt es m).v).s, .int .i64 ((enAt es m).v).r] 73)).drew)) := hid (((hC3.out).alloc _).drew)
  have hz4 := hid ((hz3.out.alloc (.cells #[.int .i64 (enAt es m).r, .int .i64 ((enAt es m).v).k, .int .i64 ((enAt es m).v).p, .int .i64 ((enAt es m).v).q, .string ((enAt es m).v).s, .int .i64 ((enAt es m).v).r] 73)).drew)
  have hlz := hz3.out.lt
  have F : Hid (Bk (((w3.alloc (.cells #[.int .i64 (enAt es m).r, .int .i64 ((enAt es m).v).k, .int .i64 ((enAt es m).v).p, .int .i64 ((enAt es m).v).q, .string ((enAt es m).v).s, .int .i64 ((enAt es m).v).r] 73))).setCell ⟨c, 0, none⟩ (.slice A m cap)) c 71 [.slice A m cap, .map (some bm), vf] ∧ (((w3.alloc (.cells #[.int .i64 (enAt es m).r, .int .i64 ((enAt es m).v).k, .int .i64 ((enAt es m).v).p, .int .i64 ((enAt es m).v).q, .string ((enAt es m).v).s, .int .i64 ((enAt es m).v).r] 73))).setCell ⟨c, 0, none⟩ (.slice A m cap)).ownsRow 0 73 6 (.slice A m cap) (es.take m).length ((es.take m).flatMap En.cs) ∧ (((w3.alloc (.cells #[.int .i64 (enAt es m).r, .int .i64 ((enAt es m).v).k, .int .i64 ((enAt es m).v).p, .int .i64 ((enAt es m).v).q, .string ((enAt es m).v).s, .int .i64 ((enAt es m).v).r] 73))).setCell ⟨c, 0, none⟩ (.slice A m cap)).ownsMap Try.prog 3 (plainElem Try.prog 3) bm n D ∧ FaRep (((w3.alloc (.cells #[.int .i64 (enAt es m).r, .int .i64 ((enAt es m).v).k, .int .i64 ((enAt es m).v).p, .int .i64 ((enAt es m).v).q, .string ((enAt es m).v).s, .int .i64 ((enAt es m).v).r] 73))).setCell ⟨c, 0, none⟩ (.slice A m cap)) vf tv fl ∧ Chg (ownF c (.slice A (m + 1) cap) bm vf tv) w (((w3.alloc (.cells #[.int .i64 (enAt es m).r, .int .i64 ((enAt es m).v).k, .int .i64 ((enAt es m).v).p, .int .i64 ((enAt es m).v).q, .string ((enAt es m).v).s, .int .i64 ((enAt es m).v).r] 73))).setCell ⟨c, 0, none⟩ (.slice A m cap)) ∧ Bk (((w3.alloc (.cells #[.int .i64 (enAt es m).r, .int .i64 ((enAt es m).v).k, .int .i64 ((enAt es m).v).p, .int .i64 ((enAt es m).v).q, .string ((enAt es m).v).s, .int .i64 ((enAt es m).v).r] 73))).setCell ⟨c, 0, none⟩ (.slice A m cap)) w.heap.size 25 V.zero.cs ∧ Bk (((w3.alloc (.cells #[.int .i64 (enAt es m).r, .int .i64 ((enAt es m).v).k, .int .i64 ((enAt es m).v).p, .int .i64 ((enAt es m).v).q, .string ((enAt es m).v).s, .int .i64 ((enAt es m).v).r] 73))).setCell ⟨c, 0, none⟩ (.slice A m cap)) w3.heap.size 73 (enAt es m).cs) := hid (by
    have hs0 := (Chg.refl (fun k => k = c) (w3.alloc (.cells #[.int .i64 (enAt es m).r, .int .i64 ((enAt es m).v).k, .int .i64 ((enAt es m).v).p, .int .i64 ((enAt es m).v).q, .string ((enAt es m).v).s, .int .i64 ((enAt es m).v).r] 73))).setCell (p := ⟨c, 0, none⟩) (fun _ => rfl) (.slice A m cap)
    have hs6 : Chg (fun k => k = c) ((w3.alloc (.cells #[.int .i64 (enAt es m).r, .int .i64 ((enAt es m).v).k, .int .i64 ((enAt es m).v).p, .int .i64 ((enAt es m).v).q, .string ((enAt es m).v).s, .int .i64 ((enAt es m).v).r] 73)).drew) ((w3.alloc (.cells #[.int .i64 (enAt es m).r, .int .i64 ((enAt es m).v).k, .int .i64 ((enAt es m).v).p, .int .i64 ((enAt es m).v).q, .string ((enAt es m).v).s, .int .i64 ((enAt es m).v).r] 73)).setCell ⟨c, 0, none⟩ (.slice A m cap)) := ⟨hs0.os, hs0.tape, hs0.output, hs0.size, hs0.block⟩
    refine ⟨hL4.out.blk.set_ 0 _, ?_, map_chg hL4.out.mp hs6 s1, hL4.out.fa.chg hs6 (fun k hk => (s3 k hk).1) (fun k hk => (s4 k hk).1), (hC4.out.mono fun _ _ h => h.elim).trans hs6 fun k _ e => .inl e, hz4.out.chg (S := fun k => k = c) hs6 (show ¬ w.heap.size = c by omega), he4.out.chg (S := fun k => k = c) hs6 (show ¬ w3.heap.size = c by omega)⟩
    have h5 := hL4.out.ent
    rw [hmm.out] at h5
    have h6 := own_front (k := m) h5 (by omega)
    rw [flat_take] at h6
    rw [show (es.take m).length = m by rw [List.length_take, hmm.out]; omega]
    exact own_chg h6 hs6 fun k hk e => hL4.out.blk.ne_row h6 (by decide) (by rw [← e]; exact hk))
  clear s1 s2 s3 s4
  generalize (((w3.alloc (.cells #[.int .i64 (enAt es m).r, .int .i64 ((enAt es m).v).k, .int .i64 ((enAt es m).v).p, .int .i64 ((enAt es m).v).q, .string ((enAt es m).v).s, .int .i64 ((enAt es m).v).r] 73))).setCell ⟨c, 0, none⟩ (.slice A m cap)) = w6 at F ⊢
  have hF := F
  clear F
  go_wp2
  refine wp_region_rc (id := 7) [.rd [0, 1, 2, 3, 4, 5]] [6] [] (fun w' => w'.cell? ⟨c, 1, none⟩ = some (.map (some bm)) ∧ w'.cell? ⟨w3.heap.size, 0, none⟩ = some (.int .i64 (enAt es m).r)) (by kernel_rfl) 52 rfl (by kernel_rfl) (fun _ _ _ _ _ h => h) ⟨hF.out.1.cell 1, hF.out.2.2.2.2.2.2.cell 0⟩ ?_
  refine steps_rdW ?_
  apply Exists.intro
  refine ⟨?_, ?_⟩
  focus
    rintro w' ⟨q0, q1⟩
    iterate 6 (refine stW_step rfl (fun K hK => ?_); go_simp; refine hK _ ?_; clear hK K)
    exact stW_nil rfl
  refine steps_nil (l := [⟨_, _, _, _, _, _⟩]) rfl (fun K2 hK2 => ?_)
  go_wp2_with (at_delete; go_loud (refine wpList_delete_own _ rfl _ _ 69 3 rfl 3 int_law Try.underlying69 _ bm n D rfl hF.out.2.2.1.drew.drew _ _ rfl (keyOf_int_mk Try.underlying3 hwr.out) ?_; intro w7 hm7' ht7'; have hc7 := hid (((Chg.refl (fun k => k = bm) w6).drew.drew).grown ht7'.grown fun k hk _ => by injection hk with hk; exact hk.symm); have fin := hid (own_pop_fin hL.out hmm.out hF.out.1 hF.out.2.1 hF.out.2.2.1 hF.out.2.2.2.1 hF.out.2.2.2.2.1 hm7' (ht7'.grown)); clear hm7' ht7'))
  refine hK2 _ _ rfl ?_
  clear hK2 K2
  refine stI_nil ?_
  have hz7 := hid (hF.out.2.2.2.2.2.1.chg hc7.out (fun e => map_not_row hF.out.2.2.1 hF.out.2.2.2.2.2.1 e.symm))
  have he7 := hid (hF.out.2.2.2.2.2.2.chg hc7.out (fun e => map_not_row hF.out.2.2.1 hF.out.2.2.2.2.2.2 e.symm))
  have y1 : w7.cell? ⟨w3.heap.size, 1, none⟩ = some (.int .i64 (enAt es m).v.k) := he7.out.cell 1
  have y2 : w7.cell? ⟨w3.heap.size, 2, none⟩ = some (.int .i64 (enAt es m).v.p) := he7.out.cell 2
  have y3 : w7.cell? ⟨w3.heap.size, 3, none⟩ = some (.int .i64 (enAt es m).v.q) := he7.out.cell 3
  have y4 : w7.cell? ⟨w3.heap.size, 4, none⟩ = some (.string (enAt es m).v.s) := he7.out.cell 4
  have y5 : w7.cell? ⟨w3.heap.size, 5, none⟩ = some (.int .i64 (enAt es m).v.r) := he7.out.cell 5
  have hle := he7.out.lt
  obtain ⟨z0, z1, z2, z3, z4⟩ := V.box hz7.out
  have hlz7 := hz7.out.lt
  have hfz := fun j => hz7.out.frozen j
  clear hc7
  go_wp2
  refine ret_valb (t := 4) (u := 5) (b := w.heap.size) (x := (enAt es m).v) (bb := true) rfl rfl rfl rfl (put5_bk (y := (enAt es m).v) hz7.out) ⟨rfl, ?_⟩
  exact fin.out.beside hz7.out (Nat.le_refl _) _
end
end Go.Proofs.Ytpfopidmdnkkeaa
