/-
  The law's call on both lists: from lists that are alike to lists that are alike.
-/
import Derived.Test.YtpfopidmdnkkeaaFSame
namespace Go.Proofs.Ytpfopidmdnkkeaa
open Go.RowKit Go.Maps

structure OpV where
  kd : Int
  rg : Int
  v : V
def OpV.cs (x : OpV) : List Value := [.int .i64 x.kd, .int .i64 x.rg, .int .i64 x.v.k, .int .i64 x.v.p, .int .i64 x.v.q, .string x.v.s, .int .i64 x.v.r]
theorem OpV.box {w : World} {b : Nat} {t : TypeId} {x : OpV} (h : Bk w b t x.cs) : w.cell? ⟨b, 0, none⟩ = some (.int .i64 x.kd) ∧ w.cell? ⟨b, 1, none⟩ = some (.int .i64 x.rg) ∧
    w.cell? ⟨b, 2, none⟩ = some (.int .i64 x.v.k) ∧ w.cell? ⟨b, 3, none⟩ = some (.int .i64 x.v.p) ∧ w.cell? ⟨b, 4, none⟩ = some (.int .i64 x.v.q) ∧ w.cell? ⟨b, 5, none⟩ = some (.string x.v.s) ∧ w.cell? ⟨b, 6, none⟩ = some (.int .i64 x.v.r) :=
  ⟨h.cell 0, h.cell 1, h.cell 2, h.cell 3, h.cell 4, h.cell 5, h.cell 6⟩
/-- What a call of a script leaves. -/
def DoPost (w w' : World) (S : Nat → Prop) (N o r M m : Nat) : Prop :=
  ∃ es fl, Two w' S N o r (M + 1) es fl es fl ∧ es.length ≤ m + 1 ∧ small fl ∧ Chg (fun k => S k ∨ N ≤ k) w w'
section
variable {w w' : World} {S : Nat → Prop} {N o r M : Nat} {es : List En} {fl : Option Fl}
theorem DoPost.mk {w1 : World} {S' : Nat → Prop} {N' M' m : Nat} (h : Two w' S' N' o r M' es fl es fl) (hM : M' ≤ M + 1) (hS : ∀ k, S' k → S k ∨ N ≤ k) (hN : N ≤ N') (hm : es.length ≤ m + 1) (hs : small fl) (h1 : Chg (fun _ => False) w w1) (hc : Chg (fun k => S' k ∨ N' ≤ k) w1 w') : DoPost w w' S N o r M m :=
  ⟨es, fl, (h.mono hM).weaken hS hN, hm, hs, (h1.mono (T := fun k => S k ∨ N ≤ k) fun _ _ h => h.elim).trans hc fun k _ hk => hk.elim (hS k) fun h => .inr (by omega)⟩
theorem Bk.twoChg {S : Nat → Prop} {N g : Nat} {t : TypeId} {cs : List Value} (h : Bk w g t cs) (hc : Chg (fun k => S k ∨ N ≤ k) w w') (hg : ¬ S g) (hN : g < N) : Bk w' g t cs := h.chg hc fun e => e.elim hg fun e => by omega
set_option maxRecDepth 100000 in
set_option maxHeartbeats 4000000 in
theorem do_true (h : Two w S N o r M es fl es fl) (hN : N ≤ w.heap.size) (hn : es.length ≤ 900) (hM : M ≤ 90000) (hs : small fl) (x : OpV) :
    Calls Try.prog 22 #[.pointer (some ⟨o, 0, none⟩), .pointer (some ⟨r, 0, none⟩), .agg #[.int .i64 x.kd, .int .i64 x.rg, .int .i64 x.v.k, .int .i64 x.v.p, .int .i64 x.v.q, .string x.v.s, .int .i64 x.v.r]] w fun e w' => e = .returned (.bool true) ∧ DoPost w w' S N o r M es.length := by
  obtain ⟨S', hS', hfix⟩ := h.fix
  have hX := hid (Bk.new w 51 x.cs)
  have hT : Hid (Two (w.alloc (.cells x.cs.toArray 51)) S' (w.heap.size + 1) o r M es fl es fl) := hid (hfix _ _ ((Chg.refl _ w).alloc _))
  have hnS : Hid (¬ S' w.heap.size) := hid fun e => by have := (hS' _ e).1; omega
  have hSS : Hid (∀ k, S' k → S k ∨ N ≤ k) := hid fun k e => (hS' k e).2
  have hN1 : N ≤ w.heap.size + 1 := by omega
  have hC1 : Hid (Chg (fun _ => False) w (w.alloc (.cells x.cs.toArray 51))) := hid ((Chg.refl _ w).alloc _)
  have hSlt : Hid (∀ k, S' k → k < w.heap.size) := hid fun k e => (hS' k e).1
  have hfix' := fun w2 N2 hc => hfix w2 N2 hc
  have hfix' := hid hfix'
  clear hS' hfix h hN
  obtain ⟨y0, y1, y2, y3, y4, y5, y6⟩ := OpV.box hX.out
  by_cases h1 : x.kd = 1
  · obtain ⟨e1, es1, hp⟩ : ∃ e1 es1, Hid (push es x.rg x.v = (e1, es1)) := ⟨_, _, hid rfl⟩
    have hl1 : Hid (es1.length ≤ es.length + 1) := hid (by have := push_len es x.rg x.v; rw [hp.out] at this; exact this)
    have hX1 := hid hX.out.drew
    have hT1 := hid (hT.out.none_ ((Chg.refl (fun _ => False) _).drew))
    have hC2 := hid hC1.out.drew
    have e1 : (x.kd == 1) = true := by simpa using h1
    clear h1
    go_enter Try.func22, Try.ntmps22
    go_wp2
    refine wp_region_rc (id := 3) [.rd [0, 1, 2, 3, 4, 6, 7, 8, 9, 10], .act 5] [11, 12, 13] [] (fun w' => Bk w' w.heap.size 51 x.cs) (by kernel_rfl) 101 rfl (by kernel_rfl) (fun _ _ _ _ _ h => h) hX1.out ?_
    refine steps_rdW ?_
    apply Exists.intro
    refine ⟨?_, ?_⟩
    focus
      rintro w' hS
      obtain ⟨y0, y1, y2, y3, y4, y5, y6⟩ := OpV.box hS
      clear hS
      iterate 10 (refine stW_step rfl (fun K hK => ?_); go_simp; refine hK _ ?_; clear hK K)
      exact stW_nil rfl
    refine steps_act (o := ⟨_, _, _, _, _, _⟩) rfl (fun K2 hK2 => ?_)
    go_wp2_with (go_at_call 13; refine (p_push hT1.out (by simp) (by omega) (by omega) x.rg x.v hp.out).mono ?_; rintro e w2 ⟨rfl, hT2', hc2⟩; have hT2 := hid hT2'; have hX2 := hid (hX1.out.twoChg hc2 hnS.out (by omega)); have hC3 := hid (show Chg (fun k => S' k ∨ w.heap.size + 1 ≤ k) _ w2 from hc2); clear hT2' hc2)
    refine hK2 _ _ hX2.out rfl ?_
    clear hK2 K2
    have hz2 := hX2.out.lt
    refine steps_nil (l := [⟨_, _, _, _, _, _⟩, ⟨_, _, _, _, _, _⟩, ⟨_, _, _, _, _, _⟩]) rfl (fun K2 hK2 => ?_)
    go_wp2_with (go_at_call 34; refine (q_push hT2.out (by omega) (by omega) x.rg x.v hp.out).mono ?_; rintro e w3 ⟨rfl, hT3', hc3⟩; have hT3 := hid hT3'; have hC4 := hid (hC3.out.trans_same hc3); clear hT3' hc3)
    refine hK2 _ _ rfl ?_
    clear hK2 K2
    refine stI_nil ?_
    go_wp2
    go_ret
    exact ⟨rfl, DoPost.mk hT3.out (Nat.le_refl _) hSS.out hN1 hl1.out hs hC2.out hC4.out⟩
  have e1 : (x.kd == 1) = false := by simpa using h1
  by_cases h2 : x.kd = 2
  · obtain ⟨v1, b1, es1, hp⟩ : ∃ v1 b1 es1, Hid (pop es x.rg = (v1, b1, es1)) := ⟨_, _, _, hid rfl⟩
    have hl1 : Hid (es1.length ≤ es.length + 1) := hid (by have := pop_len es x.rg; rw [hp.out] at this; exact Nat.le_succ_of_le this)
    have e2 : (x.kd == 2) = true := by simpa using h2
    clear h1 h2
    go_enter Try.func22, Try.ntmps22
    go_wp2_with fail
    refine (p_pop hT.out (by simp) (by omega) x.rg hp.out).mono ?_
    rintro e w2 ⟨rfl, hT2', hc2⟩
    obtain ⟨S2, hS2', hfix2⟩ := hT2'.fix
    have hX2 := hid (hX.out.twoChg hc2 hnS.out (by omega))
    have hT2 := hid (hfix2 (w2.alloc (.cells v1.cs.toArray 25)) (w2.heap.size + 1) ((Chg.refl _ w2).alloc _))
    have hC2 := hid (hc2.alloc (.cells v1.cs.toArray 25))
    have hB2 := hid (Bk.new w2 25 v1.cs)
    have hnS2 : Hid (¬ S2 w2.heap.size) := hid fun e => by have := (hS2' _ e).1; omega
    have hS2 : Hid (∀ k, S2 k → S' k ∨ w.heap.size + 1 ≤ k) := hid fun k e => (hS2' k e).2
    have hz2 := hX2.out.lt
    obtain ⟨z0, z1, z2, z3, z4, z5, z6⟩ := OpV.box hX2.out
    clear hT2' hc2 hS2' hfix2
    go_wp2_with fail
    refine (q_pop hT2.out (by simp) (by omega) x.rg hp.out).mono ?_
    rintro e w3 ⟨rfl, hT3', hc3⟩
    have hB3 := hid (hB2.out.twoChg hc3 hnS2.out (by omega))
    have hT3 := hid ((hT3'.weaken (S := S') (N := w.heap.size + 1) hS2.out (by omega)).none_ ((Chg.refl (fun _ => False) w3).alloc (.cells v1.cs.toArray 25)))
    have hC3 := hid ((hC2.out.trans (hc3) fun k _ hk => hk.elim (hS2.out k) fun h => .inr (by omega)).alloc (.cells v1.cs.toArray 25))
    obtain ⟨b0, b1', b2, b3, b4⟩ := V.box hB3.out
    have hz3 := hB3.out.lt
    clear hT3' hc3 z0 z1 z2 z3 z4 z5 z6
    go_wp2_with fail
    go_ret
    exact ⟨rfl, DoPost.mk hT3.out (Nat.le_refl _) hSS.out hN1 hl1.out hs hC1.out hC3.out⟩
  have e2 : (x.kd == 2) = false := by simpa using h2
  by_cases h3 : x.kd = 3
  · have e3 : (x.kd == 3) = true := by simpa using h3
    clear h1 h2 h3
    have hW : Hid (Chg (fun _ => False) (w.alloc (.cells x.cs.toArray 51)) (((w.alloc (.cells x.cs.toArray 51)).alloc (.cells (Pl.cs ⟨⟨#[102]⟩, x.rg, false⟩).toArray 64)).alloc (.cells #[.int .i64 x.v.k, .int .i64 x.v.p, .int .i64 x.v.q, .string x.v.s, .int .i64 x.v.r, .slice (some ⟨w.heap.size + 1, 0, none⟩) 1 1] 30))) := hid (((Chg.refl _ _).alloc _).alloc _)
    have hT1 := hid (hfix'.out (((w.alloc (.cells x.cs.toArray 51)).alloc (.cells (Pl.cs ⟨⟨#[102]⟩, x.rg, false⟩).toArray 64)).alloc (.cells #[.int .i64 x.v.k, .int .i64 x.v.p, .int .i64 x.v.q, .string x.v.s, .int .i64 x.v.r, .slice (some ⟨w.heap.size + 1, 0, none⟩) 1 1] 30)) (w.heap.size + 3) (hC1.out.trans_same hW.out))
    have hA1 : Hid (Rd (((w.alloc (.cells x.cs.toArray 51)).alloc (.cells (Pl.cs ⟨⟨#[102]⟩, x.rg, false⟩).toArray 64)).alloc (.cells #[.int .i64 x.v.k, .int .i64 x.v.p, .int .i64 x.v.q, .string x.v.s, .int .i64 x.v.r, .slice (some ⟨w.heap.size + 1, 0, none⟩) 1 1] 30)) 3 (some ⟨w.heap.size + 1, 0, none⟩) 1 ([(⟨⟨#[102]⟩, x.rg, false⟩ : Pl)].flatMap Pl.cs)) :=
      hid ((Rd.one (w.alloc (.cells x.cs.toArray 51)) 64 3 (Pl.cs ⟨⟨#[102]⟩, x.rg, false⟩) rfl (w.heap.size + 1) (by simp)).alloc _)
    have hB1 : Hid (Bk (((w.alloc (.cells x.cs.toArray 51)).alloc (.cells (Pl.cs ⟨⟨#[102]⟩, x.rg, false⟩).toArray 64)).alloc (.cells #[.int .i64 x.v.k, .int .i64 x.v.p, .int .i64 x.v.q, .string x.v.s, .int .i64 x.v.r, .slice (some ⟨w.heap.size + 1, 0, none⟩) 1 1] 30)) (w.heap.size + 2) 30 [.int .i64 x.v.k, .int .i64 x.v.p, .int .i64 x.v.q, .string x.v.s, .int .i64 x.v.r, .slice (some ⟨w.heap.size + 1, 0, none⟩) 1 1]) := hid (Bk.new_at _ 30 _ _ (by simp))
    have hn1 : Hid (∀ j, ¬ S' (w.heap.size + j)) := hid fun j e => by have := (hSlt.out _ e); omega
    go_enter Try.func22, Try.ntmps22
    go_wp2_with fail
    refine (p_fail hT1.out (by simp) x.v (some ⟨w.heap.size + 1, 0, none⟩) [⟨⟨#[102]⟩, x.rg, false⟩] 1 hA1.out (by simp)).mono ?_
    rintro e w2 ⟨rfl, hT2', hc2⟩
    have hT2 := hid hT2'
    have hB2 := hid (hB1.out.twoChg hc2 (hn1.out 2) (by omega))
    have hA2 := hid (hA1.out.chg hc2 fun b o e h => by
      injection e with e
      injection e with e _
      subst e
      exact h.elim (hn1.out 1) fun h => by omega)
    have hC2 := hid (hW.out.mono (T := fun k => S' k ∨ w.heap.size + 1 ≤ k) (fun _ _ h => h.elim) |>.trans hc2 fun k _ hk => hk.imp id fun h => by omega)
    obtain ⟨b0, b1', b2, b3, b4, b5⟩ := FB.box hB2.out
    have hz2 := hB2.out.lt
    clear hT2' hc2
    go_wp2_with fail
    refine (q_fail hT2.out (by omega) x.v (some ⟨w.heap.size + 1, 0, none⟩) [⟨⟨#[102]⟩, x.rg, false⟩] 1 hA2.out (by simp)).mono ?_
    rintro e w3 ⟨rfl, hT3', hc3⟩
    have hT3 := hid hT3'
    have hC3 := hid (hC2.out.trans hc3 fun k _ hk => hk.imp id fun h => by omega)
    clear hT3' hc3
    go_wp2_with fail
    go_ret
    exact ⟨rfl, DoPost.mk (hT3.out.weaken (N := w.heap.size + 1) (fun k h => .inl h) (by omega)) (Nat.le_refl _) hSS.out hN1 (Nat.le_succ _) (show (1 : Nat) ≤ 1000 by omega) hC1.out hC3.out⟩
  have e3 : (x.kd == 3) = false := by simpa using h3
  clear h1 h2 h3
  obtain ⟨x0, hx0⟩ : ∃ x0, Hid (failV fl = x0) := ⟨_, hid rfl⟩
  obtain ⟨b0, hb0⟩ : ∃ b0, Hid (fl.isSome = b0) := ⟨_, hid rfl⟩
  obtain ⟨l0, hl0⟩ : ∃ l0, Hid ((fl.getD Fl.zero).tr = l0) := ⟨_, hid rfl⟩
  obtain ⟨n0, hn0⟩ : ∃ n0, Hid (l0.length = n0) := ⟨_, hid rfl⟩
  have hn1 : n0 ≤ 1000 := by have := hs; unfold small at this; rw [hl0.out, hn0.out] at this; exact this
  have hs := hid hs
  go_enter Try.func22, Try.ntmps22
  go_wp2_with fail
  refine (o_failure hT.out.one hx0.out hb0.out hl0.out (by rw [hn0.out]; exact hn1)).mono ?_
  rintro e w2 ⟨A2, k2, rfl, hR2', hc2⟩
  rw [hn0.out] at hR2' ⊢
  have hX2 := hid (hX.out.none_ hc2)
  have hR2 := hid (hR2'.alloc (.cells #[.int .i64 x0.k, .int .i64 x0.p, .int .i64 x0.q, .string x0.s, .int .i64 x0.r, .slice A2 n0 k2] 30))
  have hT2 := hid ((hT.out.none_ hc2).none_ ((Chg.refl (fun _ => False) w2).alloc (.cells #[.int .i64 x0.k, .int .i64 x0.p, .int .i64 x0.q, .string x0.s, .int .i64 x0.r, .slice A2 n0 k2] 30)))
  have hB2 := hid (Bk.new w2 30 [.int .i64 x0.k, .int .i64 x0.p, .int .i64 x0.q, .string x0.s, .int .i64 x0.r, .slice A2 n0 k2])
  have hC2 := hid (hc2.alloc (.cells #[.int .i64 x0.k, .int .i64 x0.p, .int .i64 x0.q, .string x0.s, .int .i64 x0.r, .slice A2 n0 k2] 30))
  have hz2 := hX2.out.lt
  clear hR2' hc2
  go_wp2_with fail
  refine (q_failure hT2.out hx0.out hb0.out hl0.out (by rw [hn0.out]; exact hn1)).mono ?_
  rintro e w3 ⟨A3, k3, rfl, hR3', hc3⟩
  rw [hn0.out] at hR3' ⊢
  have hB3 := hid (((hB2.out.none_ hc3).alloc (.cells #[.int .i64 x0.k, .int .i64 x0.p, .int .i64 x0.q, .string x0.s, .int .i64 x0.r, .slice A3 n0 k3] 30)).drew)
  have hX3 := hid ((((hX2.out.alloc (.cells #[.int .i64 x0.k, .int .i64 x0.p, .int .i64 x0.q, .string x0.s, .int .i64 x0.r, .slice A2 n0 k2] 30)).none_ hc3).alloc (.cells #[.int .i64 x0.k, .int .i64 x0.p, .int .i64 x0.q, .string x0.s, .int .i64 x0.r, .slice A3 n0 k3] 30)).drew)
  have hD3 := hid ((Bk.new w3 30 [.int .i64 x0.k, .int .i64 x0.p, .int .i64 x0.q, .string x0.s, .int .i64 x0.r, .slice A3 n0 k3]).drew)
  have hR3 := hid ((hR3'.alloc (.cells #[.int .i64 x0.k, .int .i64 x0.p, .int .i64 x0.q, .string x0.s, .int .i64 x0.r, .slice A3 n0 k3] 30)).drew)
  have hR4 := hid (((hR2.out.none_ hc3).alloc (.cells #[.int .i64 x0.k, .int .i64 x0.p, .int .i64 x0.q, .string x0.s, .int .i64 x0.r, .slice A3 n0 k3] 30)).drew)
  have hT3 := hid ((((hT2.out.none_ hc3).none_ ((Chg.refl (fun _ => False) w3).alloc (.cells #[.int .i64 x0.k, .int .i64 x0.p, .int .i64 x0.q, .string x0.s, .int .i64 x0.r, .slice A3 n0 k3] 30)))).none_ ((Chg.refl (fun _ => False) _).drew))
  have hC3 := hid (((hC2.out.trans_same hc3).alloc (.cells #[.int .i64 x0.k, .int .i64 x0.p, .int .i64 x0.q, .string x0.s, .int .i64 x0.r, .slice A3 n0 k3] 30)).drew)
  have hz3 := hB3.out.lt
  clear hR3' hc3 y0 y1 y2 y3 y4 y5 y6 hR2 hB2 hX2 hT2 hC2
  go_wp2_with fail
  refine wp_region_rc (id := 15) [.rd [0, 1], .act 2, .rd [3, 4, 5, 6, 7, 8, 9, 10, 11, 13, 14, 15], .act 12] [16, 17, 18, 19] [] (fun w' => Bk w' w2.heap.size 30 [.int .i64 x0.k, .int .i64 x0.p, .int .i64 x0.q, .string x0.s, .int .i64 x0.r, .slice A2 n0 k2] ∧ Bk w' w3.heap.size 30 [.int .i64 x0.k, .int .i64 x0.p, .int .i64 x0.q, .string x0.s, .int .i64 x0.r, .slice A3 n0 k3] ∧ Bk w' w.heap.size 51 x.cs) (by kernel_rfl) 101 rfl (by kernel_rfl) (fun _ _ _ _ _ h => h) ⟨hB3.out, hD3.out, hX3.out⟩ ?_
  refine steps_rdW ?_
  apply Exists.intro
  refine ⟨?_, ?_⟩
  focus
    rintro w' ⟨hS, hSb, hSc⟩
    obtain ⟨p0, p1, p2, p3, p4, p5⟩ := FB.box hS
    obtain ⟨q0, q1, q2, q3, q4, q5⟩ := FB.box hSb
    clear hS hSb hSc
    iterate 2 (refine stW_step rfl (fun K hK => ?_); go_simp; refine hK _ ?_; clear hK K)
    exact stW_nil rfl
  refine steps_act (o := ⟨_, _, _, _, _, _⟩) rfl (fun K2 hK2 => ?_)
  go_wp2_with fail
  refine (failure_same _ x0 A2 A3 l0 n0 k2 k3 hn0.out (by rw [hn0.out]; exact hR4.out.rd) (by rw [hn0.out]; exact hR3.out.rd) (by omega)).mono ?_
  rintro e w4 ⟨rfl, hc4⟩
  have hB4 := hid (show Bk w4 w2.heap.size 30 [.int .i64 x0.k, .int .i64 x0.p, .int .i64 x0.q, .string x0.s, .int .i64 x0.r, .slice A2 n0 k2] ∧ Bk w4 w3.heap.size 30 [.int .i64 x0.k, .int .i64 x0.p, .int .i64 x0.q, .string x0.s, .int .i64 x0.r, .slice A3 n0 k3] ∧ Bk w4 w.heap.size 51 x.cs from ⟨hB3.out.none_ hc4, hD3.out.none_ hc4, hX3.out.none_ hc4⟩)
  have hT4 := hid (hT3.out.none_ hc4)
  have hC4 := hid (hC3.out.trans_same hc4)
  clear hc4 hB3 hD3 hX3 hR3 hR4 hT3 hC3
  go_wp2
  refine hK2 _ _ hB4.out rfl ?_
  clear hK2 K2
  refine steps_rdW ?_
  apply Exists.intro
  refine ⟨?_, ?_⟩
  focus
    rintro w' ⟨hS, hSb, hSc⟩
    obtain ⟨y0, y1, y2, y3, y4, y5, y6⟩ := OpV.box hSc
    clear hS hSb hSc
    iterate 12 (refine stW_step rfl (fun K hK => ?_); go_simp; refine hK _ ?_; clear hK K)
    exact stW_nil rfl
  refine steps_act (o := ⟨_, _, _, _, _, _⟩) rfl (fun K2 hK2 => ?_)
  go_wp2_with fail
  refine (o_args hT4.out.one x.v hx0.out).mono ?_
  rintro e w5 ⟨A5, k5, rfl, hR5', hc5⟩
  have hB5 := hid (show Bk w5 w2.heap.size 30 [.int .i64 x0.k, .int .i64 x0.p, .int .i64 x0.q, .string x0.s, .int .i64 x0.r, .slice A2 n0 k2] ∧ Bk w5 w3.heap.size 30 [.int .i64 x0.k, .int .i64 x0.p, .int .i64 x0.q, .string x0.s, .int .i64 x0.r, .slice A3 n0 k3] ∧ Bk w5 w.heap.size 51 x.cs from ⟨hB4.out.1.none_ hc5, hB4.out.2.1.none_ hc5, hB4.out.2.2.none_ hc5⟩)
  have hR5 := hid hR5'
  have hT5 := hid (hT4.out.none_ hc5)
  have hC5 := hid (hC4.out.trans_same hc5)
  clear hc5 hR5' hB4 hT4 hC4
  go_wp2
  refine hK2 _ _ hB5.out rfl ?_
  clear hK2 K2
  refine steps_nil (l := [⟨_, _, _, _, _, _⟩, ⟨_, _, _, _, _, _⟩, ⟨_, _, _, _, _, _⟩, ⟨_, _, _, _, _, _⟩]) rfl (fun K2 hK2 => ?_)
  go_wp2_with fail
  refine (q_args hT5.out x.v hx0.out).mono ?_
  rintro e w6 ⟨A6, k6, rfl, hR6', hc6⟩
  have hR6 := hid hR6'
  have hR7 := hid (hR5.out.none_ hc6)
  have hT6 := hid (hT5.out.none_ hc6)
  have hC6 := hid (hC5.out.trans_same hc6)
  clear hc6 hR6' hT5 hC5 hR5
  go_wp2_with fail
  refine (values_own (n := 2) (m := 2) rfl rfl hR7.out.own hR6.out.own (by omega) (by omega) (decide_eq_true rfl)).mono ?_
  rintro e w7 ⟨rfl, hc7⟩
  have hT7 := hid (hT6.out.none_ hc7)
  have hC7 := hid (hC6.out.trans_same hc7)
  clear hc7 hR7 hR6 hT6 hC6
  go_wp2
  refine hK2 _ _ rfl ?_
  clear hK2 K2
  refine stI_nil ?_
  go_wp2
  go_ret
  exact ⟨rfl, DoPost.mk hT7.out (Nat.le_succ _) hSS.out hN1 (Nat.le_succ _) hs.out hC1.out (hC7.out.mono fun _ _ h => h.elim)⟩
end
end Go.Proofs.Ytpfopidmdnkkeaa
