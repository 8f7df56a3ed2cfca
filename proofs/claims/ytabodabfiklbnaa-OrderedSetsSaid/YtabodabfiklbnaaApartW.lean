/-
  OrderedApart: the walk.
-/
import Derived.Test.YtabodabfiklbnaaMade
namespace Go.Proofs.Ytabodabfiklbnaa
open Go.RowKit Go.Maps

theorem made_any (w : World) (A : Option Addr) (l : List OpV) (n k : Nat) (hl : OpsRd w A l) (hn : l.length = n) {b : Bool} (hb : decide (n ≤ 400) = b) :
    Calls Try.prog 16 #[.slice A n k] w fun e w' => ∃ pa pb, e = .returned (.tuple #[pa, pb, .bool b]) ∧ Chg (fun _ => False) w w' := by
  subst hn
  by_cases hs : l.length ≤ 400
  · obtain rfl : true = b := by rw [← hb]; simpa using hs
    exact (made_true w A l k hl hs).mono fun e w' ⟨o, r, h1, L, h2, h3, h4⟩ => ⟨_, _, h1, h4⟩
  · obtain rfl : false = b := by rw [← hb]; simpa using hs
    exact (made_no w A l.length k (by omega)).mono fun e w' ⟨h1, h2⟩ => ⟨_, _, h1, h2⟩
def kNew : V := ⟨3, 0, 0, ⟨#[110, 101, 119]⟩, 0⟩
def vNew : V := ⟨1, 0, 0, ⟨#[]⟩, 0⟩
theorem kNew_wf : kNew.wf := ⟨by decide, by decide, by decide, of_decide_eq_true (by kernel_rfl), by decide⟩
/-- The second pair of maps on the way. -/
def ApartSt (w3 wr : World) (S2 : Nat → Prop) (o r j : Nat) : Prop := ∃ L M, Two wr S2 w3.heap.size o r M L L ∧ L.length ≤ 400 + j ∧ M ≤ 400000 + j * 1000 ∧ Chg S2 w3 wr
set_option maxRecDepth 100000 in
set_option maxHeartbeats 8000000 in
theorem apart_true (w : World) (A : Option Addr) (l : List OpV) (k : Nat) (B : Option Addr) (m : List OpV) (mk : Nat) (hl : OpsRd w A l) (hm : OpsRd w B m) :
    Calls Try.prog 9 #[.slice A l.length k, .slice B m.length mk] w fun e w' => e = .returned (.bool true) ∧ Below w.heap.size w w' := by
  have hl := hid hl
  have hm := hid hm
  obtain ⟨ln, hln⟩ : ∃ n, Hid (l.length = n) := ⟨_, hid rfl⟩
  obtain ⟨mn, hmn⟩ : ∃ n, Hid (m.length = n) := ⟨_, hid rfl⟩
  rw [hln.out, hmn.out]
  by_cases hbad : 400 < ln ∨ 400 < mn
  · have hbadh := hid hbad
    obtain ⟨b1, hb1⟩ : ∃ b, Hid (decide (ln ≤ 400) = b) := ⟨_, hid rfl⟩
    obtain ⟨b2, hb2⟩ : ∃ b, Hid (decide (mn ≤ 400) = b) := ⟨_, hid rfl⟩
    clear hbad
    go_enter Try.func9, Try.ntmps9
    go_wp2_with fail
    refine (made_any w A l ln k hl.out hln.out hb1.out).mono ?_
    rintro e w1 ⟨pa, pb, rfl, hc1⟩
    have hC1 := hid hc1
    have hm1 := hid (hm.out.none_ hc1)
    clear hc1
    go_wp2_with fail
    refine (made_any w1 B m mn mk hm1.out hmn.out hb2.out).mono ?_
    rintro e w2 ⟨pc, pd, rfl, hc2⟩
    have hC2 := hid (hC1.out.trans_same hc2)
    clear hc2
    refine (Classical.em (400 < ln)).elim ?ya ?yb
    case' ya =>
      intro h1
      have ht1 : decide ((400 : Int) < (ln : Int)) = true := by simp; omega
      have hbf : b1 = false := by rw [← hb1.out]; simp; omega
      subst hbf
      clear h1
    case' yb =>
      intro h1
      have ht1 : decide ((400 : Int) < (ln : Int)) = false := by simp; omega
      have ht2 : decide ((400 : Int) < (mn : Int)) = true := by have := hbadh.out; simp; omega
      have hbf : b1 = true := by rw [← hb1.out]; simp; omega
      have hbf2 : b2 = false := by rw [← hb2.out]; have := hbadh.out; simp; omega
      subst hbf hbf2
      clear h1
    all_goals
      go_wp2_with fail
      refine (lives_true _).mono ?_
      rintro e w3 ⟨rfl, hc3⟩
      have fin := hid (none_below (hC2.out.trans_same hc3))
      clear hc3
      go_wp2_with fail
      go_ret
      exact ⟨rfl, fin.out⟩
  have hl4 : ln ≤ 400 := by omega
  have hm4 : mn ≤ 400 := by omega
  clear hbad
  go_enter Try.func9, Try.ntmps9
  go_wp2_with fail
  have hmd := made_true w A l k hl.out (by rw [hln.out]; exact hl4)
  rw [hln.out] at hmd
  refine hmd.mono ?_
  rintro e w1 ⟨o1, r1, rfl, L1, hT1', hL1', hC1'⟩
  obtain ⟨S1, hS1', hfix1'⟩ := hT1'.fix
  have hS1 : Hid (∀ k, S1 k → k < w1.heap.size ∧ w.heap.size ≤ k) := hid fun k e => ⟨(hS1' k e).1, (hS1' k e).2.elim False.elim id⟩
  have hfix1 := hid hfix1'
  have hL1 : Hid (L1.length ≤ 400) := hid (by omega)
  have hC1 := hid hC1'
  have hm1 := hid (hm.out.none_ hC1')
  clear hT1' hL1' hC1' hS1' hfix1' hmd
  go_wp2_with fail
  have hmd := made_true w1 B m mk hm1.out (by rw [hmn.out]; exact hm4)
  rw [hmn.out] at hmd
  refine hmd.mono ?_
  rintro e w2 ⟨o2, r2, rfl, L2, hT2', hL2', hC2'⟩
  obtain ⟨S2, hS2', hfix2⟩ := hT2'.fix
  have hS2 : Hid (∀ k, S2 k → k < w2.heap.size ∧ w1.heap.size ≤ k) := hid fun k e => ⟨(hS2' k e).1, (hS2' k e).2.elim False.elim id⟩
  have hL2 : Hid (L2.length ≤ 400) := hid (by omega)
  have hT1 : Hid (Two w2 S1 w2.heap.size o1 r1 (ln * 1000) L1 L1) := hid (hfix1.out _ _ hC2')
  have hC2 := hid hC2'
  have hfix2 := hid hfix2
  obtain ⟨n, hn⟩ : ∃ n, Hid (nOf L1 = n) := ⟨_, hid rfl⟩
  have hn4 : n ≤ 400 := by have := nOf_le L1; have := hn.out; have := hL1.out; omega
  clear hT2' hL2' hC2' hS2' hm1 hmd hm
  go_wp2_with fail
  refine (o_keys hT1.out.one (by have := hL1.out; omega) hn.out).mono ?_
  rintro e w3 ⟨A3, k3, rfl, hR', hc3⟩
  have hR := hid hR'
  have hT13 : Hid (Two w3 S1 w3.heap.size o1 r1 (ln * 1000) L1 L1) := hid (hfix1.out _ _ (hC2.out.trans_same hc3))
  have hst0 : Hid (ApartSt w3 w3 S2 o2 r2 0) := hid ⟨L2, _, hfix2.out w3 w3.heap.size hc3, by have := hL2.out; omega, by omega, Chg.refl _ _⟩
  have hC3 : Hid (Chg (fun _ => False) w w3) := hid ((hC1.out.trans_same hC2.out).trans_same hc3)
  have h12 : w1.heap.size ≤ w2.heap.size := hC2.out.size
  have h23 : w2.heap.size ≤ w3.heap.size := hc3.size
  have h01 : w.heap.size ≤ w1.heap.size := hC1.out.size
  have hkl : Hid ((keysM L1).length = n) := hid (by rw [keysM_len]; exact hn.out)
  clear hR' hc3 hT1 hC1 hC2 hfix1 hfix2
  go_wp2_with fail
  go_loopw [12] (fun i wr => ∃ j : Nat, j ≤ ln ∧ j ≤ 20 ∧ i = .int .i64 j ∧ Hid (ApartSt w3 wr S2 o2 r2 j)) (fun i _ => ln - (intOf i).toNat)
  case atStart => exact ⟨0, Nat.zero_le _, by omega, rfl, hst0⟩
  case round =>
    obtain ⟨j, hj, hj2, rfl, hst⟩ := hrel
    clear hst0
    obtain ⟨L, M, hT', hLl', hM', hcr'⟩ := hst.out
    have hT := hid hT'
    have hLl := hid hLl'
    have hM := hid hM'
    have hcr := hid hcr'
    have hCr : Hid (Chg (fun _ => False) w wr) := hid (hC3.out.trans hcr' fun k hk e => by have := hS2.out k e; omega)
    clear hT' hLl' hM' hcr' hst
    by_cases hlt : j < ln ∧ j < 20
    · obtain ⟨hlt1, hlt2⟩ := hlt
      have hlt3 : (j : Int) < 20 := by omega
      obtain ⟨x, b, o', rfl, hb, hxm, -, hcell⟩ := op_at (hl.out.none_ hCr.out) (by rw [hln.out]; exact hlt1)
      have hwf := hid (hl.out.2 x hxm)
      have c0 := hcell 0 (by omega)
      have c1 := hcell 1 (by omega)
      have c2 := hcell 2 (by omega)
      have c3 := hcell 3 (by omega)
      have c4 := hcell 4 (by omega)
      have c5 := hcell 5 (by omega)
      have c6 := hcell 6 (by omega)
      have c7 := hcell 7 (by omega)
      have c8 := hcell 8 (by omega)
      have c9 := hcell 9 (by omega)
      have c10 := hcell 10 (by omega)
      simp only [OpV.cs, List.getElem?_cons_succ, List.getElem?_cons_zero, Nat.add_zero] at c0 c1 c2 c3 c4 c5 c6 c7 c8 c9 c10
      have hz : Hid (w3.heap.size ≤ wr.heap.size) := hid hcr.out.size
      clear hcell hxm
      go_wp2_with fail
      refine (step_true hT.out hz.out (by have := hLl.out; omega) (by have := hM.out; omega) x hwf.out).mono ?_
      rintro e w4 ⟨rfl, L', g1, g2, g3⟩
      have fin : Hid (ApartSt w3 w4 S2 o2 r2 (j + 1)) := hid ⟨L', _, g1, by have := hLl.out; omega, by have := hM.out; omega, hcr.out.trans g3 fun k hk e => by
        rcases e with e | e
        · exact e
        · omega⟩
      clear g1 g2 g3 c0 c1 c2 c3 c4 c5 c6 c7 c8 c9 c10
      go_wp2_with fail
      go_roundw
      case rel => exact ⟨j + 1, by omega, by omega, by go_num, fin⟩
      case measure => simp [intOf]; omega
    · have hT1r : Hid (Two wr S1 w3.heap.size o1 r1 (ln * 1000) L1 L1) := hid (by
        obtain ⟨vs, bm, q, D, vr, h⟩ := hT13.out
        have hlo : ∀ k, ownF o1 vs bm k ∨ docF r1 vr k → k < w3.heap.size := fun k hk => hk.elim (fun h' => h.ow.lt h') fun h' => h.dc.lt h'
        have hns : ∀ k, ownF o1 vs bm k ∨ docF r1 vr k → ¬ S2 k := fun k hk e => by
          have h1 := hlo k hk
          have h2 := hS2.out k e
          rcases h.lo k hk with h3 | h3
          · have := hS1.out k h3; omega
          · omega
        exact ⟨vs, bm, q, D, vr, h.ow.chg hcr.out fun k hk => hns k (.inl hk), h.dc.chg hcr.out fun k hk => hns k (.inr hk), h.dis, h.lo, h.nn⟩)
      have hRr := hid (hR.out.chg hcr.out fun k hk e => by have := hR.out.lo k hk; have := hS2.out k e; omega)
      have hRlt : Hid (∀ k, (Value.slice A3 n k3).ownBlock = some k → k < w3.heap.size ∧ w2.heap.size ≤ k) := hid fun k hk => ⟨own_lt hR.out.own hk, hR.out.lo k hk⟩
      have hL1k : Hid (L1.length ≤ 1000) := hid (by have := hL1.out; omega)
      have hz : Hid (w3.heap.size ≤ wr.heap.size) := hid hcr.out.size
      clear hT13 hcr hR hl
      refine (Classical.em (j < ln)).elim ?yc ?yd
      case' yc =>
        intro h1
        have h2 : ¬ ((j : Int) < 20) := by omega
      case' yd =>
        intro h1
      all_goals
        go_wp2_with fail
        refine (shown_true hT1r.out hL1k.out).mono ?_
        rintro e w5 ⟨rfl, hc5⟩
        have hT15 := hid (hT1r.out.none_ hc5)
        have hT5 := hid (hT.out.none_ hc5)
        have hR5 := hid (hRr.out.none_ hc5)
        have hC5 := hid (hCr.out.trans_same hc5)
        have hz5 : Hid (w3.heap.size ≤ w5.heap.size) := hid (Nat.le_trans hz.out hc5.size)
        clear hc5 hT1r hT hRr hCr hz
        go_wp2_with fail
        refine (shown_true hT5.out (by have := hLl.out; omega)).mono ?_
        rintro e w6 ⟨rfl, hc6⟩
        have hT16 := hid (hT15.out.none_ hc6)
        have hR6 := hid (hR5.out.none_ hc6)
        have hC6 := hid (hC5.out.trans_same hc6)
        have hz6 : Hid (w3.heap.size ≤ w6.heap.size) := hid (Nat.le_trans hz5.out hc6.size)
        clear hc6 hT15 hT5 hR5 hC5 hz5
        obtain ⟨e1, Ln, hp⟩ : ∃ e1 Ln, Hid (setM L1 kNew vNew = (e1, Ln)) := ⟨_, _, hid rfl⟩
        go_wp2_with fail
        refine (p_set hT16.out hz6.out (by have := hL1.out; omega) (by omega) kNew_wf hp.out).mono ?_
        rintro e w7 ⟨rfl, hT7', hc7⟩
        have hT7 := hid hT7'
        have hR7 := hid (hR6.out.chg hc7 fun k hk e => by
          have h1 := hRlt.out k hk
          rcases e with e | e
          · have := hS1.out k e; omega
          · omega)
        have hC7 : Hid (Chg (fun _ => False) w w7) := hid (hC6.out.trans hc7 fun k hk e => by
          rcases e with e | e
          · have := hS1.out k e; omega
          · omega)
        clear hT7' hc7 hT16 hR6 hC6
        go_wp2_with fail
        refine (q_keys hT7.out hL1k.out hn.out).mono ?_
        rintro e w8 ⟨A8, k8, rfl, hR8', hc8⟩
        have hR8 := hid hR8'
        have hR9 := hid (hR7.out.none_ hc8)
        have hC8 := hid (hC7.out.trans_same hc8)
        clear hR8' hc8 hT7 hR7 hC7
        go_wp2_with fail
        refine (values_own hkl.out hkl.out hR9.out.own hR8.out.own (by omega) (by omega) (decide_eq_true rfl)).mono ?_
        rintro e w9 ⟨rfl, hc9⟩
        have hC9 := hid (hC8.out.trans_same hc9)
        clear hc9 hR9 hR8 hC8
        go_wp2_with fail
        refine (lives_true _).mono ?_
        rintro e w10 ⟨rfl, hc10⟩
        have fin := hid (none_below (hC9.out.trans_same hc10))
        clear hc10
        go_wp2_with fail
        go_ret
        exact ⟨rfl, fin.out⟩
end Go.Proofs.Ytabodabfiklbnaa
