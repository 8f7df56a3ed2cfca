/-
  CleanupInverse: the walk.
-/
import Derived.Test.YtpfopidmdnkkeaaHeld
namespace Go.Proofs.Ytpfopidmdnkkeaa
open Go.RowKit Go.Maps

section
variable {w0 wr w' : World} {S : Nat → Prop} {N o r M n : Nat} {es es' es1 : List En} {fl fl' fl1 : Option Fl} {s : Value} {rs : List V}
theorem Held.bk {b : Nat} {t : TypeId} {cs : List Value} (h : Held w0 wr S N o r M es fl es' fl' s n rs) (hb : Bk w0 b t cs) : Bk wr b t cs := hb.none_ h.chg
end
set_option maxRecDepth 100000 in
set_option maxHeartbeats 8000000 in
theorem inverse_true (w : World) (A : Option Addr) (l : List OpV) (k : Nat) (reg : Int) (v : V) (hl : Rd w 7 A l.length (l.flatMap OpV.cs)) :
    Calls Try.prog 6 #[.slice A l.length k, .int .i64 reg, (.agg #[.int .i64 v.k, .int .i64 v.p, .int .i64 v.q, .string v.s, .int .i64 v.r])] w fun e w' => e = .returned (.bool true) ∧ Below w.heap.size w w' := by
  have hC0 := hid ((Chg.refl (fun _ => False) w).alloc (.cells v.cs.toArray 25))
  by_cases hs : 300 < l.length
  · go_enter Try.func6, Try.ntmps6
    go_wp2_with fail
    refine (large_any _ A l.length k (decide_eq_true hs)).mono ?_
    rintro e w1 ⟨rfl, rfl⟩
    go_wp2_with fail
    refine (awake_true _).mono ?_
    rintro e w1 ⟨rfl, hc1⟩
    have fin := hid (none_below (hC0.out.trans_same hc1))
    clear hc1
    go_wp2_with fail
    go_ret
    exact ⟨rfl, fin.out⟩
  have hl := hid (hl.alloc (.cells v.cs.toArray 25))
  have hs' := hid (decide_eq_false hs)
  have hs2 : l.length ≤ 300 := by omega
  have hX0 := hid (Bk.new w 25 v.cs)
  clear hs
  go_enter Try.func6, Try.ntmps6
  go_wp2_with fail
  refine (large_any _ A l.length k hs'.out).mono ?_
  rintro e w0 ⟨rfl, rfl⟩
  clear hs'
  go_wp2_with fail
  refine (made_true _ A l k hl.out hs2).mono ?_
  rintro e w1 ⟨o, r, rfl, es, fl, hT', hm', hsm', hz', hC'⟩
  have hT := hid hT'
  have hC := hid hC'
  obtain ⟨n, hn⟩ : ∃ n, Hid (es.length = n) := ⟨_, hid rfl⟩
  have hn1 : n ≤ 300 := by have := hn.out; omega
  generalize l.length = j at hT hs2
  clear hT' hC' hm' hsm' hz' hl
  go_wp2_with fail
  refine (o_values hT.out.one hn.out (by omega)).mono ?_
  rintro e w2 ⟨A2, k2, rfl, hR', hc2⟩
  obtain ⟨S, hH'⟩ := Held.start hT.out hC.out hR' hc2
  have hH := hid hH'
  obtain ⟨y0, y1, y2, y3, y4⟩ := V.box (hH.out.bk hX0.out)
  have hlx := (hH.out.bk hX0.out).lt
  clear hH' hR' hc2 hT hC
  generalize hNN : w2.heap.size = N at hH
  clear hNN
  have hlast : Hid ((0 < es.length ∧ reg ≤ (lastE es).r) ↔ ∃ m, n = m + 1 ∧ reg ≤ (enAt es m).r) := hid (by
    have hn2 := hn.out
    unfold lastE
    rw [hn2]
    constructor
    · rintro ⟨h1, h2⟩
      obtain ⟨m, rfl⟩ : ∃ m, n = m + 1 := ⟨n - 1, by omega⟩
      exact ⟨m, rfl, by rw [Nat.add_sub_cancel] at h2; exact h2⟩
    · rintro ⟨m, rfl, h2⟩
      exact ⟨by omega, by rw [Nat.add_sub_cancel]; exact h2⟩)
  have hpush : Hid (push es reg v = if reg < 0 ∨ 2147483647 < reg ∨ vok v = false then (2, es) else if trueV v = false then (0, es) else if 0 < es.length ∧ reg ≤ (lastE es).r then (16, es) else (0, es ++ [⟨reg, v⟩])) := hid rfl
  refine (Classical.em (reg < 0 ∨ 2147483647 < reg ∨ vok v = false)).elim ?y1 ?n1
  case' y1 =>
    intro hbad
    have hp : Hid (push es reg v = (2, es)) := hid (by rw [hpush.out, if_pos hbad])
    go_wp2_with fail
    refine (p_push hH.out.two hH.out.hN (by rw [hn.out]; omega) (by omega) reg v hp.out).mono ?_
    rintro e w3 ⟨rfl, hT3, hc3⟩
    have hH3 := hid (hH.out.post hT3 hc3)
    obtain ⟨z0, z1, z2, z3, z4⟩ := V.box (hH3.out.bk hX0.out)
    have hlz := (hH3.out.bk hX0.out).lt
    clear hT3 hc3 hH y0 y1 y2 y3 y4 hlx hp hpush hlast
    refine (Classical.em (reg < 0)).elim ?y2 ?n2
    case' y2 =>
      intro h0
      have d0 : decide (reg < 0) = true := by simpa using h0
      clear hbad h0
      go_wp2_with fail
    case' n2 =>
      intro h0
      have d0 : decide (reg < 0) = false := by simpa using h0
      refine (Classical.em (2147483647 < reg)).elim ?y3 ?n3
      case' y3 =>
        intro h1
        have d1 : decide (2147483647 < reg) = true := by simpa using h1
        clear hbad h0 h1
        go_wp2_with fail
      case' n3 =>
        intro h1
        have d1 : decide (2147483647 < reg) = false := by simpa using h1
        have hv : Hid (vok v = false) := hid (hbad.elim (fun h => absurd h h0) fun h => h.elim (fun h => absurd h h1) id)
        clear hbad h0 h1
        go_wp2_with fail
        refine (doc_valid_eq hv.out).mono ?_
        rintro e w4 ⟨rfl, hc4⟩
        have hH4 := hid (hH3.out.none_ hc4)
        clear hc4 hH3 z0 z1 z2 z3 z4 hlz
        have hH3 := hH4
        clear hH4
        go_wp2_with fail
  case' n1 =>
    intro hbad
    have hv : Hid (vok v = true) := hid (by cases h : vok v with | true => rfl | false => exact absurd (.inr (.inr h)) hbad)
    have d0 : decide (reg < 0) = false := by simp; omega
    have d1 : decide (2147483647 < reg) = false := by simp; omega
    refine (Classical.em (trueV v = false)).elim ?y4 ?n4
    case' y4 =>
      intro ht
      have hp : Hid (push es reg v = (0, es)) := hid (by rw [hpush.out, if_neg hbad, if_pos ht])
      have hth := hid ht
      clear hbad hpush hlast ht
      go_wp2_with fail
      refine (p_push hH.out.two hH.out.hN (by rw [hn.out]; omega) (by omega) reg v hp.out).mono ?_
      rintro e w3 ⟨rfl, hT3, hc3⟩
      have hH3 := hid (hH.out.post hT3 hc3)
      obtain ⟨z0, z1, z2, z3, z4⟩ := V.box (hH3.out.bk hX0.out)
      have hlz := (hH3.out.bk hX0.out).lt
      clear hT3 hc3 hH y0 y1 y2 y3 y4 hlx hp
      go_wp2_with fail
      refine (doc_valid_eq hv.out).mono ?_
      rintro e w4 ⟨rfl, hc4⟩
      have hH4 := hid (hH3.out.none_ hc4)
      clear hc4 hH3 z0 z1 z2 z3 z4 hlz
      obtain ⟨z0, z1, z2, z3, z4⟩ := V.box (hH4.out.bk hX0.out)
      have hlz := (hH4.out.bk hX0.out).lt
      go_wp2_with fail
      refine (doc_true _ v hth.out).mono ?_
      rintro e w5 ⟨rfl, hc5⟩
      have hH3 := hid (hH4.out.none_ hc5)
      clear hc5 hH4 z0 z1 z2 z3 z4 hlz
      go_wp2_with fail
    case' n4 =>
      intro ht
      have hth : Hid (trueV v = true) := hid (by cases h : trueV v with | true => rfl | false => exact absurd h ht)
      clear ht
      refine (Classical.em (∃ m, n = m + 1 ∧ reg ≤ (enAt es m).r)).elim ?y5 ?n5
      case' y5 =>
        intro hla
        have hp : Hid (push es reg v = (16, es)) := hid (by rw [hpush.out, if_neg hbad, if_neg (by rw [hth.out]; simp), if_pos (hlast.out.2 hla)])
        obtain ⟨m, hmm, hle⟩ := hla
        subst hmm
        clear hbad hpush hlast
        go_wp2_with fail
        refine (p_push hH.out.two hH.out.hN (by rw [hn.out]; omega) (by omega) reg v hp.out).mono ?_
        rintro e w3 ⟨rfl, hT3, hc3⟩
        have hH3 := hid (hH.out.post hT3 hc3)
        obtain ⟨z0, z1, z2, z3, z4⟩ := V.box (hH3.out.bk hX0.out)
        have hlz := (hH3.out.bk hX0.out).lt
        clear hT3 hc3 hH y0 y1 y2 y3 y4 hlx hp
        have hle' := hid hle
        clear hle
        go_wp2_with fail
        refine (doc_valid_eq hv.out).mono ?_
        rintro e w4 ⟨rfl, hc4⟩
        have hH4 := hid (hH3.out.none_ hc4)
        clear hc4 hH3 z0 z1 z2 z3 z4 hlz
        obtain ⟨z0, z1, z2, z3, z4⟩ := V.box (hH4.out.bk hX0.out)
        have hlz := (hH4.out.bk hX0.out).lt
        go_wp2_with fail
        refine (doc_true _ v hth.out).mono ?_
        rintro e w5 ⟨rfl, hc5⟩
        have hH3 := hid (hH4.out.none_ hc5)
        clear hc5 hH4 z0 z1 z2 z3 z4 hlz
        obtain ⟨Ar, kr, c0, hreg⟩ := hH3.out.two.regs hn.out
        obtain ⟨b, rfl, hb, q0⟩ := hreg m (by omega)
        have hrl := hH3.out.two.rlt
        have hle := hle'.out
        generalize (enAt es m).r = x at q0 hle
        have hw2 : IntKind.i64.wrap (m : Int) = (m : Int) := by rw [IntKind.wrap_i64]; omega
        have hmc : (m : Int) < (m : Int) + 1 := by omega
        clear hreg hle'
        go_wp2_with fail
        clear hw2 hmc hle
      case' n5 =>
        intro hla
        have hnl : Hid (¬ (0 < es.length ∧ reg ≤ (lastE es).r)) := hid fun h => hla (hlast.out.1 h)
        have hp : Hid (push es reg v = (0, es ++ [⟨reg, v⟩])) := hid (by rw [hpush.out, if_neg hbad, if_neg (by rw [hth.out]; simp), if_neg hnl.out])
        clear hbad hpush hlast
        have hlah := hid hla
        clear hla
        have hn2 : Hid ((es ++ [(⟨reg, v⟩ : En)]).length = n + 1) := hid (by rw [List.length_append, hn.out]; rfl)
        go_wp2_with fail
        refine (p_push hH.out.two hH.out.hN (by rw [hn.out]; omega) (by omega) reg v hp.out).mono ?_
        rintro e w3 ⟨rfl, hT3, hc3⟩
        have hH3 := hid (hH.out.post hT3 hc3)
        obtain ⟨z0, z1, z2, z3, z4⟩ := V.box (hH3.out.bk hX0.out)
        have hlz := (hH3.out.bk hX0.out).lt
        clear hT3 hc3 hH y0 y1 y2 y3 y4 hlx hp
        go_wp2_with fail
        refine (doc_valid_eq hv.out).mono ?_
        rintro e w4 ⟨rfl, hc4⟩
        have hH4 := hid (hH3.out.none_ hc4)
        clear hc4 hH3 z0 z1 z2 z3 z4 hlz
        obtain ⟨z0, z1, z2, z3, z4⟩ := V.box (hH4.out.bk hX0.out)
        have hlz := (hH4.out.bk hX0.out).lt
        go_wp2_with fail
        refine (doc_true _ v hth.out).mono ?_
        rintro e w5 ⟨rfl, hc5⟩
        have hH5 := hid (hH4.out.none_ hc5)
        clear hc5 hH4 z0 z1 z2 z3 z4 hlz
        obtain ⟨Ar, kr, c0, hreg⟩ := hH5.out.two.regs hn.out
        have hregh := hid hreg
        clear hreg
        have hrl := hH5.out.two.rlt
        refine (Nat.eq_zero_or_pos n).elim ?y6 ?n6
        case' y6 =>
          intro h0
          have dn : decide (0 < n) = false := by simp; omega
          clear h0 hregh hlah
          go_wp2_with fail
        case' n6 =>
          intro h0
          obtain ⟨m, hmm⟩ : ∃ m, n = m + 1 := ⟨n - 1, by omega⟩
          subst hmm
          obtain ⟨b, rfl, hb, q0⟩ := hregh.out m (by omega)
          have hlt : ¬ reg ≤ (enAt es m).r := fun h => hlah.out ⟨m, rfl, h⟩
          generalize (enAt es m).r = x at q0 hlt
          have dx : decide (reg ≤ x) = false := by simp; omega
          have hw2 : IntKind.i64.wrap (m : Int) = (m : Int) := by rw [IntKind.wrap_i64]; omega
          have hmc : (m : Int) < (m : Int) + 1 := by omega
          clear h0 hregh hlah hlt
          go_wp2_with fail
          clear hw2 hmc dx
        all_goals
          refine (o_len hH5.out.two.one hn2.out).mono ?_
          rintro e w6 ⟨rfl, rfl⟩
          go_wp2_with fail
          refine (p_pop hH5.out.two hH5.out.hN (by rw [hn2.out]; omega) reg pop_push).mono ?_
          rintro e w6 ⟨rfl, hT6, hc6⟩
          have hH3 := hid ((hH5.out.post hT6 hc6).alloc (.cells v.cs.toArray 25))
          obtain ⟨z0, z1, z2, z3, z4⟩ := V.box ((hH5.out.post hT6 hc6).bk hX0.out)
          have hlz := ((hH5.out.post hT6 hc6).bk hX0.out).lt
          clear hT6 hc6 hH5
          go_wp2_with fail
  all_goals
    refine (o_values hH3.out.two.one hn.out (by omega)).mono ?_
    rintro e w7 ⟨A7, k7, rfl, hR7', hc7⟩
    have hR7 := hid hR7'
    have hH7 := hid (hH3.out.none_ hc7)
    clear hR7' hc7 hH3
    go_wp2_with fail
    refine (values_own (by rw [vals_len]; exact hn.out) (by rw [vals_len]; exact hn.out) hR7.out.own hH7.out.row (by omega) (by omega) (decide_eq_true rfl)).mono ?_
    rintro e w8 ⟨rfl, hc8⟩
    have hH8 := hid (hH7.out.none_ hc8)
    clear hc8 hR7 hH7
    go_wp2_with fail
    refine (awake_true _).mono ?_
    rintro e w9 ⟨rfl, hc9⟩
    have fin := hid (none_below (hC0.out.trans_same (hH8.out.none_ hc9).chg))
    clear hc9 hH8
    go_wp2_with fail
    go_ret
    exact ⟨rfl, fin.out⟩
end Go.Proofs.Ytpfopidmdnkkeaa
