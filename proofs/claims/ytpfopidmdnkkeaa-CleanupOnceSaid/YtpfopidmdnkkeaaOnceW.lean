/-
  CleanupOnce: the walk.
-/
import Derived.Test.YtpfopidmdnkkeaaHeld
namespace Go.Proofs.Ytpfopidmdnkkeaa
open Go.RowKit Go.Maps

set_option maxRecDepth 100000 in
set_option maxHeartbeats 8000000 in
theorem once_true (w : World) (A : Option Addr) (l : List OpV) (k : Nat) (reg : Int) (hl : Rd w 7 A l.length (l.flatMap OpV.cs)) :
    Calls Try.prog 5 #[.slice A l.length k, .int .i64 reg] w fun e w' => e = .returned (.bool true) ∧ Below w.heap.size w w' := by
  by_cases hs : 300 < l.length
  · go_enter Try.func5, Try.ntmps5
    go_wp2_with fail
    refine (large_any w A l.length k (decide_eq_true hs)).mono ?_
    rintro e w1 ⟨rfl, rfl⟩
    go_wp2_with fail
    refine (awake_true _).mono ?_
    rintro e w1 ⟨rfl, hc1⟩
    have fin := hid (none_below hc1)
    clear hc1
    go_wp2_with fail
    go_ret
    exact ⟨rfl, fin.out⟩
  have hl := hid hl
  have hs' := hid (decide_eq_false hs)
  have hs2 : l.length ≤ 300 := by omega
  clear hs
  go_enter Try.func5, Try.ntmps5
  go_wp2_with fail
  refine (large_any w A l.length k hs'.out).mono ?_
  rintro e w0 ⟨rfl, rfl⟩
  clear hs'
  go_wp2_with fail
  refine (made_true w A l k hl.out hs2).mono ?_
  rintro e w1 ⟨o, r, rfl, es, fl, hT', hm', hsm', hz', hC'⟩
  have hT := hid hT'
  have hC := hid hC'
  obtain ⟨n, hn⟩ : ∃ n, Hid (es.length = n) := ⟨_, hid rfl⟩
  have hn1 : n ≤ 300 := by have := hn.out; omega
  generalize l.length = j at hT hs2
  clear hT' hC' hm' hsm' hz' hl
  go_wp2_with fail
  refine (o_values hT.out.one hn.out (by omega)).mono ?_
  rintro e w2 ⟨A2, k2, rfl, hR', hc2⟩
  obtain ⟨S, hH'⟩ := Held.start hT.out hC.out hR' hc2
  have hH := hid hH'
  have hnk : n ≤ k2 := hH'.cap
  obtain ⟨Ar, kr, c0, -⟩ := hH'.two.regs hn.out
  have hrl := hH'.two.rlt
  clear hH' hR' hc2 hT hC
  go_wp2_with fail
  generalize w2.heap.size = N at hH
  go_loopw [8] (fun i wr => ∃ m M : Nat, m ≤ n ∧ M + m ≤ j + n ∧ i = .int .i64 ((m : Int) - 1) ∧ Hid (Held w wr S N o r M (es.take m) fl es fl (.slice A2 n k2) n (valsOf es))) (fun i _ => (intOf i + 1).toNat)
  case atStart =>
    refine ⟨n, j, Nat.le_refl _, Nat.le_refl _, rfl, ?_⟩
    rw [List.take_of_length_le (by have := hn.out; omega)]
    exact hH
  case round =>
    obtain ⟨m, M, hm, hM, hi, hHr⟩ := hrel
    clear hH c0 hrl
    obtain ⟨Ar, kr, c0, hreg⟩ := hHr.out.two.regs hn.out
    have hreg := hid hreg
    have hrl := hHr.out.two.rlt
    have hlen : Hid ((es.take m).length = m) := hid (by rw [List.length_take]; have := hn.out; omega)
    refine (Nat.eq_zero_or_pos m).elim ?none ?some
    case' none =>
      intro h0
      have hi2 := hi.trans (show Value.int .i64 ((m : Int) - 1) = .int .i64 (-1) by rw [h0]; rfl)
      clear hi
      subst hi2
      have hno : Hid (pop (es.take m) reg = (V.zero, false, es.take m)) := hid (pop_take_no (by have := hn.out; omega) (.inl h0))
      clear h0 hreg
    case' some =>
      intro hpos
      obtain ⟨m', hmm⟩ : ∃ m', m = m' + 1 := ⟨m - 1, by omega⟩
      have hi2 := hi.trans (show Value.int .i64 ((m : Int) - 1) = .int .i64 (m' : Int) by rw [hmm]; simp)
      clear hi
      subst hi2
      obtain ⟨b, rfl, hb, q0⟩ := hreg.out m' (by omega)
      obtain ⟨x, hx⟩ : ∃ x, Hid ((enAt es m').r = x) := ⟨_, hid rfl⟩
      rw [hx.out] at q0
      have hmn : (m' : Int) < (n : Int) := by omega
      have hmn2 : m' < n := by omega
      have hmh := hid hmm
      clear hpos hreg hmm
      refine (Classical.em (reg ≤ x)).elim ?yes ?no
      case' yes =>
        intro hge
        have hd : decide (reg ≤ x) = true := by simpa using hge
        have hp : Hid (pop (es.take m) reg = ((enAt es m').v, true, es.take m')) := hid (by rw [hmh.out]; exact pop_take_yes (by have := hn.out; omega) (by rw [hx.out]; exact hge))
        clear hge
        obtain ⟨v, hv⟩ : ∃ v, Hid ((enAt es m').v = v) := ⟨_, hid rfl⟩
        rw [hv.out] at hp
        go_wp2_with fail
        refine (p_pop hHr.out.two hHr.out.hN (by rw [hlen.out]; omega) reg hp.out).mono ?_
        rintro e w3 ⟨rfl, hT3, hc3⟩
        have hH3 := hid (((hHr.out.post hT3 hc3).alloc (.cells v.cs.toArray 25)).drew)
        obtain ⟨g, rfl, hg, -, -, y0, y1, y2, y3, y4⟩ := (hHr.out.post hT3 hc3).at_ (by rw [vals_len]; exact hn.out) hmn2
        rw [vals_at (by have := hn.out; omega), hv.out] at y0 y1 y2 y3 y4
        have hlen' : Hid ((es.take m').length = m') := hid (by rw [List.length_take]; have := hn.out; omega)
        clear hT3 hc3 hHr hlen hp
        go_wp2_with fail
        refine wp_region_rc (id := 13) [.rd [0, 1, 2, 3, 4, 5, 6, 7, 8, 9, 10, 11], .wl [13]] [12, 14, 15] [] (fun w' => w' = _) (by kernel_rfl) 101 rfl (by kernel_rfl) (fun _ _ _ _ _ h => h) rfl ?_
        refine steps_rdW ?_
        apply Exists.intro
        refine ⟨?_, ?_⟩
        focus
          rintro w' rfl
          iterate 12 (refine stW_step rfl (fun K hK => ?_); go_simp; refine hK _ ?_; clear hK K)
          exact stW_nil rfl
        refine steps_wlW ?_
        apply Exists.intro
        refine ⟨?_, ?_⟩
        focus
          intro w'
          iterate 1 (refine stW_step rfl (fun K hK => ?_); go_simp; refine hK _ ?_; clear hK K)
          exact stW_nil rfl
        refine steps_nil (l := [⟨_, _, _, _, _, _⟩, ⟨_, _, _, _, _, _⟩, ⟨_, _, _, _, _, _⟩]) rfl (fun K2 hK2 => ?_)
        go_wp2_with fail
        refine (o_len hH3.out.two.one hlen'.out).mono ?_
        rintro e w4 ⟨rfl, rfl⟩
        go_wp2_with fail
        refine hK2 _ _ rfl ?_
        clear hK2 K2
        refine stI_nil ?_
        go_wp2_with fail
        go_roundw
        case rel => exact ⟨m', M + 1, by omega, by have := hmh.out; omega, rfl, hH3⟩
        case measure => simp [intOf] <;> omega
      case' no =>
        intro hge
        have hd : decide (reg ≤ x) = false := by simpa using hge
        have hno : Hid (pop (es.take m) reg = (V.zero, false, es.take m)) := hid (pop_take_no (by have := hn.out; omega) (.inr ⟨m', hmh.out, by rw [hx.out]; omega⟩))
        clear hge
    all_goals
      go_wp2_with fail
      refine (o_len hHr.out.two.one hlen.out).mono ?_
      rintro e w3 ⟨rfl, rfl⟩
      go_wp2_with fail
      refine (p_pop hHr.out.two hHr.out.hN (by rw [hlen.out]; omega) reg hno.out).mono ?_
      rintro e w3 ⟨rfl, hT3, hc3⟩
      have hH3 := hid (((hHr.out.post hT3 hc3).alloc (.cells V.zero.cs.toArray 25)).drew)
      have hmk : m ≤ k2 := by omega
      have hmk2 : (0 : Int) ≤ m ∧ (m : Int) ≤ k2 := by omega
      clear hT3 hc3 hHr hno
      go_wp2_with fail
      refine wp_region_rc (id := 17) [.wl [0, 1, 2, 3, 5], .act 4, .wl [6, 7, 8, 9, 11, 12, 13]] [10, 14, 15, 16, 17, 18, 19] [] (fun _ => True) (by kernel_rfl) 101 rfl (by kernel_rfl) (fun _ _ _ _ _ h => h) trivial ?_
      refine steps_wlW ?_
      apply Exists.intro
      refine ⟨?_, ?_⟩
      focus
        intro w'
        iterate 5 (refine stW_step rfl (fun K hK => ?_); go_simp; refine hK _ ?_; clear hK K)
        exact stW_nil rfl
      refine steps_act (o := ⟨_, _, _, _, _, _⟩) rfl (fun K2 hK2 => ?_)
      go_wp2_with fail
      refine (o_len hH3.out.two.one hlen.out).mono ?_
      rintro e w4 ⟨rfl, rfl⟩
      go_wp2_with fail
      refine hK2 _ _ trivial rfl ?_
      clear hK2 K2
      refine steps_wlW ?_
      apply Exists.intro
      refine ⟨?_, ?_⟩
      focus
        intro w'
        iterate 7 (refine stW_step rfl (fun K hK => ?_); go_simp; refine hK _ ?_; clear hK K)
        exact stW_nil rfl
      refine steps_nil (l := [⟨_, _, _, _, _, _⟩, ⟨_, _, _, _, _, _⟩, ⟨_, _, _, _, _, _⟩, ⟨_, _, _, _, _, _⟩, ⟨_, _, _, _, _, _⟩, ⟨_, _, _, _, _, _⟩, ⟨_, _, _, _, _, _⟩]) rfl (fun K2 hK2 => ?_)
      go_wp2_with fail
      refine (o_values hH3.out.two.one hlen.out (by omega)).mono ?_
      rintro e w5 ⟨A5, k5, rfl, hR5', hc5⟩
      have hR5 := hid hR5'
      have hH5 := hid (hH3.out.none_ hc5)
      clear hR5' hc5 hH3
      go_wp2_with fail
      refine (values_own (by rw [vals_len]; exact hlen.out) (by rw [List.length_take, vals_len]; have := hn.out; omega) hR5.out.own (hH5.out.front hm) (by omega) (by omega) (decide_eq_true (vals_take es m))).mono ?_
      rintro e w6 ⟨rfl, hc6⟩
      have hH6 := hid (hH5.out.none_ hc6)
      clear hc6 hR5 hH5
      go_wp2_with fail
      refine (awake_true _).mono ?_
      rintro e w7 ⟨rfl, hc7⟩
      have fin := hid (hH6.out.none_ hc7).below
      clear hc7 hH6
      go_wp2_with fail
      refine hK2 _ _ rfl ?_
      clear hK2 K2
      refine stI_nil ?_
      go_wp2_with fail
      go_ret
      exact ⟨rfl, fin.out⟩
end Go.Proofs.Ytpfopidmdnkkeaa
