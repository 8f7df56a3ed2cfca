/-
  CleanupRuns: the walk.
-/
import Derived.Test.YtpfopidmdnkkeaaAwake
namespace Go.Proofs.Ytpfopidmdnkkeaa
open Go.RowKit Go.Maps

theorem Live.none_ {w wr w' : World} {o r j : Nat} (h : Live w wr o r j) (hc : Chg (fun _ => False) wr w') : Live w w' o r j := by
  obtain ⟨es, fl, h1, h2, h3, h4, h5⟩ := h
  exact ⟨es, fl, h1.none_ hc, h2, h3, Nat.le_trans h4 hc.size, h5.trans_same hc⟩
theorem none_below {w w' : World} (h : Chg (fun _ => False) w w') : Below w.heap.size w w' := h.below (Nat.le_refl _) fun _ _ h => h
set_option maxRecDepth 100000 in
set_option maxHeartbeats 4000000 in
theorem runs_true (w : World) (A : Option Addr) (l : List OpV) (k : Nat) (hl : Rd w 7 A l.length (l.flatMap OpV.cs)) :
    Calls Try.prog 4 #[.slice A l.length k] w fun e w' => e = .returned (.bool true) ∧ Below w.heap.size w w' := by
  by_cases hs : 300 < l.length
  · go_enter Try.func4, Try.ntmps4
    go_wp2_with fail
    refine (large_any w A l.length k (decide_eq_true hs)).mono ?_
    rintro e w1 ⟨rfl, rfl⟩
    go_wp2_with fail
    refine (awake_true _).mono ?_
    rintro e w1 ⟨rfl, hc1⟩
    have fin := hid (none_below hc1)
    clear hc1
    go_wp2_with fail
    go_ret
    exact ⟨rfl, fin.out⟩
  have hl := hid hl
  have hs' := hid (decide_eq_false hs)
  have hs2 : l.length ≤ 300 := by omega
  clear hs
  go_enter Try.func4, Try.ntmps4
  go_wp2_with fail
  refine (large_any w A l.length k hs'.out).mono ?_
  rintro e w0 ⟨rfl, rfl⟩
  clear hs'
  go_wp2_with fail
  refine (own_new_one w).mono ?_
  rintro e w1 ⟨o, rfl, hO', hc1⟩
  have hO := hid hO'
  have hC1 := hid hc1
  have hz1 := hid hc1.size
  clear hO' hc1
  go_wp2_with fail
  refine (docs_new hO.out hz1.out).mono ?_
  rintro e w2 ⟨r, rfl, hT', hc2⟩
  have hstart := hid (Live.start hT' (hC1.out.trans_same hc2))
  clear hT' hc2 hO hC1 hz1
  go_wp2_with fail
  go_loopw [5] (fun i wr => ∃ j : Nat, j ≤ l.length ∧ i = .int .i64 j ∧ Hid (Live w wr o r j)) (fun i _ => l.length - (intOf i).toNat)
  case atStart => exact ⟨0, Nat.zero_le _, rfl, hstart⟩
  case round =>
    obtain ⟨j, hj, rfl, hLive⟩ := hrel
    clear hstart
    by_cases hlt : j < l.length
    · obtain ⟨es, fl, hT', hm', hsm', hz, hC'⟩ := hLive.out
      have hT := hid hT'
      have hm := hid hm'
      have hsm := hid hsm'
      have hC := hid hC'
      clear hT' hm' hsm' hC' hLive
      obtain ⟨b, o', rfl, hb, c0, c1, c2, c3, c4, c5, c6⟩ := op_at (hl.out.none_ hC.out) hlt ⟨0, 0, V.zero⟩
      generalize l.getD j ⟨0, 0, V.zero⟩ = x at c0 c1 c2 c3 c4 c5 c6
      go_wp2_with fail
      refine (do_true hT.out hz (by have := hm.out; omega) (by omega) hsm.out x).mono ?_
      rintro e w3 ⟨rfl, hp⟩
      have hL3 := Live.more hC.out hm.out hp
      have hL3 := hid hL3
      obtain ⟨es1, fl1, hT3', hm3', -, -, -⟩ := hL3.out
      have hT3 := hid hT3'
      obtain ⟨n, hn⟩ : ∃ n, Hid (es1.length = n) := ⟨_, hid rfl⟩
      have hn1 : n ≤ 1000 := by have := hn.out; omega
      clear hp hT3' hm3' hT hm hsm hC
      go_wp2_with fail
      refine (o_len hT3.out.one hn.out).mono ?_
      rintro e w4 ⟨rfl, rfl⟩
      go_wp2_with fail
      refine (q_len hT3.out hn.out).mono ?_
      rintro e w4 ⟨rfl, rfl⟩
      go_wp2_with fail
      refine (o_values hT3.out.one hn.out hn1).mono ?_
      rintro e w5 ⟨A5, k5, rfl, hR', hc5⟩
      have hR5 := hid hR'
      have hT5 := hid (hT3.out.none_ hc5)
      have hL5 := hid (hL3.out.none_ hc5)
      clear hR' hc5 hT3 hL3
      go_wp2_with fail
      refine (q_values hT5.out hn.out hn1).mono ?_
      rintro e w6 ⟨A6, k6, rfl, hR', hc6⟩
      have hR6 := hid hR'
      have hR7 := hid (hR5.out.none_ hc6)
      have hL6 := hid (hL5.out.none_ hc6)
      clear hR' hc6 hT5 hL5 hR5
      go_wp2_with fail
      refine (values_own (by rw [vals_len]; exact hn.out) (by rw [vals_len]; exact hn.out) hR7.out.own hR6.out.own (by omega) (by omega) (decide_eq_true rfl)).mono ?_
      rintro e w7 ⟨rfl, hc7⟩
      have fin := hid (hL6.out.none_ hc7)
      clear hc7 hL6 hR6 hR7
      go_wp2_with fail
      go_roundw
      case rel => exact ⟨j + 1, by omega, by go_num, fin⟩
      case measure => simp [intOf]; omega
    · obtain rfl : j = l.length := by omega
      obtain ⟨es, fl, -, -, -, -, hC'⟩ := hLive.out
      have hC := hid hC'
      clear hC' hLive
      go_wp2_with fail
      refine (awake_true _).mono ?_
      rintro e w5 ⟨rfl, hc5⟩
      have fin := hid (none_below (hC.out.trans_same hc5))
      clear hc5
      go_wp2_with fail
      go_ret
      exact ⟨rfl, fin.out⟩
end Go.Proofs.Ytpfopidmdnkkeaa
