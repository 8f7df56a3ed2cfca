/-
  UpvalueOpen: for every input the law returns true, and each argument reads afterwards as it read before.
-/
import Derived.Test.YtjlefkohokcohaaMade
namespace Go.Proofs.Ytjlefkohokcohaa
open Go.RowKit

set_option maxRecDepth 100000 in
set_option maxHeartbeats 4000000 in
theorem open_true (w : World) (A : Option Addr) (l : List OpV) (k n : Nat) (reg : Int) (hl : Rd w 8 A l.length (l.flatMap OpV.cs)) (hn : n ≤ 255) :
    Calls Try.prog 4 #[.slice A l.length k, .int .u8 n, .int .i64 reg] w fun e w' => e = .returned (.bool true) ∧ Below w.heap.size w w' := by
  have hl := hid hl
  by_cases h200 : 200 < l.length
  · go_enter Try.func4, Try.ntmps4
    go_wp2_with (go_at_call 13; refine (lives_true _).mono ?_; rintro e w5 ⟨rfl, hc5⟩; have fin := hid hc5)
    go_ret
    exact ⟨rfl, fin.out⟩
  have hmade := hid (made_true w A l k n hn hl.out (by omega))
  by_cases hr : reg < 0 ∨ 65536 ≤ reg
  · have hr' := hid hr
    have hlt : ¬ (200 : Int) < l.length := by omega
    have ho : ∀ L : List Cl, opn L reg = (0, 6, L) := fun L => by unfold opn; rw [if_pos hr]
    have ho := hid ho
    rcases hr with hr | hr
    · go_enter Try.func4, Try.ntmps4
      go_wp2_with (first
        | (go_at_call 14; refine hmade.out.mono ?_; rintro e w1 ⟨r, s, rfl, hL⟩; obtain ⟨L, rs, A1, k1, rfl, hlen, hLl, hX'⟩ := hL.at_; have hX := hid hX'; clear hX' hL hmade)
        | (go_at_call 15; refine hX.out.count.mono ?_; rintro e w2 ⟨rfl, rfl⟩)
        | (go_at_call 16; refine (hX.out.open (by omega) (ho.out L)).mono ?_; rintro e w3 ⟨rfl, hY'⟩; have hX := hid hY'; clear hY')
        | (go_at_call 13; refine (lives_true _).mono ?_; rintro e w5 ⟨rfl, hc5⟩; have fin := hid (hX.out.below.trans (hc5.mono hX.out.hB))))
      go_ret
      exact ⟨rfl, fin.out⟩
    · have hge : ¬ reg < 0 := by omega
      go_enter Try.func4, Try.ntmps4
      go_wp2_with (first
        | (go_at_call 14; refine hmade.out.mono ?_; rintro e w1 ⟨r, s, rfl, hL⟩; obtain ⟨L, rs, A1, k1, rfl, hlen, hLl, hX'⟩ := hL.at_; have hX := hid hX'; clear hX' hL hmade)
        | (go_at_call 15; refine hX.out.count.mono ?_; rintro e w2 ⟨rfl, rfl⟩)
        | (go_at_call 16; refine (hX.out.open (by omega) (ho.out L)).mono ?_; rintro e w3 ⟨rfl, hY'⟩; have hX := hid hY'; clear hY')
        | (go_at_call 13; refine (lives_true _).mono ?_; rintro e w5 ⟨rfl, hc5⟩; have fin := hid (hX.out.below.trans (hc5.mono hX.out.hB))))
      go_ret
      exact ⟨rfl, fin.out⟩
  · have h0 : 0 ≤ reg := by omega
    have h1 : reg < 65536 := by omega
    have hlt : ¬ (200 : Int) < l.length := by omega
    clear hr
    go_enter Try.func4, Try.ntmps4
    go_wp2_with (first
      | (go_at_call 14; refine hmade.out.mono ?_; rintro e w1 ⟨r, s, rfl, hL⟩; obtain ⟨L, rs, A1, k1, rfl, hlen, hLl, hX'⟩ := hL.at_; obtain ⟨i, L1, e1, hi, hle, hlen1, I1, ho1, hr1, -⟩ := opn_in hX'.inv h0 h1; have ea := hid e1; have eb := hid (opn_again I1 h0 h1 hi ho1 hr1); have ec := hid (cnt_pos hi ho1 (by omega : reg ≤ (at_ L1 i).reg)); have ed := hid (opn_other I1 h0 h1 hi ho1 hr1 rs); have er : Hid (regOf L1 i = reg) := hid (by rw [(regOf_in hi).1, if_pos ho1, hr1]); have es : Hid (isOpen L1 i = true) := hid (by rw [(regOf_in hi).2, ho1]); have hl1 : L1.length ≤ 1000 := (by omega); have hd1 : decide ((L.length : Int) < (i : Int)) = false := (by simp; omega); have hd2 : decide ((L.length : Int) + 1 < (L1.length : Int)) = false := (by simp; omega); have hX := hid hX'; clear hX' hL hmade e1 ho1 hr1 I1)
      | (go_at_call 15; refine hX.out.count.mono ?_; rintro e w2 ⟨rfl, rfl⟩)
      | (go_at_call 16; refine (hX.out.open (by omega) ea.out).mono ?_; rintro e w3 ⟨rfl, hY'⟩; have hY := hid hY'; clear hY' hX ea)
      | (go_at_call 16; refine (hY.out.open hl1 eb.out).mono ?_; rintro e w4 ⟨rfl, hZ'⟩; have hZ := hid hZ'; clear hZ' hY eb)
      | (go_at_call 17; refine (hZ.out.register er.out es.out).mono ?_; rintro e w5 ⟨rfl, rfl⟩; clear er es)
      | (go_at_call 15; refine hZ.out.count.mono ?_; rintro e w2 ⟨rfl, rfl⟩)
      | (go_at_call 18; refine (hZ.out.close hl1 _).mono ?_; rintro e w6 ⟨rfl, hU'⟩; have hU := hid hU'; obtain ⟨c, L3, ee, ef, eg⟩ := ed.out; have ee := hid ee; have eg := hid eg; have ef2 : ((c : Int) != (i : Int)) = true := (by simp; omega); have ec2 : decide ((1 : Int) ≤ (cnt L1 reg : Int)) = true := (by have := ec.out; simp; omega); clear hU' hZ ed ec ef)
      | (go_at_call 16; refine (hU.out.open (by rw [clo_len]; exact hl1) ee.out).mono ?_; rintro e w7 ⟨rfl, hT'⟩; have hT := hid hT'; clear hT' hU ee)
      | (go_at_call 17; refine (hT.out.register rfl eg.out).mono ?_; rintro e w8 ⟨rfl, rfl⟩)
      | (go_at_call 13; refine (lives_true _).mono ?_; rintro e w9 ⟨rfl, hc5⟩; have fin := hid (hT.out.below.trans (hc5.mono hT.out.hB))))
    go_ret
    exact ⟨rfl, fin.out⟩
end Go.Proofs.Ytjlefkohokcohaa
