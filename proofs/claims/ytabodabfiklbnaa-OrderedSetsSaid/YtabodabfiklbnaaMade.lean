/-
  The maps after the calls of a script, as the laws make them.
-/
import Derived.Test.YtabodabfiklbnaaStep
namespace Go.Proofs.Ytabodabfiklbnaa
open Go.RowKit Go.Maps

/-- What holds between two calls of a script. -/
def Live (w wr : World) (o r j : Nat) : Prop := ∃ L, Two wr (fun _ => False) w.heap.size o r (j * 1000) L L ∧ L.length ≤ j ∧ Chg (fun _ => False) w wr
section
variable {w wr w' : World} {o r j : Nat}
theorem Live.none_ (h : Live w wr o r j) (hc : Chg (fun _ => False) wr w') : Live w w' o r j := by
  obtain ⟨L, h1, h2, h3⟩ := h
  exact ⟨L, h1.none_ hc, h2, h3.trans_same hc⟩
theorem Live.start {w1 : World} (h : Two w1 (fun _ => False) w.heap.size o r 0 [] []) (hc : Chg (fun _ => False) w w1) : Live w w1 o r 0 := ⟨[], h, Nat.le_refl _, hc⟩
theorem Live.more {L : List Sl} (hc : Chg (fun _ => False) w wr) (hm : L.length ≤ j) (h : StepPost wr w' (fun _ => False) w.heap.size o r (j * 1000) L.length) : Live w w' o r (j + 1) := by
  obtain ⟨L1, h1, h3, h4⟩ := h
  refine ⟨L1, h1.mono (by omega), by omega, hc.trans h4 fun k hk e => ?_⟩
  rcases e with e | e
  · exact e.elim
  · omega
set_option maxRecDepth 100000 in
set_option maxHeartbeats 4000000 in
theorem made_true (w : World) (A : Option Addr) (l : List OpV) (k : Nat) (hl : OpsRd w A l) (hs : l.length ≤ 400) :
    Calls Try.prog 16 #[.slice A l.length k] w fun e w' => ∃ o r, e = .returned (.tuple #[.pointer (some ⟨o, 0, none⟩), .pointer (some ⟨r, 0, none⟩), .bool true]) ∧ Live w w' o r l.length := by
  have hl := hid hl
  obtain ⟨lim, hlim⟩ : ∃ lim, l.length = lim := ⟨_, rfl⟩
  have hlimh := hid hlim
  rw [hlim] at hs ⊢
  clear hlim
  have ht : decide ((400 : Int) < (lim : Int)) = false := by simp; omega
  go_enter Try.func16, Try.ntmps16
  go_wp2_with fail
  refine (o_new w).mono ?_
  rintro e w1 ⟨o, rfl, hO', hc1⟩
  have hO := hid hO'
  have hC1 := hid hc1
  have hz1 := hid hc1.size
  clear hO' hc1
  go_wp2_with fail
  refine (docs_new hO.out hz1.out).mono ?_
  rintro e w2 ⟨r, rfl, hT', hc2⟩
  have hstart := hid (Live.start hT' (hC1.out.trans_same hc2))
  clear hT' hc2 hO hC1 hz1
  go_wp2_with fail
  clear ht
  go_loopw [7] (fun i wr => ∃ j : Nat, j ≤ lim ∧ i = .int .i64 j ∧ Hid (Live w wr o r j)) (fun i _ => lim - (intOf i).toNat)
  case atStart => exact ⟨0, Nat.zero_le _, rfl, hstart⟩
  case round =>
    obtain ⟨j, hj, rfl, hLive⟩ := hrel
    clear hstart
    by_cases hlt : j < lim
    · obtain ⟨L, hT', hm', hC'⟩ := hLive.out
      have hT := hid hT'
      have hm := hid hm'
      have hC := hid hC'
      have hzr := hid hC'.size
      obtain ⟨x, b, o', rfl, hb, hxm, -, hcell⟩ := op_at (hl.out.none_ hC') (by rw [hlimh.out]; exact hlt)
      have hwf := hid (hl.out.2 x hxm)
      have c0 := hcell 0 (by omega)
      have c1 := hcell 1 (by omega)
      have c2 := hcell 2 (by omega)
      have c3 := hcell 3 (by omega)
      have c4 := hcell 4 (by omega)
      have c5 := hcell 5 (by omega)
      have c6 := hcell 6 (by omega)
      have c7 := hcell 7 (by omega)
      have c8 := hcell 8 (by omega)
      have c9 := hcell 9 (by omega)
      have c10 := hcell 10 (by omega)
      simp only [OpV.cs, List.getElem?_cons_succ, List.getElem?_cons_zero, Nat.add_zero] at c0 c1 c2 c3 c4 c5 c6 c7 c8 c9 c10
      clear hT' hm' hC' hLive hcell hxm
      go_wp2_with fail
      refine (step_true hT.out hzr.out (by have := hm.out; omega) (by omega) x hwf.out).mono ?_
      rintro e w3 ⟨rfl, hp⟩
      have fin := hid (Live.more hC.out hm.out hp)
      clear hp
      go_wp2_with fail
      go_roundw
      case rel => exact ⟨j + 1, by omega, by go_num, fin⟩
      case measure => simp [intOf]; omega
    · obtain rfl : j = lim := by omega
      go_wp2_with fail
      go_ret3
      exact ⟨o, r, rfl, hLive.out⟩
theorem made_no (w : World) (A : Option Addr) (n k : Nat) (hs : 400 < n) :
    Calls Try.prog 16 #[.slice A n k] w fun e w' => e = .returned (.tuple #[.pointer none, .pointer none, .bool false]) ∧ Chg (fun _ => False) w w' := by
  have ht : decide ((400 : Int) < (n : Int)) = true := by simp; omega
  go_enter Try.func16, Try.ntmps16
  go_wp2_with fail
  refine (o_new w).mono ?_
  rintro e w1 ⟨o, rfl, -, hc1⟩
  have hC1 := hid hc1
  clear hc1
  go_wp2_with fail
  refine (doc_new w1).mono ?_
  rintro e w2 ⟨rfl, -, hc2⟩
  have hC2 := hid (hC1.out.trans_same hc2)
  clear hc2 hC1
  go_wp2_with fail
  go_ret3
  exact ⟨rfl, hC2.out⟩
end
end Go.Proofs.Ytabodabfiklbnaa
