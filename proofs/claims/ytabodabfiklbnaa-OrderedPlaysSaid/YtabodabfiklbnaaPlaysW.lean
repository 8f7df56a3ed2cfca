/-
  OrderedPlays: the walk.
-/
import Derived.Test.YtabodabfiklbnaaMade
namespace Go.Proofs.Ytabodabfiklbnaa
open Go.RowKit Go.Maps

set_option maxRecDepth 100000 in
set_option maxHeartbeats 4000000 in
theorem plays_true (w : World) (A : Option Addr) (l : List OpV) (k : Nat) (hl : OpsRd w A l) :
    Calls Try.prog 6 #[.slice A l.length k] w fun e w' => e = .returned (.bool true) ∧ Below w.heap.size w w' := by
  have hl := hid hl
  obtain ⟨lim, hlim⟩ : ∃ lim, l.length = lim := ⟨_, rfl⟩
  have hlimh := hid hlim
  rw [hlim]
  clear hlim
  go_enter Try.func6, Try.ntmps6
  go_wp2_with fail
  refine (o_new w).mono ?_
  rintro e w1 ⟨o, rfl, hO', hc1⟩
  have hO := hid hO'
  have hC1 := hid hc1
  have hz1 := hid hc1.size
  clear hO' hc1
  go_wp2_with fail
  refine (docs_new hO.out hz1.out).mono ?_
  rintro e w2 ⟨r, rfl, hT', hc2⟩
  have hstart := hid (Live.start hT' (hC1.out.trans_same hc2))
  clear hT' hc2 hO hC1 hz1
  go_wp2_with fail
  go_loopw [5] (fun i wr => ∃ j : Nat, j ≤ lim ∧ j ≤ 400 ∧ i = .int .i64 j ∧ Hid (Live w wr o r j)) (fun i _ => lim - (intOf i).toNat)
  case atStart => exact ⟨0, Nat.zero_le _, by omega, rfl, hstart⟩
  case round =>
    obtain ⟨j, hj, hj4, rfl, hLive⟩ := hrel
    clear hstart
    by_cases hlt : j < lim ∧ j < 400
    · obtain ⟨hlt1, hlt2⟩ := hlt
      have hlt3 : (j : Int) < 400 := by omega
      obtain ⟨L, hT', hm', hC'⟩ := hLive.out
      have hT := hid hT'
      have hm := hid hm'
      have hC := hid hC'
      have hzr := hid hC'.size
      obtain ⟨x, b, o', rfl, hb, hxm, -, hcell⟩ := op_at (hl.out.none_ hC') (by rw [hlimh.out]; exact hlt1)
      have hwf := hid (hl.out.2 x hxm)
      have c0 := hcell 0 (by omega)
      have c1 := hcell 1 (by omega)
      have c2 := hcell 2 (by omega)
      have c3 := hcell 3 (by omega)
      have c4 := hcell 4 (by omega)
      have c5 := hcell 5 (by omega)
      have c6 := hcell 6 (by omega)
      have c7 := hcell 7 (by omega)
      have c8 := hcell 8 (by omega)
      have c9 := hcell 9 (by omega)
      have c10 := hcell 10 (by omega)
      simp only [OpV.cs, List.getElem?_cons_succ, List.getElem?_cons_zero, Nat.add_zero] at c0 c1 c2 c3 c4 c5 c6 c7 c8 c9 c10
      clear hT' hm' hC' hLive hcell hxm
      go_wp2_with fail
      refine (step_true hT.out hzr.out (by have := hm.out; omega) (by omega) x hwf.out).mono ?_
      rintro e w3 ⟨rfl, hp⟩
      have hL3 := hid (Live.more hC.out hm.out hp)
      obtain ⟨L3, hT3', hm3', -⟩ := hL3.out
      have hT3 := hid hT3'
      have hm3 : Hid (L3.length ≤ 1000) := hid (by omega)
      clear hp hT3' hm3' c0 c1 c2 c3 c4 c5 c6 c7 c8 c9 c10
      go_wp2_with fail
      refine (shown_true hT3.out hm3.out).mono ?_
      rintro e w4 ⟨rfl, hc4⟩
      have fin := hid (hL3.out.none_ hc4)
      clear hc4 hT3 hL3
      go_wp2_with fail
      go_roundw
      case rel => exact ⟨j + 1, by omega, by omega, by go_num, fin⟩
      case measure => simp [intOf]; omega
    · have hA2 : Hid (∀ w', Chg (fun _ => False) wr w' → Below w.heap.size w w') := hid (by
        obtain ⟨L, -, -, hC'⟩ := hLive.out
        exact fun w' hc => none_below (hC'.trans_same hc))
      clear hLive
      refine (Classical.em (j < lim)).elim ?ya ?yb
      case' ya =>
        intro h1
        have h2 : ¬ ((j : Int) < 400) := by omega
      case' yb =>
        intro h1
      all_goals
        go_wp2_with fail
        refine (lives_true _).mono ?_
        rintro e w5 ⟨rfl, hc5⟩
        have fin := hid (hA2.out _ hc5)
        clear hc5 hA2
        go_wp2_with fail
        go_ret
        exact ⟨rfl, fin.out⟩
end Go.Proofs.Ytabodabfiklbnaa
