/-
  The table after the calls of a script, as the laws make it.
-/
import Derived.Test.YtoelgnjnbelokaaRDo
namespace Go.Proofs.Ytoelgnjnbelokaa
open Go.RowKit Go.Maps

section
variable {w w' : World}
def MadeT (w w' : World) (o j : Nat) : Prop := ∃ a m, Tab w' (fun _ => False) w.heap.size o (j * 400000) a m ∧ TInv a m ∧ (a.length + nOf m ≤ j ∧ m.length ≤ j) ∧ Chg (fun _ => False) w w'
theorem DuoJ.table {o r j i : Nat} {E : Nat → Prop} (h : DuoJ w w' E o r j i) : MadeT w w' o j := by
  obtain ⟨M, a, m, a2, m2, S1, S2, h, h1, h2, h3⟩ := h
  exact ⟨a, m, (h.tab.weaken (fun k e => .inr (h.lo1 k e).1) h.chg.size).mono h1, h.i1, h2, h.chg⟩
set_option maxRecDepth 100000 in
set_option maxHeartbeats 8000000 in
theorem made_true (w : World) (A : Option Addr) (l : List OpV) (k : Nat) (hl : OpsRd w A l) (hs : l.length ≤ 200) :
    Calls Try.prog 20 #[.slice A l.length k] w fun e w' => ∃ o, e = .returned (.pointer (some ⟨o, 0, none⟩)) ∧ MadeT w w' o l.length := by
  have hl := hid hl
  obtain ⟨lim, hlim⟩ : ∃ lim, l.length = lim := ⟨_, rfl⟩
  have hlimh := hid hlim
  rw [hlim] at hs ⊢
  clear hlim
  go_enter Try.func20, Try.ntmps20
  go_wp2_with fail
  refine (t_new w).mono ?_
  rintro e w1 ⟨o, rfl, hT', hc1⟩
  have hT := hid hT'
  have hC1 := hid hc1
  clear hT' hc1
  go_wp2_with fail
  refine (r_new w1).mono ?_
  rintro e w2 ⟨r, rfl, hR', hc2⟩
  have hstart : Hid (DuoJ w w2 (fun _ => False) o r 0 0) := hid (DuoJ.start hT.out hC1.out hR' hc2)
  clear hR' hc2 hT hC1
  go_wp2_with fail
  go_loopw [5] (fun i wr => ∃ j : Nat, j ≤ lim ∧ i = .int .i64 j ∧ Hid (DuoJ w wr (fun _ => False) o r j j)) (fun i _ => lim - (intOf i).toNat)
  case atStart => exact ⟨0, Nat.zero_le _, rfl, hstart⟩
  case round =>
    obtain ⟨j, hj, rfl, hD⟩ := hrel
    clear hstart
    by_cases hlt : j < lim
    · obtain ⟨x, b, o', rfl, hb, hxm, -, hcell⟩ := op_at (hl.out.none_ hD.out.chg) (by rw [hlimh.out]; exact hlt)
      have hwf := hid (hl.out.2 x hxm)
      have c0 := hcell 0 (by omega)
      have c1 := hcell 1 (by omega)
      have c2 := hcell 2 (by omega)
      have c3 := hcell 3 (by omega)
      have c4 := hcell 4 (by omega)
      have c5 := hcell 5 (by omega)
      have c6 := hcell 6 (by omega)
      have c7 := hcell 7 (by omega)
      have c8 := hcell 8 (by omega)
      have c9 := hcell 9 (by omega)
      have c10 := hcell 10 (by omega)
      have c11 := hcell 11 (by omega)
      simp only [OpV.cs, List.getElem?_cons_succ, List.getElem?_cons_zero, Nat.add_zero] at c0 c1 c2 c3 c4 c5 c6 c7 c8 c9 c10 c11
      clear hcell hxm
      go_wp2_with fail
      refine (do_any hD.out (by omega) x hwf.out).mono ?_
      rintro e w3 ⟨bb, rfl, hp⟩
      have fin := hid hp
      clear hp hD
      go_wp2_with fail
      go_roundw
      case rel => exact ⟨j + 1, by omega, by go_num, fin⟩
      case measure => simp [intOf]; omega
    · obtain rfl : j = lim := by omega
      have fin := hid hD.out.table
      clear hD
      go_wp2_with fail
      go_ret
      exact ⟨o, rfl, fin.out⟩
end
end Go.Proofs.Ytoelgnjnbelokaa
