/-
  The lists after the calls of a script, as the laws make them.
-/
import Derived.Test.YtpfopidmdnkkeaaDo
import Derived.Test.YtpfopidmdnkkeaaWrap
namespace Go.Proofs.Ytpfopidmdnkkeaa
open Go.RowKit Go.Maps

/-- The cells of call j of the script. -/
theorem op_at {w : World} {A : Option Addr} {l : List OpV} (h : Rd w 7 A l.length (l.flatMap OpV.cs)) {j : Nat} (hj : j < l.length) (d : OpV) :
    ∃ b o, A = some ⟨b, o, none⟩ ∧ b < w.heap.size ∧ w.cell? ⟨b, o + j * 7, none⟩ = some (.int .i64 (l.getD j d).kd) ∧ w.cell? ⟨b, o + j * 7 + 1, none⟩ = some (.int .i64 (l.getD j d).rg) ∧
      w.cell? ⟨b, o + j * 7 + 2, none⟩ = some (.int .i64 (l.getD j d).v.k) ∧ w.cell? ⟨b, o + j * 7 + 3, none⟩ = some (.int .i64 (l.getD j d).v.p) ∧ w.cell? ⟨b, o + j * 7 + 4, none⟩ = some (.int .i64 (l.getD j d).v.q) ∧
      w.cell? ⟨b, o + j * 7 + 5, none⟩ = some (.string (l.getD j d).v.s) ∧ w.cell? ⟨b, o + j * 7 + 6, none⟩ = some (.int .i64 (l.getD j d).v.r) := by
  obtain ⟨b, o, e, hb, hc⟩ := h.2 (by omega)
  have g : ∀ i, i < 7 → w.cell? ⟨b, o + (j * 7 + i), none⟩ = (l.getD j d).cs[i]? := fun i hi => by
    rw [hc _ (by omega), flat_at OpV.cs 7 (fun _ => rfl) _ _ _ hi, List.getD_eq_getElem?_getD, List.getElem?_eq_getElem hj]; rfl
  exact ⟨b, o, e, hb, g 0 (by omega), g 1 (by omega), g 2 (by omega), g 3 (by omega), g 4 (by omega), g 5 (by omega), g 6 (by omega)⟩
/-- What holds between two calls of a script. -/
def Live (w wr : World) (o r j : Nat) : Prop :=
  ∃ es fl, Two wr (fun _ => False) w.heap.size o r j es fl es fl ∧ es.length ≤ j ∧ small fl ∧ w.heap.size ≤ wr.heap.size ∧ Chg (fun _ => False) w wr
section
variable {w wr w' : World} {o r j : Nat}
theorem Live.start {w1 : World} (h : Two w1 (fun _ => False) w.heap.size o r 0 [] none [] none) (hc : Chg (fun _ => False) w w1) : Live w w1 o r 0 :=
  ⟨[], none, h, Nat.le_refl _, (by unfold small; simp [Fl.zero]), hc.size, hc⟩
theorem Live.more {es : List En} (hc : Chg (fun _ => False) w wr) (hm : es.length ≤ j) (h : DoPost wr w' (fun _ => False) w.heap.size o r j es.length) : Live w w' o r (j + 1) := by
  obtain ⟨es1, fl1, h1, h2, h3, h4⟩ := h
  refine ⟨es1, fl1, h1, by omega, h3, Nat.le_trans hc.size h4.size, hc.trans h4 fun k hk e => ?_⟩
  rcases e with e | e
  · exact e.elim
  · omega
end
theorem cells_op : Try.prog.cellsOf 51 = 7 := by kernel_rfl
instance : Inhabited OpV := ⟨⟨0, 0, V.zero⟩⟩
theorem trod_op {H : Type} {enc : TypeId × Value → H} {w : World} {base fuel : Nat} {spare : Nat → Bool} {held : Bool} {cs : List Value} {x : DataW H × List MemPlace} (h : DataW.trod enc Try.prog w base spare held fuel 51 cs = some x) :
    ∃ v : OpV, cs = v.cs := by
  obtain ⟨xs, n, _, rfl, hl, hlen, hf⟩ := DataW.trod_struct Try.underlying51 h
  rw [cells_op] at hl
  match cs, hl with
  | [a0, a1, a2, a3, a4, a5, a6], _ =>
    have get : ∀ i, i < 3 → ∃ y, xs[i]? = some y := fun i hi => ⟨_, List.getElem?_eq_getElem (by rw [hlen]; exact hi)⟩
    obtain ⟨y0, e0⟩ := get 0 (by omega)
    obtain ⟨y1, e1⟩ := get 1 (by omega)
    obtain ⟨y2, e2⟩ := get 2 (by omega)
    have f0 : DataW.trod enc Try.prog w base spare held n 3 [a0] = some y0 := by
      have : DataW.trod enc Try.prog w base spare held n 3 (([a0, a1, a2, a3, a4, a5, a6].drop 0).take (Try.prog.cellsOf 3)) = some y0 := (hf 0 _ rfl).trans e0
      rw [cells_int] at this
      exact this
    have f1 : DataW.trod enc Try.prog w base spare held n 3 [a1] = some y1 := by
      have : DataW.trod enc Try.prog w base spare held n 3 (([a0, a1, a2, a3, a4, a5, a6].drop 1).take (Try.prog.cellsOf 3)) = some y1 := (hf 1 _ rfl).trans e1
      rw [cells_int] at this
      exact this
    have f2 : DataW.trod enc Try.prog w base spare held n 25 [a2, a3, a4, a5, a6] = some y2 := by
      have : DataW.trod enc Try.prog w base spare held n 25 (([a0, a1, a2, a3, a4, a5, a6].drop 2).take (Try.prog.cellsOf 25)) = some y2 := (hf 2 _ rfl).trans e2
      rw [cells_val] at this
      exact this
    obtain ⟨k0, u0, _⟩ := DataW.trod_int Try.underlying3 f0
    obtain ⟨k1, u1, _⟩ := DataW.trod_int Try.underlying3 f1
    obtain ⟨v, u2⟩ := trod_val f2
    simp at u0 u1
    subst u0 u1
    exact ⟨⟨k0, k1, v⟩, by rw [u2]; rfl⟩
/-- A script that came in. -/
theorem open_ops {H : Type} {enc : TypeId × Value → H} {W : World} {base : Nat} {v : Value} {d : DataW H} {p : List MemPlace} (hval : Value.okWide Try.prog W .any base 45 v) (h : DataW.Trod enc Try.prog W 0 (fun _ => true) true 45 v d p) :
    ∃ (A : Option Addr) (l : List OpV) (k : Nat), v = .slice A l.length k ∧ Rd W 7 A l.length (l.flatMap OpV.cs) ∧ l.length ≤ k ∧ k ≤ maxLen :=
  open_rows 7 OpV.cs (fun _ => rfl) (by omega) Try.underlying45 cells_op (fun _ _ _ h => trod_op h) hval h
set_option maxRecDepth 100000 in
set_option maxHeartbeats 4000000 in
theorem made_true (w : World) (A : Option Addr) (l : List OpV) (k : Nat) (hl : Rd w 7 A l.length (l.flatMap OpV.cs)) (hs : l.length ≤ 300) :
    Calls Try.prog 25 #[.slice A l.length k] w fun e w' => ∃ o r, e = .returned (.tuple #[.pointer (some ⟨o, 0, none⟩), .pointer (some ⟨r, 0, none⟩)]) ∧ Live w w' o r l.length := by
  have hl := hid hl
  go_enter Try.func25, Try.ntmps25
  go_wp2_with fail
  refine (own_new_one w).mono ?_
  rintro e w1 ⟨o, rfl, hO', hc1⟩
  have hO := hid hO'
  have hC1 := hid hc1
  have hz1 := hid hc1.size
  clear hO' hc1
  go_wp2_with fail
  refine (docs_new hO.out hz1.out).mono ?_
  rintro e w2 ⟨r, rfl, hT', hc2⟩
  have hstart := hid (Live.start hT' (hC1.out.trans_same hc2))
  clear hT' hc2 hO hC1 hz1
  go_wp2_with fail
  go_loopw [6] (fun i wr => ∃ j : Nat, j ≤ l.length ∧ i = .int .i64 j ∧ Hid (Live w wr o r j)) (fun i _ => l.length - (intOf i).toNat)
  case atStart => exact ⟨0, Nat.zero_le _, rfl, hstart⟩
  case round =>
    obtain ⟨j, hj, rfl, hLive⟩ := hrel
    clear hstart
    by_cases hlt : j < l.length
    · obtain ⟨es, fl, hT', hm', hsm', hz, hC'⟩ := hLive.out
      have hT := hid hT'
      have hm := hid hm'
      have hsm := hid hsm'
      have hC := hid hC'
      clear hT' hm' hsm' hC' hLive
      obtain ⟨b, o', rfl, hb, c0, c1, c2, c3, c4, c5, c6⟩ := op_at (hl.out.none_ hC.out) hlt ⟨0, 0, V.zero⟩
      generalize l.getD j ⟨0, 0, V.zero⟩ = x at c0 c1 c2 c3 c4 c5 c6
      go_wp2_with fail
      refine (do_true hT.out hz (by have := hm.out; omega) (by omega) hsm.out x).mono ?_
      rintro e w3 ⟨rfl, hp⟩
      have fin := hid (Live.more hC.out hm.out hp)
      clear hp
      go_wp2_with fail
      go_roundw
      case rel => exact ⟨j + 1, by omega, by go_num, fin⟩
      case measure => simp [intOf]; omega
    · obtain rfl : j = l.length := by omega
      go_wp2
      go_ret2
      exact ⟨o, r, rfl, hLive.out⟩
end Go.Proofs.Ytpfopidmdnkkeaa
