/-
  UpvaluePlays: for every input the law returns true, and each argument reads afterwards as it read before.
-/
import Derived.Test.YtjlefkohokcohaaStep
import Derived.Test.YtjlefkohokcohaaWrap
namespace Go.Proofs.Ytjlefkohokcohaa
open Go.RowKit

theorem p_new {w : World} {B o : Nat} (h : Solo w B o []) (hB : B ≤ w.heap.size) :
    Calls Try.prog 10 #[] w fun e w' => e = .returned (.pointer (some ⟨w.heap.size, 0, none⟩)) ∧ Pair w' B o w.heap.size [] [] ∧ Chg (fun _ => False) w w' := by
  obtain ⟨va, vo, h, hlo⟩ := h
  refine (rf_new w).mono fun e w' ⟨h1, h2, h3⟩ => ⟨h1, ⟨va, vo, _, h.tc (TC.of_none (T := []) (B := 0) h3) (by simp) (by simp) (by simp), h2, fun k hk => ?_⟩, h3⟩
  rcases hk with hk | hk | hk
  · exact hlo k hk
  · omega
  · simp [Value.ownBlock] at hk
theorem zs_list (m : Nat) : (zs m).toList = (List.replicate m V.zero).flatMap V.cs := by
  have := made_list V.zero.cs m 5 rfl (by omega)
  rw [List.flatMap_def, List.map_replicate]
  exact this
theorem row_new (w : World) (B m : Nat) (hB : B ≤ w.heap.size) (hm : m ≤ 1000) : Row (w.alloc (.cells (zs m) 33)) B (.slice (some ⟨w.heap.size, 0, none⟩) m m) (List.replicate m V.zero) := by
  have hb : Bk (w.alloc (.cells (zs m) 33)) w.heap.size 33 (zs m).toList := by
    have := Bk.new w 33 (zs m).toList
    simpa using this
  refine ⟨?_, fun k hk => ?_⟩
  · have := Bk.own hb (Nat.le_refl _) (by unfold maxLen; omega) (zs_len m) (List.take_of_length_le (by rw [zs_len]; exact Nat.le_refl _))
    rw [zs_list m] at this
    simpa using this
  · simp [Value.ownBlock] at hk
    omega

/-- The cells of call j of the list. -/
theorem op_at {w : World} {A : Option Addr} {l : List OpV} (h : Rd w 8 A l.length (l.flatMap OpV.cs)) {j : Nat} (hj : j < l.length) (d : OpV) :
    ∃ b o, A = some ⟨b, o, none⟩ ∧ b < w.heap.size ∧ w.cell? ⟨b, o + j * 8, none⟩ = some (.int .i64 (l.getD j d).kd) ∧ w.cell? ⟨b, o + j * 8 + 1, none⟩ = some (.int .i64 (l.getD j d).n) ∧ w.cell? ⟨b, o + j * 8 + 2, none⟩ = some (.int .i64 (l.getD j d).rg) ∧
      w.cell? ⟨b, o + j * 8 + 3, none⟩ = some (.int .i64 (l.getD j d).v.k) ∧ w.cell? ⟨b, o + j * 8 + 4, none⟩ = some (.int .i64 (l.getD j d).v.p) ∧ w.cell? ⟨b, o + j * 8 + 5, none⟩ = some (.int .i64 (l.getD j d).v.q) ∧
      w.cell? ⟨b, o + j * 8 + 6, none⟩ = some (.string (l.getD j d).v.s) ∧ w.cell? ⟨b, o + j * 8 + 7, none⟩ = some (.int .i64 (l.getD j d).v.r) := by
  obtain ⟨b, o, e, hb, hc⟩ := h.2 (by omega)
  have g : ∀ i, i < 8 → w.cell? ⟨b, o + (j * 8 + i), none⟩ = (l.getD j d).cs[i]? := fun i hi => by
    rw [hc _ (by omega), flat_at OpV.cs 8 (fun _ => rfl) _ _ _ hi, List.getD_eq_getElem?_getD, List.getElem?_eq_getElem hj]; rfl
  exact ⟨b, o, e, hb, g 0 (by omega), g 1 (by omega), g 2 (by omega), g 3 (by omega), g 4 (by omega), g 5 (by omega), g 6 (by omega), g 7 (by omega)⟩

/-- What holds between two calls of the list. -/
def Live (w wr : World) (o r j m : Nat) (s : Value) : Prop :=
  ∃ L rs A k, s = .slice A m k ∧ rs.length = m ∧ L.length ≤ j ∧ Pair wr w.heap.size o r L L ∧ Row wr w.heap.size (.slice A m k) rs ∧ w.heap.size ≤ wr.heap.size ∧ Below w.heap.size w wr

theorem step_at {w : World} {B o r m : Nat} {L : List Cl} {A : Option Addr} {rs : List V} {k : Nat} (hB : B ≤ w.heap.size) (hP : Pair w B o r L L) (hA : Row w B (.slice A m k) rs) (hm : rs.length = m) (hl : L.length ≤ 1000) (hr : m ≤ 1000) (x : OpV) :
    Calls Try.prog 11 #[.pointer (some ⟨o, 0, none⟩), .pointer (some ⟨r, 0, none⟩), .agg #[.int .i64 x.kd, .int .i64 x.n, .int .i64 x.rg, .int .i64 x.v.k, .int .i64 x.v.p, .int .i64 x.v.q, .string x.v.s, .int .i64 x.v.r], .slice A m k] w fun e w' => StepPost w w' B o r L.length m e := by
  subst hm
  exact step_true w B o r L A rs k x hB hP hA hl hr
theorem shown_at {w : World} {B o r m : Nat} {L : List Cl} {A : Option Addr} {rs : List V} {k : Nat} (hP : Pair w B o r L L) (hA : Row w B (.slice A m k) rs) (hm : rs.length = m) (hl : L.length ≤ 1000) :
    Calls Try.prog 12 #[.pointer (some ⟨o, 0, none⟩), .pointer (some ⟨r, 0, none⟩), .slice A m k] w fun e w' => e = .returned (.bool true) ∧ Chg (fun _ => False) w w' := by
  subst hm
  exact shown_true w B o r L A rs k hP hA hl

set_option maxRecDepth 100000 in
set_option maxHeartbeats 4000000 in
theorem plays_true (w : World) (A : Option Addr) (l : List OpV) (k n : Nat) (hn : n ≤ 255) (hl : Rd w 8 A l.length (l.flatMap OpV.cs)):
    Calls Try.prog 3 #[.slice A l.length k, .int .u8 n] w fun e w' => e = .returned (.bool true) ∧ Below w.heap.size w w' := by
  obtain ⟨i33, hi33, hz33, hs33, hb33⟩ := info_parts Try.info33
  have hmk : ∀ W : World, (Instr.makeSlice 27 (.int .i64 ((n : Int) % 40)) (.int .i64 ((n : Int) % 40))).run Try.prog W = .ok (.slice (some ⟨W.heap.size, 0, none⟩) (n % 40) (n % 40)) (W.alloc (.cells (zs (n % 40)) 33)) := fun W => by
    have e : ((n : Int) % 40) = ((n % 40 : Nat) : Int) := by omega
    rw [e]
    exact run_make_n (P := Try.prog) 27 33 i33 _ 5 48 Try.underlying27 hi33 hz33 hs33 hb33 (n % 40) (by omega) (by omega) W
  have hl := hid hl
  go_enter Try.func3, Try.ntmps3
  go_wp2_with (first
    | (go_at_call 9; refine (solo0 _).mono ?_; rintro e w1 ⟨rfl, hs1', hb1', hz1⟩; have hs1 := hid hs1'; have hb1 := hid hb1'; clear hs1' hb1')
    | (go_at_call 10; refine (p_new hs1.out hz1).mono ?_; rintro e w2 ⟨rfl, hP2', hc2⟩; have hP2 := hid hP2'; have hb2 := hid (hb1.out.trans (hc2.below hz1 (fun _ _ h => h))); have hz2 : w.heap.size ≤ w2.heap.size := Nat.le_trans hz1 hc2.size; clear hP2' hc2 hs1 hb1))
  have hm40 : n % 40 ≤ 40 := by omega
  have hstart := hid (show Live w (w2.alloc (.cells (zs (n % 40)) 33)) w.heap.size w1.heap.size 0 (n % 40) (.slice (some ⟨w2.heap.size, 0, none⟩) (n % 40) (n % 40)) from
    ⟨[], _, _, _, rfl, List.length_replicate, Nat.le_refl _, hP2.out.alloc_ _, row_new w2 _ _ hz2 (by omega), Nat.le_trans hz2 (by simp), hb2.out.alloc hz2 _⟩)
  generalize n % 40 = m at hstart hm40
  clear hmk hi33 hz33 hs33 hb33 hP2 hb2
  go_loopw [7, 8] (fun s i wr => ∃ j : Nat, j ≤ l.length ∧ j ≤ 200 ∧ i = .int .i64 j ∧ Hid (Live w wr w.heap.size w1.heap.size j m s)) (fun _ i _ => 200 - (intOf i).toNat)
  case atStart => exact ⟨0, Nat.zero_le _, Nat.zero_le _, rfl, hstart⟩
  case round =>
    obtain ⟨j, hj, hj2, rfl, hLive⟩ := hrel
    obtain ⟨L, rs, A1, k1, rfl, hlen', hLl, hP', hR', hBj, hb'⟩ := hLive.out
    have hlen := hid hlen'
    have hPj := hid hP'
    have hRj := hid hR'
    have hbj := hid hb'
    clear hP' hR' hb' hlen' hLive hstart
    by_cases hlt : j < l.length
    · by_cases h200 : j < 200
      · obtain ⟨b, o', rfl, hb, c0, c1, c2, c3, c4, c5, c6, c7⟩ := op_at (Rd.below hl.out hbj.out (Nat.le_refl _)) hlt ⟨0, 0, 0, V.zero⟩
        generalize l.getD j ⟨0, 0, 0, V.zero⟩ = x at c0 c1 c2 c3 c4 c5 c6 c7
        go_wp2_with (first
          | (go_at_call 11; refine (step_at hBj hPj.out hRj.out hlen.out (by omega) (by omega) x).mono ?_; rintro e w3 ⟨L', rs', A', k', rfl, g1, g2, g3, g4, g5, g6⟩; have h1 := hid g1; have h2 := hid g2; have h3 := hid g3; have h4 := hid g4; have h6 := hid (hbj.out.trans g6); clear g1 g2 g3 g4 g6)
          | (go_at_call 12; refine (shown_at h3.out h4.out h1.out (by have := h2.out; omega)).mono ?_; rintro e w4 ⟨rfl, hc4⟩; have fin := hid (show Live w w4 w.heap.size w1.heap.size (j + 1) m (.slice A' m k') from ⟨L', rs', A', k', rfl, h1.out, by have := h2.out; omega, h3.out.none_ hc4, h4.out.tc (TC.of_none (T := []) (B := w.heap.size) hc4) (by simp), Nat.le_trans g5 hc4.size, h6.out.trans (hc4.below g5 (fun _ _ h => h))⟩); clear hc4))
        go_roundw
        case rel => exact ⟨j + 1, by omega, by omega, by go_num, fin⟩
        case measure => simp [intOf]; omega
      · go_wp2_with (go_at_call 13; refine (lives_true _).mono ?_; rintro e w5 ⟨rfl, hc5⟩; have fin := hid (hbj.out.trans (hc5.mono hBj)))
        go_ret
        exact ⟨rfl, fin.out⟩
    · go_wp2_with (go_at_call 13; refine (lives_true _).mono ?_; rintro e w5 ⟨rfl, hc5⟩; have fin := hid (hbj.out.trans (hc5.mono hBj)))
      go_ret
      exact ⟨rfl, fin.out⟩

theorem cells_op : Try.prog.cellsOf 35 = 8 := by kernel_rfl
instance : Inhabited OpV := ⟨⟨0, 0, 0, V.zero⟩⟩
theorem trod_op {H : Type} {enc : TypeId × Value → H} {w : World} {base fuel : Nat} {spare : Nat → Bool} {held : Bool} {cs : List Value} {x : DataW H × List MemPlace} (h : DataW.trod enc Try.prog w base spare held fuel 35 cs = some x) :
    ∃ v : OpV, cs = v.cs := by
  obtain ⟨xs, n, _, rfl, hl, hlen, hf⟩ := DataW.trod_struct Try.underlying35 h
  rw [cells_op] at hl
  match cs, hl with
  | [a0, a1, a2, a3, a4, a5, a6, a7], _ =>
    have get : ∀ i, i < 4 → ∃ y, xs[i]? = some y := fun i hi => ⟨_, List.getElem?_eq_getElem (by rw [hlen]; exact hi)⟩
    obtain ⟨y0, e0⟩ := get 0 (by omega)
    obtain ⟨y1, e1⟩ := get 1 (by omega)
    obtain ⟨y2, e2⟩ := get 2 (by omega)
    obtain ⟨y3, e3⟩ := get 3 (by omega)
    have f0 : DataW.trod enc Try.prog w base spare held n 3 [a0] = some y0 := by
      have : DataW.trod enc Try.prog w base spare held n 3 (([a0, a1, a2, a3, a4, a5, a6, a7].drop 0).take (Try.prog.cellsOf 3)) = some y0 := (hf 0 _ rfl).trans e0
      rw [cells_int] at this
      exact this
    have f1 : DataW.trod enc Try.prog w base spare held n 3 [a1] = some y1 := by
      have : DataW.trod enc Try.prog w base spare held n 3 (([a0, a1, a2, a3, a4, a5, a6, a7].drop 1).take (Try.prog.cellsOf 3)) = some y1 := (hf 1 _ rfl).trans e1
      rw [cells_int] at this
      exact this
    have f2 : DataW.trod enc Try.prog w base spare held n 3 [a2] = some y2 := by
      have : DataW.trod enc Try.prog w base spare held n 3 (([a0, a1, a2, a3, a4, a5, a6, a7].drop 2).take (Try.prog.cellsOf 3)) = some y2 := (hf 2 _ rfl).trans e2
      rw [cells_int] at this
      exact this
    have f3 : DataW.trod enc Try.prog w base spare held n 33 [a3, a4, a5, a6, a7] = some y3 := by
      have : DataW.trod enc Try.prog w base spare held n 33 (([a0, a1, a2, a3, a4, a5, a6, a7].drop 3).take (Try.prog.cellsOf 33)) = some y3 := (hf 3 _ rfl).trans e3
      rw [cells_val] at this
      exact this
    obtain ⟨k0, u0, _⟩ := DataW.trod_int Try.underlying3 f0
    obtain ⟨k1, u1, _⟩ := DataW.trod_int Try.underlying3 f1
    obtain ⟨k2, u2, _⟩ := DataW.trod_int Try.underlying3 f2
    obtain ⟨v, u3⟩ := trod_val f3
    simp at u0 u1 u2
    subst u0 u1 u2
    exact ⟨⟨k0, k1, k2, v⟩, by rw [u3]; rfl⟩
/-- A list of calls that came in. -/
theorem open_ops {H : Type} {enc : TypeId × Value → H} {W : World} {base : Nat} {v : Value} {d : DataW H} {p : List MemPlace} (hval : Value.okWide Try.prog W .any base 22 v) (h : DataW.Trod enc Try.prog W 0 (fun _ => true) true 22 v d p) :
    ∃ (A : Option Addr) (l : List OpV) (k : Nat), v = .slice A l.length k ∧ Rd W 8 A l.length (l.flatMap OpV.cs) ∧ l.length ≤ k ∧ k ≤ maxLen :=
  open_rows 8 OpV.cs (fun _ => rfl) (by omega) Try.underlying22 cells_op (fun _ _ _ h => trod_op h) hval h
end Go.Proofs.Ytjlefkohokcohaa
