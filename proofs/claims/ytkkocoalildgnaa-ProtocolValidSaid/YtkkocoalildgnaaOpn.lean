/-
  An action and a need that come in by value: what their cells hold and what their lists read as.
-/
import Derived.Test.YtkkocoalildgnaaWrap
import Derived.Test.YtkkocoalildgnaaSame
namespace Go.Proofs.Ytkkocoalildgnaa
open Go.ChangeShapes Go.WideShapes Go.ChangeAt Go.RowKit Go.Deep

theorem cells_act : Try.prog.cellsOf 28 = 12 := by kernel_rfl
theorem cells_need : Try.prog.cellsOf 47 = 14 := by kernel_rfl
theorem cells_sl : Try.prog.cellsOf 26 = 1 := by kernel_rfl
section
variable {H : Type} {enc : TypeId × Value → H} {w W : World} {base fuel : Nat} {spare : Nat → Bool} {held : Bool}
theorem rows_trod {c : Value} {x : DataW H × List MemPlace} (h : DataW.trod enc Try.prog W 0 (fun _ => true) true fuel 26 [c] = some x) :
    ∃ (A : Option Addr) (l : List V) (k : Nat), c = .slice A l.length k ∧ Vs W A l ∧ l.length ≤ k ∧ k ≤ maxLen := by
  rcases open_slice Try.underlying26 h with ⟨hcs, _⟩ | ⟨a, len, cap, m, n, D, Pl, hcs, _, hl, hm, hmm, _, hx⟩
  · simp at hcs
    subst hcs
    exact ⟨none, [], 0, rfl, ⟨by simp, fun h => absurd h (by simp)⟩, Nat.le_refl _, Nat.zero_le _⟩
  · simp at hcs
    subst hcs
    rw [cells_val] at hx
    simp at hmm
    subst hmm
    obtain ⟨f, hf'⟩ := choose_lt (α := V) (p := fun i v => W.cells? 0 (a.add (i * 5)) 5 = some (V.cs v)) (n := len) (fun i hi => by
      obtain ⟨cs', h1, h2⟩ := hx i (by omega)
      obtain ⟨v, rfl⟩ := trod_val h2
      exact ⟨v, h1⟩)
    refine ⟨some a, (List.range len).map f, m, by simp, ⟨?_, fun h0' => ?_⟩, by simpa using hl, hm⟩
    · rw [flat_len V.cs 5 V.cs_len]
    · simp only [List.length_map, List.length_range] at h0' ⊢
      obtain ⟨b, off, spot⟩ := a
      have c0 := (World.cells?_some (hf' 0 h0')).2.2 0 (by omega)
      have c1 : W.cell? (Addr.add (Addr.add ⟨b, off, spot⟩ (0 * 5)) 0) = some (.int .i64 (f 0).k) := c0.trans rfl
      have hspot : spot = none := by simpa [Addr.add] using World.cell?_spot c1
      subst hspot
      refine ⟨b, off, rfl, by simpa [Addr.add] using cell_lt c1, fun j hj => ?_⟩
      have hi : j / 5 < len := Nat.div_lt_of_lt_mul (by rw [Nat.mul_comm]; exact hj)
      have hjm : j % 5 < 5 := Nat.mod_lt _ (by omega)
      have hjd : j / 5 * 5 + j % 5 = j := by rw [Nat.mul_comm]; exact Nat.div_add_mod j 5
      have cj := (World.cells?_some (hf' (j / 5) hi)).2.2 (j % 5) hjm
      have e : (Addr.add (Addr.add ⟨b, off, none⟩ (j / 5 * 5)) (j % 5)) = ⟨b, off + j, none⟩ := by
        rw [add_plain, add_plain, Nat.add_assoc, hjd]
      rw [e] at cj
      have := flat_at V.cs 5 V.cs_len ((List.range len).map f) (j / 5) (j % 5) hjm
      rw [hjd] at this
      rw [cj, this]
      simp [hi]
theorem open_act {v : Value} {d : DataW H} {p : List MemPlace} (hval : Value.okWide Try.prog W .any base 28 v) (h : DataW.Trod enc Try.prog W 0 (fun _ => true) true 28 v d p) :
    ∃ (a : Ac) (A A2 : Option Addr) (c c2 : Nat), v = (.agg #[.int .i64 a.k, .int .i64 a.o, .int .i64 a.f.k, .int .i64 a.f.p, .int .i64 a.f.q, .string a.f.s, .int .i64 a.f.r, .slice A a.vs.length c, .string a.s, .int .i64 a.l, .int .i64 a.n, .slice A2 a.ks.length c2]) ∧ Vs W A a.vs ∧ Vs W A2 a.ks ∧ a.vs.length ≤ maxLen ∧ a.ks.length ≤ maxLen := by
  obtain ⟨cs, rfl, _⟩ := okWide_struct Try.underlying28 hval
  obtain ⟨fuel, hf0⟩ := h
  obtain ⟨xs, n, _, _, hl, hlen, hf⟩ := DataW.trod_struct Try.underlying28 hf0
  obtain ⟨cs⟩ := cs
  simp only [Value.cells] at hl hf
  rw [cells_act] at hl
  match cs, hl with
  | [a0, a1, a2, a3, a4, a5, a6, a7, a8, a9, a10, a11], _ =>
    have get : ∀ i, i < 8 → ∃ y, xs[i]? = some y := fun i hi => ⟨_, List.getElem?_eq_getElem (by rw [hlen]; exact hi)⟩
    obtain ⟨y0, e0⟩ := get 0 (by omega)
    have f0 : DataW.trod enc Try.prog W 0 (fun _ => true) true n 3 [a0] = some y0 := by
      have : DataW.trod enc Try.prog W 0 (fun _ => true) true n 3 (([a0, a1, a2, a3, a4, a5, a6, a7, a8, a9, a10, a11].drop 0).take (Try.prog.cellsOf 3)) = some y0 := (hf 0 _ rfl).trans e0
      rw [cells_int] at this
      exact this
    obtain ⟨y1, e1⟩ := get 1 (by omega)
    have f1 : DataW.trod enc Try.prog W 0 (fun _ => true) true n 3 [a1] = some y1 := by
      have : DataW.trod enc Try.prog W 0 (fun _ => true) true n 3 (([a0, a1, a2, a3, a4, a5, a6, a7, a8, a9, a10, a11].drop 1).take (Try.prog.cellsOf 3)) = some y1 := (hf 1 _ rfl).trans e1
      rw [cells_int] at this
      exact this
    obtain ⟨y2, e2⟩ := get 2 (by omega)
    have f2 : DataW.trod enc Try.prog W 0 (fun _ => true) true n 25 [a2, a3, a4, a5, a6] = some y2 := by
      have : DataW.trod enc Try.prog W 0 (fun _ => true) true n 25 (([a0, a1, a2, a3, a4, a5, a6, a7, a8, a9, a10, a11].drop 2).take (Try.prog.cellsOf 25)) = some y2 := (hf 2 _ rfl).trans e2
      rw [cells_val] at this
      exact this
    obtain ⟨y3, e3⟩ := get 3 (by omega)
    have f3 : DataW.trod enc Try.prog W 0 (fun _ => true) true n 26 [a7] = some y3 := by
      have : DataW.trod enc Try.prog W 0 (fun _ => true) true n 26 (([a0, a1, a2, a3, a4, a5, a6, a7, a8, a9, a10, a11].drop 7).take (Try.prog.cellsOf 26)) = some y3 := (hf 3 _ rfl).trans e3
      rw [cells_sl] at this
      exact this
    obtain ⟨y4, e4⟩ := get 4 (by omega)
    have f4 : DataW.trod enc Try.prog W 0 (fun _ => true) true n 9 [a8] = some y4 := by
      have : DataW.trod enc Try.prog W 0 (fun _ => true) true n 9 (([a0, a1, a2, a3, a4, a5, a6, a7, a8, a9, a10, a11].drop 8).take (Try.prog.cellsOf 9)) = some y4 := (hf 4 _ rfl).trans e4
      rw [cells_str] at this
      exact this
    obtain ⟨y5, e5⟩ := get 5 (by omega)
    have f5 : DataW.trod enc Try.prog W 0 (fun _ => true) true n 3 [a9] = some y5 := by
      have : DataW.trod enc Try.prog W 0 (fun _ => true) true n 3 (([a0, a1, a2, a3, a4, a5, a6, a7, a8, a9, a10, a11].drop 9).take (Try.prog.cellsOf 3)) = some y5 := (hf 5 _ rfl).trans e5
      rw [cells_int] at this
      exact this
    obtain ⟨y6, e6⟩ := get 6 (by omega)
    have f6 : DataW.trod enc Try.prog W 0 (fun _ => true) true n 3 [a10] = some y6 := by
      have : DataW.trod enc Try.prog W 0 (fun _ => true) true n 3 (([a0, a1, a2, a3, a4, a5, a6, a7, a8, a9, a10, a11].drop 10).take (Try.prog.cellsOf 3)) = some y6 := (hf 6 _ rfl).trans e6
      rw [cells_int] at this
      exact this
    obtain ⟨y7, e7⟩ := get 7 (by omega)
    have f7 : DataW.trod enc Try.prog W 0 (fun _ => true) true n 26 [a11] = some y7 := by
      have : DataW.trod enc Try.prog W 0 (fun _ => true) true n 26 (([a0, a1, a2, a3, a4, a5, a6, a7, a8, a9, a10, a11].drop 11).take (Try.prog.cellsOf 26)) = some y7 := (hf 7 _ rfl).trans e7
      rw [cells_sl] at this
      exact this
    obtain ⟨k, k0, _⟩ := DataW.trod_int Try.underlying3 f0
    obtain ⟨o, k1, _⟩ := DataW.trod_int Try.underlying3 f1
    obtain ⟨f, k2⟩ := trod_val f2
    obtain ⟨A, vs, c, k3, hv, hc1, hc2⟩ := rows_trod f3
    obtain ⟨s, k4, _⟩ := DataW.trod_string Try.underlying9 f4
    obtain ⟨l, k5, _⟩ := DataW.trod_int Try.underlying3 f5
    obtain ⟨nn, k6, _⟩ := DataW.trod_int Try.underlying3 f6
    obtain ⟨A2, ks, c2, k7, hv2, hc3, hc4⟩ := rows_trod f7
    simp [V.cs] at k0 k1 k2 k4 k5 k6
    obtain ⟨k21, k22, k23, k24, k25⟩ := k2
    subst k0 k1 k21 k22 k23 k24 k25 k3 k4 k5 k6 k7
    exact ⟨⟨k, o, f, vs, s, l, nn, ks⟩, A, A2, c, c2, rfl, hv, hv2, Nat.le_trans hc1 hc2, Nat.le_trans hc3 hc4⟩
theorem open_need {v : Value} {d : DataW H} {p : List MemPlace} (hval : Value.okWide Try.prog W .any base 47 v) (h : DataW.Trod enc Try.prog W 0 (fun _ => true) true 47 v d p) :
    ∃ (kd : Int) (x f : V) (A : Option Addr) (vs : List V) (c : Nat) (af : Int) (s : ByteArray), v = .agg #[.int .i64 kd, .int .i64 x.k, .int .i64 x.p, .int .i64 x.q, .string x.s, .int .i64 x.r, .int .i64 f.k, .int .i64 f.p, .int .i64 f.q, .string f.s, .int .i64 f.r, .slice A vs.length c, .int .i64 af, .string s] ∧ Vs W A vs ∧ vs.length ≤ maxLen ∧ s.size ≤ maxLen := by
  obtain ⟨cs, rfl, _⟩ := okWide_struct Try.underlying47 hval
  obtain ⟨fuel, hf0⟩ := h
  obtain ⟨xs, n, _, _, hl, hlen, hf⟩ := DataW.trod_struct Try.underlying47 hf0
  obtain ⟨cs⟩ := cs
  simp only [Value.cells] at hl hf
  rw [cells_need] at hl
  match cs, hl with
  | [a0, a1, a2, a3, a4, a5, a6, a7, a8, a9, a10, a11, a12, a13], _ =>
    have get : ∀ i, i < 6 → ∃ y, xs[i]? = some y := fun i hi => ⟨_, List.getElem?_eq_getElem (by rw [hlen]; exact hi)⟩
    obtain ⟨y0, e0⟩ := get 0 (by omega)
    have f0 : DataW.trod enc Try.prog W 0 (fun _ => true) true n 3 [a0] = some y0 := by
      have : DataW.trod enc Try.prog W 0 (fun _ => true) true n 3 (([a0, a1, a2, a3, a4, a5, a6, a7, a8, a9, a10, a11, a12, a13].drop 0).take (Try.prog.cellsOf 3)) = some y0 := (hf 0 _ rfl).trans e0
      rw [cells_int] at this
      exact this
    obtain ⟨y1, e1⟩ := get 1 (by omega)
    have f1 : DataW.trod enc Try.prog W 0 (fun _ => true) true n 25 [a1, a2, a3, a4, a5] = some y1 := by
      have : DataW.trod enc Try.prog W 0 (fun _ => true) true n 25 (([a0, a1, a2, a3, a4, a5, a6, a7, a8, a9, a10, a11, a12, a13].drop 1).take (Try.prog.cellsOf 25)) = some y1 := (hf 1 _ rfl).trans e1
      rw [cells_val] at this
      exact this
    obtain ⟨y2, e2⟩ := get 2 (by omega)
    have f2 : DataW.trod enc Try.prog W 0 (fun _ => true) true n 25 [a6, a7, a8, a9, a10] = some y2 := by
      have : DataW.trod enc Try.prog W 0 (fun _ => true) true n 25 (([a0, a1, a2, a3, a4, a5, a6, a7, a8, a9, a10, a11, a12, a13].drop 6).take (Try.prog.cellsOf 25)) = some y2 := (hf 2 _ rfl).trans e2
      rw [cells_val] at this
      exact this
    obtain ⟨y3, e3⟩ := get 3 (by omega)
    have f3 : DataW.trod enc Try.prog W 0 (fun _ => true) true n 26 [a11] = some y3 := by
      have : DataW.trod enc Try.prog W 0 (fun _ => true) true n 26 (([a0, a1, a2, a3, a4, a5, a6, a7, a8, a9, a10, a11, a12, a13].drop 11).take (Try.prog.cellsOf 26)) = some y3 := (hf 3 _ rfl).trans e3
      rw [cells_sl] at this
      exact this
    obtain ⟨y4, e4⟩ := get 4 (by omega)
    have f4 : DataW.trod enc Try.prog W 0 (fun _ => true) true n 3 [a12] = some y4 := by
      have : DataW.trod enc Try.prog W 0 (fun _ => true) true n 3 (([a0, a1, a2, a3, a4, a5, a6, a7, a8, a9, a10, a11, a12, a13].drop 12).take (Try.prog.cellsOf 3)) = some y4 := (hf 4 _ rfl).trans e4
      rw [cells_int] at this
      exact this
    obtain ⟨y5, e5⟩ := get 5 (by omega)
    have f5 : DataW.trod enc Try.prog W 0 (fun _ => true) true n 9 [a13] = some y5 := by
      have : DataW.trod enc Try.prog W 0 (fun _ => true) true n 9 (([a0, a1, a2, a3, a4, a5, a6, a7, a8, a9, a10, a11, a12, a13].drop 13).take (Try.prog.cellsOf 9)) = some y5 := (hf 5 _ rfl).trans e5
      rw [cells_str] at this
      exact this
    obtain ⟨k, k0, _⟩ := DataW.trod_int Try.underlying3 f0
    obtain ⟨x, k1⟩ := trod_val f1
    obtain ⟨f, k2⟩ := trod_val f2
    obtain ⟨A, vs, c, k3, hv, hc1, hc2⟩ := rows_trod f3
    obtain ⟨af, k4, _⟩ := DataW.trod_int Try.underlying3 f4
    obtain ⟨s, k5, hs⟩ := DataW.trod_string Try.underlying9 f5
    simp [V.cs] at k0 k1 k2 k4 k5
    obtain ⟨k11, k12, k13, k14, k15⟩ := k1
    obtain ⟨k21, k22, k23, k24, k25⟩ := k2
    subst k0 k11 k12 k13 k14 k15 k21 k22 k23 k24 k25 k3 k4 k5
    exact ⟨k, x, f, A, vs, c, af, s, rfl, hv, Nat.le_trans hc1 hc2, by first | exact hs | exact hs.1 | exact hs.2⟩
end
end Go.Proofs.Ytkkocoalildgnaa
