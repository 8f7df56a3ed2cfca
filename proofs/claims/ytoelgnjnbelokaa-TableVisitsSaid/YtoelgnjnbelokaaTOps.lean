/-
  The laws' scripts as they come in.
-/
import Derived.Test.YtoelgnjnbelokaaWAwake
namespace Go.Proofs.Ytoelgnjnbelokaa
open Go.RowKit Go.Maps Go.ChangeShapes Go.WideShapes Go.ChangeAt

theorem trod_wf {H : Type} {enc : TypeId × Value → H} {w : World} {base fuel : Nat} {spare : Nat → Bool} {held : Bool} {cs : List Value} {x : DataW H × List MemPlace} (h : DataW.trod enc Try.prog w base spare held fuel 26 cs = some x) : ∃ v : V, cs = v.cs ∧ v.wf := by
  obtain ⟨xs, n, _, rfl, hl, hlen, hf⟩ := DataW.trod_struct Try.underlying26 h
  rw [cells_val] at hl
  match cs, hl with
  | [a0, a1, a2, a3, a4], _ =>
    have get : ∀ i, i < 4 → ∃ y, xs[i]? = some y := fun i hi => ⟨_, List.getElem?_eq_getElem (by rw [hlen]; exact hi)⟩
    obtain ⟨y0, e0⟩ := get 0 (by omega)
    obtain ⟨y1, e1⟩ := get 1 (by omega)
    obtain ⟨y2, e2⟩ := get 2 (by omega)
    obtain ⟨y3, e3⟩ := get 3 (by omega)
    have f0 : DataW.trod enc Try.prog w base spare held n 3 [a0] = some y0 := by
      have : DataW.trod enc Try.prog w base spare held n 3 (([a0, a1, a2, a3, a4].drop 0).take (Try.prog.cellsOf 3)) = some y0 := (hf 0 _ rfl).trans e0
      rw [cells_int] at this
      exact this
    have f1 : DataW.trod enc Try.prog w base spare held n 24 [a1, a2] = some y1 := by
      have : DataW.trod enc Try.prog w base spare held n 24 (([a0, a1, a2, a3, a4].drop 1).take (Try.prog.cellsOf 24)) = some y1 := (hf 1 _ rfl).trans e1
      rw [cells_num] at this
      exact this
    have f2 : DataW.trod enc Try.prog w base spare held n 9 [a3] = some y2 := by
      have : DataW.trod enc Try.prog w base spare held n 9 (([a0, a1, a2, a3, a4].drop 3).take (Try.prog.cellsOf 9)) = some y2 := (hf 2 _ rfl).trans e2
      rw [cells_str] at this
      exact this
    have f3 : DataW.trod enc Try.prog w base spare held n 3 [a4] = some y3 := by
      have : DataW.trod enc Try.prog w base spare held n 3 (([a0, a1, a2, a3, a4].drop 4).take (Try.prog.cellsOf 3)) = some y3 := (hf 3 _ rfl).trans e3
      rw [cells_int] at this
      exact this
    obtain ⟨k, k0, _, q0⟩ := DataW.trod_int Try.underlying3 f0
    obtain ⟨s, k2, _, q2⟩ := DataW.trod_string Try.underlying9 f2
    obtain ⟨r, k3, _, q3⟩ := DataW.trod_int Try.underlying3 f3
    obtain ⟨zs, n', _, _, _, hlen', hg⟩ := DataW.trod_struct Try.underlying24 f1
    have get' : ∀ i, i < 2 → ∃ y, zs[i]? = some y := fun i hi => ⟨_, List.getElem?_eq_getElem (by rw [hlen']; exact hi)⟩
    obtain ⟨z0, u0⟩ := get' 0 (by omega)
    obtain ⟨z1, u1⟩ := get' 1 (by omega)
    have g0 : DataW.trod enc Try.prog w base spare held n' 3 [a1] = some z0 := by
      have : DataW.trod enc Try.prog w base spare held n' 3 (([a1, a2].drop 0).take (Try.prog.cellsOf 3)) = some z0 := (hg 0 _ rfl).trans u0
      rw [cells_int] at this
      exact this
    have g1 : DataW.trod enc Try.prog w base spare held n' 3 [a2] = some z1 := by
      have : DataW.trod enc Try.prog w base spare held n' 3 (([a1, a2].drop 1).take (Try.prog.cellsOf 3)) = some z1 := (hg 1 _ rfl).trans u1
      rw [cells_int] at this
      exact this
    obtain ⟨p, k4, _, q4⟩ := DataW.trod_int Try.underlying3 g0
    obtain ⟨q, k5, _, q5⟩ := DataW.trod_int Try.underlying3 g1
    simp at k0 k2 k3 k4 k5
    subst k0 k2 k3 k4 k5
    exact ⟨⟨k, p, q, s, r⟩, rfl, ⟨q0, q4, q5, q2, q3⟩⟩
theorem open_val_wf {H : Type} {enc : TypeId × Value → H} {W : World} {base : Nat} {v : Value} {d : DataW H} {p : List MemPlace} (hval : Value.okWide Try.prog W .any base 26 v) (h : DataW.Trod enc Try.prog W 0 (fun _ => true) true 26 v d p) : ∃ x : V, v = (.agg #[.int .i64 x.k, .int .i64 x.p, .int .i64 x.q, .string x.s, .int .i64 x.r]) ∧ x.wf := by
  obtain ⟨cs, rfl, _⟩ := okWide_struct Try.underlying26 hval
  obtain ⟨fuel, hf⟩ := h
  obtain ⟨x, hx, hw⟩ := trod_wf hf
  refine ⟨x, ?_, hw⟩
  simp only [Value.cells] at hx
  cases cs
  simp only at hx
  rw [hx]; rfl
structure OpV where
  kd : Int
  at_ : Int
  k : V
  v : V
def OpV.cs (x : OpV) : List Value := [.int .i64 x.kd, .int .i64 x.at_, .int .i64 x.k.k, .int .i64 x.k.p, .int .i64 x.k.q, .string x.k.s, .int .i64 x.k.r, .int .i64 x.v.k, .int .i64 x.v.p, .int .i64 x.v.q, .string x.v.s, .int .i64 x.v.r]
def OpV.zero : OpV := ⟨0, 0, V.zero, V.zero⟩
def WOp : Type := { x : OpV // x.k.wf ∧ x.v.wf }
instance : Inhabited WOp := ⟨⟨OpV.zero, zero_wf, zero_wf⟩⟩
theorem cells_op : Try.prog.cellsOf 28 = 12 := by kernel_rfl
theorem trod_op {H : Type} {enc : TypeId × Value → H} {w : World} {base fuel : Nat} {spare : Nat → Bool} {held : Bool} {cs : List Value} {x : DataW H × List MemPlace} (h : DataW.trod enc Try.prog w base spare held fuel 28 cs = some x) :
    ∃ v : WOp, cs = v.1.cs := by
  obtain ⟨xs, n, _, rfl, hl, hlen, hf⟩ := DataW.trod_struct Try.underlying28 h
  rw [cells_op] at hl
  match cs, hl with
  | [a0, b0, a1, a2, a3, a4, a5, a6, a7, a8, a9, a10], _ =>
    have get : ∀ i, i < 4 → ∃ y, xs[i]? = some y := fun i hi => ⟨_, List.getElem?_eq_getElem (by rw [hlen]; exact hi)⟩
    obtain ⟨y0, e0⟩ := get 0 (by omega)
    obtain ⟨y1, e1⟩ := get 1 (by omega)
    obtain ⟨y2, e2⟩ := get 2 (by omega)
    obtain ⟨y3, e3⟩ := get 3 (by omega)
    have f0 : DataW.trod enc Try.prog w base spare held n 3 [a0] = some y0 := by
      have : DataW.trod enc Try.prog w base spare held n 3 (([a0, b0, a1, a2, a3, a4, a5, a6, a7, a8, a9, a10].drop 0).take (Try.prog.cellsOf 3)) = some y0 := (hf 0 _ rfl).trans e0
      rw [cells_int] at this
      exact this
    have f1 : DataW.trod enc Try.prog w base spare held n 3 [b0] = some y1 := by
      have : DataW.trod enc Try.prog w base spare held n 3 (([a0, b0, a1, a2, a3, a4, a5, a6, a7, a8, a9, a10].drop 1).take (Try.prog.cellsOf 3)) = some y1 := (hf 1 _ rfl).trans e1
      rw [cells_int] at this
      exact this
    have f2 : DataW.trod enc Try.prog w base spare held n 26 [a1, a2, a3, a4, a5] = some y2 := by
      have : DataW.trod enc Try.prog w base spare held n 26 (([a0, b0, a1, a2, a3, a4, a5, a6, a7, a8, a9, a10].drop 2).take (Try.prog.cellsOf 26)) = some y2 := (hf 2 _ rfl).trans e2
      rw [cells_val] at this
      exact this
    have f3 : DataW.trod enc Try.prog w base spare held n 26 [a6, a7, a8, a9, a10] = some y3 := by
      have : DataW.trod enc Try.prog w base spare held n 26 (([a0, b0, a1, a2, a3, a4, a5, a6, a7, a8, a9, a10].drop 7).take (Try.prog.cellsOf 26)) = some y3 := (hf 3 _ rfl).trans e3
      rw [cells_val] at this
      exact this
    obtain ⟨k0, u0, _⟩ := DataW.trod_int Try.underlying3 f0
    obtain ⟨k1, u3, _⟩ := DataW.trod_int Try.underlying3 f1
    obtain ⟨k, u1, q1⟩ := trod_wf f2
    obtain ⟨v, u2, q2⟩ := trod_wf f3
    simp at u0 u3
    subst u0 u3
    simp only [V.cs, List.cons.injEq, and_true] at u1 u2
    obtain ⟨rfl, rfl, rfl, rfl, rfl⟩ := u1
    obtain ⟨rfl, rfl, rfl, rfl, rfl⟩ := u2
    exact ⟨⟨⟨k0, k1, k, v⟩, q1, q2⟩, rfl⟩
/-- A script that reads as l. -/
def OpsRd (w : World) (A : Option Addr) (l : List OpV) : Prop := Rd w 12 A l.length (l.flatMap OpV.cs) ∧ ∀ x ∈ l, x.k.wf ∧ x.v.wf
theorem OpsRd.none_ {w w' : World} {A : Option Addr} {l : List OpV} (h : OpsRd w A l) (hc : Chg (fun _ => False) w w') : OpsRd w' A l := ⟨h.1.none_ hc, h.2⟩
theorem open_ops {H : Type} {enc : TypeId × Value → H} {W : World} {base : Nat} {v : Value} {d : DataW H} {p : List MemPlace} (hval : Value.okWide Try.prog W .any base 22 v) (h : DataW.Trod enc Try.prog W 0 (fun _ => true) true 22 v d p) :
    ∃ (A : Option Addr) (l : List OpV) (k : Nat), v = .slice A l.length k ∧ OpsRd W A l ∧ l.length ≤ k ∧ k ≤ maxLen := by
  obtain ⟨A, l, k, e, h1, h2, h3⟩ := open_rows 12 (fun x : WOp => x.1.cs) (fun _ => rfl) (by omega) Try.underlying22 cells_op (fun _ _ _ h => trod_op h) hval h
  refine ⟨A, l.map (·.1), k, by rw [List.length_map]; exact e, ⟨?_, ?_⟩, by rw [List.length_map]; exact h2, h3⟩
  · rw [List.length_map, List.flatMap_map]
    exact h1
  · intro x hx
    obtain ⟨y, -, rfl⟩ := List.mem_map.1 hx
    exact y.2
theorem op_at {w : World} {A : Option Addr} {l : List OpV} (h : OpsRd w A l) {j : Nat} (hj : j < l.length) :
    ∃ x b o, A = some ⟨b, o, none⟩ ∧ b < w.heap.size ∧ x ∈ l ∧ l.getD j OpV.zero = x ∧ ∀ i, i < 12 → w.cell? ⟨b, o + j * 12 + i, none⟩ = x.cs[i]? := by
  obtain ⟨b, o, e, hb, hc⟩ := h.1.2 (by omega)
  refine ⟨l[j], b, o, e, hb, List.getElem_mem hj, by rw [List.getD_eq_getElem?_getD, List.getElem?_eq_getElem hj]; rfl, fun i hi => ?_⟩
  rw [Nat.add_assoc, hc _ (by omega), flat_at OpV.cs 12 (fun _ => rfl) _ _ _ hi, List.getElem?_eq_getElem hj]
  rfl
def WV : Type := { x : V // x.wf }
instance : Inhabited WV := ⟨⟨V.zero, zero_wf⟩⟩
/-- A slice of values that can be keys. -/
def ValsRd (w : World) (A : Option Addr) (l : List V) : Prop := Vs w A l ∧ ∀ x ∈ l, x.wf
theorem open_wvals {H : Type} {enc : TypeId × Value → H} {W : World} {base : Nat} {v : Value} {d : DataW H} {p : List MemPlace} (hval : Value.okWide Try.prog W .any base 52 v) (h : DataW.Trod enc Try.prog W 0 (fun _ => true) true 52 v d p) :
    ∃ (A : Option Addr) (l : List V) (k : Nat), v = .slice A l.length k ∧ ValsRd W A l ∧ l.length ≤ k ∧ k ≤ maxLen := by
  obtain ⟨A, l, k, e, h1, h2, h3⟩ := open_rows 5 (fun x : WV => x.1.cs) (fun _ => rfl) (by omega) Try.underlying52 cells_val (fun _ _ _ h => by
    obtain ⟨v, e, hw⟩ := trod_wf h
    exact ⟨⟨v, hw⟩, e⟩) hval h
  refine ⟨A, l.map (·.1), k, by rw [List.length_map]; exact e, ⟨?_, ?_⟩, by rw [List.length_map]; exact h2, h3⟩
  · unfold Vs
    rw [List.length_map, List.flatMap_map]
    exact h1
  · intro x hx
    obtain ⟨y, -, rfl⟩ := List.mem_map.1 hx
    exact y.2
theorem vAt_mem {l : List V} {j : Nat} (hj : j < l.length) : vAt l j ∈ l := by
  unfold vAt
  rw [List.getD_eq_getElem?_getD, List.getElem?_eq_getElem hj]
  exact List.getElem_mem hj
end Go.Proofs.Ytoelgnjnbelokaa
