/-
  The laws' scripts as they come in; what a Set leaves, counted.
-/
import Derived.Test.YtabodabfiklbnaaLives
namespace Go.Proofs.Ytabodabfiklbnaa
open Go.RowKit Go.Maps Go.ChangeShapes Go.WideShapes Go.ChangeAt

theorem trod_wf {H : Type} {enc : TypeId × Value → H} {w : World} {base fuel : Nat} {spare : Nat → Bool} {held : Bool} {cs : List Value} {x : DataW H × List MemPlace} (h : DataW.trod enc Try.prog w base spare held fuel 28 cs = some x) : ∃ v : V, cs = v.cs ∧ v.wf := by
  obtain ⟨xs, n, _, rfl, hl, hlen, hf⟩ := DataW.trod_struct Try.underlying28 h
  rw [cells_val] at hl
  match cs, hl with
  | [a0, a1, a2, a3, a4], _ =>
    have get : ∀ i, i < 4 → ∃ y, xs[i]? = some y := fun i hi => ⟨_, List.getElem?_eq_getElem (by rw [hlen]; exact hi)⟩
    obtain ⟨y0, e0⟩ := get 0 (by omega)
    obtain ⟨y1, e1⟩ := get 1 (by omega)
    obtain ⟨y2, e2⟩ := get 2 (by omega)
    obtain ⟨y3, e3⟩ := get 3 (by omega)
    have f0 : DataW.trod enc Try.prog w base spare held n 3 [a0] = some y0 := by
      have : DataW.trod enc Try.prog w base spare held n 3 (([a0, a1, a2, a3, a4].drop 0).take (Try.prog.cellsOf 3)) = some y0 := (hf 0 _ rfl).trans e0
      rw [cells_int] at this
      exact this
    have f1 : DataW.trod enc Try.prog w base spare held n 26 [a1, a2] = some y1 := by
      have : DataW.trod enc Try.prog w base spare held n 26 (([a0, a1, a2, a3, a4].drop 1).take (Try.prog.cellsOf 26)) = some y1 := (hf 1 _ rfl).trans e1
      rw [cells_num] at this
      exact this
    have f2 : DataW.trod enc Try.prog w base spare held n 9 [a3] = some y2 := by
      have : DataW.trod enc Try.prog w base spare held n 9 (([a0, a1, a2, a3, a4].drop 3).take (Try.prog.cellsOf 9)) = some y2 := (hf 2 _ rfl).trans e2
      rw [cells_str] at this
      exact this
    have f3 : DataW.trod enc Try.prog w base spare held n 3 [a4] = some y3 := by
      have : DataW.trod enc Try.prog w base spare held n 3 (([a0, a1, a2, a3, a4].drop 4).take (Try.prog.cellsOf 3)) = some y3 := (hf 3 _ rfl).trans e3
      rw [cells_int] at this
      exact this
    obtain ⟨k, k0, _, q0⟩ := DataW.trod_int Try.underlying3 f0
    obtain ⟨s, k2, _, q2⟩ := DataW.trod_string Try.underlying9 f2
    obtain ⟨r, k3, _, q3⟩ := DataW.trod_int Try.underlying3 f3
    obtain ⟨zs, n', _, _, _, hlen', hg⟩ := DataW.trod_struct Try.underlying26 f1
    have get' : ∀ i, i < 2 → ∃ y, zs[i]? = some y := fun i hi => ⟨_, List.getElem?_eq_getElem (by rw [hlen']; exact hi)⟩
    obtain ⟨z0, u0⟩ := get' 0 (by omega)
    obtain ⟨z1, u1⟩ := get' 1 (by omega)
    have g0 : DataW.trod enc Try.prog w base spare held n' 3 [a1] = some z0 := by
      have : DataW.trod enc Try.prog w base spare held n' 3 (([a1, a2].drop 0).take (Try.prog.cellsOf 3)) = some z0 := (hg 0 _ rfl).trans u0
      rw [cells_int] at this
      exact this
    have g1 : DataW.trod enc Try.prog w base spare held n' 3 [a2] = some z1 := by
      have : DataW.trod enc Try.prog w base spare held n' 3 (([a1, a2].drop 1).take (Try.prog.cellsOf 3)) = some z1 := (hg 1 _ rfl).trans u1
      rw [cells_int] at this
      exact this
    obtain ⟨p, k4, _, q4⟩ := DataW.trod_int Try.underlying3 g0
    obtain ⟨q, k5, _, q5⟩ := DataW.trod_int Try.underlying3 g1
    simp at k0 k2 k3 k4 k5
    subst k0 k2 k3 k4 k5
    exact ⟨⟨k, p, q, s, r⟩, rfl, ⟨q0, q4, q5, q2, q3⟩⟩
theorem open_val_wf {H : Type} {enc : TypeId × Value → H} {W : World} {base : Nat} {v : Value} {d : DataW H} {p : List MemPlace} (hval : Value.okWide Try.prog W .any base 28 v) (h : DataW.Trod enc Try.prog W 0 (fun _ => true) true 28 v d p) : ∃ x : V, v = (.agg #[.int .i64 x.k, .int .i64 x.p, .int .i64 x.q, .string x.s, .int .i64 x.r]) ∧ x.wf := by
  obtain ⟨cs, rfl, _⟩ := okWide_struct Try.underlying28 hval
  obtain ⟨fuel, hf⟩ := h
  obtain ⟨x, hx, hw⟩ := trod_wf hf
  refine ⟨x, ?_, hw⟩
  simp only [Value.cells] at hx
  cases cs
  simp only at hx
  rw [hx]; rfl
structure OpV where
  kd : Int
  k : V
  v : V
def OpV.cs (x : OpV) : List Value := [.int .i64 x.kd, .int .i64 x.k.k, .int .i64 x.k.p, .int .i64 x.k.q, .string x.k.s, .int .i64 x.k.r, .int .i64 x.v.k, .int .i64 x.v.p, .int .i64 x.v.q, .string x.v.s, .int .i64 x.v.r]
def OpV.zero : OpV := ⟨0, V.zero, V.zero⟩
def WOp : Type := { x : OpV // x.k.wf ∧ x.v.wf }
theorem zero_wf : V.zero.wf := ⟨by decide, by decide, by decide, of_decide_eq_true (by kernel_rfl), by decide⟩
instance : Inhabited WOp := ⟨⟨OpV.zero, zero_wf, zero_wf⟩⟩
theorem cells_op : Try.prog.cellsOf 30 = 11 := by kernel_rfl
theorem trod_op {H : Type} {enc : TypeId × Value → H} {w : World} {base fuel : Nat} {spare : Nat → Bool} {held : Bool} {cs : List Value} {x : DataW H × List MemPlace} (h : DataW.trod enc Try.prog w base spare held fuel 30 cs = some x) :
    ∃ v : WOp, cs = v.1.cs := by
  obtain ⟨xs, n, _, rfl, hl, hlen, hf⟩ := DataW.trod_struct Try.underlying30 h
  rw [cells_op] at hl
  match cs, hl with
  | [a0, a1, a2, a3, a4, a5, a6, a7, a8, a9, a10], _ =>
    have get : ∀ i, i < 3 → ∃ y, xs[i]? = some y := fun i hi => ⟨_, List.getElem?_eq_getElem (by rw [hlen]; exact hi)⟩
    obtain ⟨y0, e0⟩ := get 0 (by omega)
    obtain ⟨y1, e1⟩ := get 1 (by omega)
    obtain ⟨y2, e2⟩ := get 2 (by omega)
    have f0 : DataW.trod enc Try.prog w base spare held n 3 [a0] = some y0 := by
      have : DataW.trod enc Try.prog w base spare held n 3 (([a0, a1, a2, a3, a4, a5, a6, a7, a8, a9, a10].drop 0).take (Try.prog.cellsOf 3)) = some y0 := (hf 0 _ rfl).trans e0
      rw [cells_int] at this
      exact this
    have f1 : DataW.trod enc Try.prog w base spare held n 28 [a1, a2, a3, a4, a5] = some y1 := by
      have : DataW.trod enc Try.prog w base spare held n 28 (([a0, a1, a2, a3, a4, a5, a6, a7, a8, a9, a10].drop 1).take (Try.prog.cellsOf 28)) = some y1 := (hf 1 _ rfl).trans e1
      rw [cells_val] at this
      exact this
    have f2 : DataW.trod enc Try.prog w base spare held n 28 [a6, a7, a8, a9, a10] = some y2 := by
      have : DataW.trod enc Try.prog w base spare held n 28 (([a0, a1, a2, a3, a4, a5, a6, a7, a8, a9, a10].drop 6).take (Try.prog.cellsOf 28)) = some y2 := (hf 2 _ rfl).trans e2
      rw [cells_val] at this
      exact this
    obtain ⟨k0, u0, _⟩ := DataW.trod_int Try.underlying3 f0
    obtain ⟨k, u1, q1⟩ := trod_wf f1
    obtain ⟨v, u2, q2⟩ := trod_wf f2
    simp at u0
    subst u0
    simp only [V.cs, List.cons.injEq, and_true] at u1 u2
    obtain ⟨rfl, rfl, rfl, rfl, rfl⟩ := u1
    obtain ⟨rfl, rfl, rfl, rfl, rfl⟩ := u2
    exact ⟨⟨⟨k0, k, v⟩, q1, q2⟩, rfl⟩
theorem OpV.box {w : World} {b : Nat} {t : TypeId} {x : OpV} (h : Bk w b t x.cs) : w.cell? ⟨b, 0, none⟩ = some (.int .i64 x.kd) ∧ w.cell? ⟨b, 1, none⟩ = some (.int .i64 x.k.k) ∧ w.cell? ⟨b, 2, none⟩ = some (.int .i64 x.k.p) ∧ w.cell? ⟨b, 3, none⟩ = some (.int .i64 x.k.q) ∧
    w.cell? ⟨b, 4, none⟩ = some (.string x.k.s) ∧ w.cell? ⟨b, 5, none⟩ = some (.int .i64 x.k.r) ∧ w.cell? ⟨b, 6, none⟩ = some (.int .i64 x.v.k) ∧ w.cell? ⟨b, 7, none⟩ = some (.int .i64 x.v.p) ∧ w.cell? ⟨b, 8, none⟩ = some (.int .i64 x.v.q) ∧ w.cell? ⟨b, 9, none⟩ = some (.string x.v.s) ∧ w.cell? ⟨b, 10, none⟩ = some (.int .i64 x.v.r) :=
  ⟨h.cell 0, h.cell 1, h.cell 2, h.cell 3, h.cell 4, h.cell 5, h.cell 6, h.cell 7, h.cell 8, h.cell 9, h.cell 10⟩
/-- A script that reads as l. -/
def OpsRd (w : World) (A : Option Addr) (l : List OpV) : Prop := Rd w 11 A l.length (l.flatMap OpV.cs) ∧ ∀ x ∈ l, x.k.wf ∧ x.v.wf
theorem OpsRd.none_ {w w' : World} {A : Option Addr} {l : List OpV} (h : OpsRd w A l) (hc : Chg (fun _ => False) w w') : OpsRd w' A l := ⟨h.1.none_ hc, h.2⟩
theorem open_ops {H : Type} {enc : TypeId × Value → H} {W : World} {base : Nat} {v : Value} {d : DataW H} {p : List MemPlace} (hval : Value.okWide Try.prog W .any base 22 v) (h : DataW.Trod enc Try.prog W 0 (fun _ => true) true 22 v d p) :
    ∃ (A : Option Addr) (l : List OpV) (k : Nat), v = .slice A l.length k ∧ OpsRd W A l ∧ l.length ≤ k ∧ k ≤ maxLen := by
  obtain ⟨A, l, k, e, h1, h2, h3⟩ := open_rows 11 (fun x : WOp => x.1.cs) (fun _ => rfl) (by omega) Try.underlying22 cells_op (fun _ _ _ h => trod_op h) hval h
  refine ⟨A, l.map (·.1), k, by rw [List.length_map]; exact e, ⟨?_, ?_⟩, by rw [List.length_map]; exact h2, h3⟩
  · rw [List.length_map, List.flatMap_map]
    exact h1
  · intro x hx
    obtain ⟨y, -, rfl⟩ := List.mem_map.1 hx
    exact y.2
theorem op_at {w : World} {A : Option Addr} {l : List OpV} (h : OpsRd w A l) {j : Nat} (hj : j < l.length) :
    ∃ x b o, A = some ⟨b, o, none⟩ ∧ b < w.heap.size ∧ x ∈ l ∧ l.getD j OpV.zero = x ∧ ∀ i, i < 11 → w.cell? ⟨b, o + j * 11 + i, none⟩ = x.cs[i]? := by
  obtain ⟨b, o, e, hb, hc⟩ := h.1.2 (by omega)
  refine ⟨l[j], b, o, e, hb, List.getElem_mem hj, by rw [List.getD_eq_getElem?_getD, List.getElem?_eq_getElem hj]; rfl, fun i hi => ?_⟩
  rw [Nat.add_assoc, hc _ (by omega), flat_at OpV.cs 11 (fun _ => rfl) _ _ _ hi, List.getElem?_eq_getElem hj]
  rfl
/-! ### What a Set leaves, counted -/
theorem had_iff {L : List Sl} (I : Inv L) (k : V) : (getM L k).k = 0 ↔ thereM L k = none := by
  unfold getM thereM
  cases h : lastIx L k with
  | none => simp [V.zero]
  | some i =>
    obtain ⟨h1, h2, _⟩ := lastIx_some h
    cases hg : (slAt L i).g with
    | true => simp [I.gone i h1 hg, V.zero, hg]
    | false => simp [(I.val i h1 hg).2, hg]
theorem ins_count (L : List Sl) (k v : V) : nOf (insM L k v) = nOf L + 1 ∧ ((insM L k v).length = nOf L + 1 ∨ ((insM L k v).length = L.length + 1 ∧ L.length ≤ nOf L + nOf L + 8)) := by
  have e : nOf (insM L k v) = nOf L + 1 := by
    unfold insM nOf
    rw [liveL_app]
    split <;> simp [liveL, List.filter_filter]
  refine ⟨e, ?_⟩
  unfold insM
  split
  · exact .inl (by simp [nOf])
  · exact .inr ⟨by simp, by omega⟩
/-- A Set without error: both counts. -/
theorem drops_law {L L1 : List Sl} (I : Inv L) {k v : V} (hp : setM L k v = (0, L1)) :
    ((getM L k).k ≠ 0 → v.k = 0 → L1.length = L.length ∧ nOf L = nOf L1 + 1) ∧ ((getM L k).k ≠ 0 → v.k ≠ 0 → L1.length = L.length ∧ nOf L1 = nOf L) ∧ ((getM L k).k = 0 → v.k = 0 → L1.length = L.length ∧ nOf L1 = nOf L) ∧
      ((getM L k).k = 0 → v.k ≠ 0 → nOf L1 = nOf L + 1 ∧ (L1.length = nOf L + 1 ∨ (L1.length = L.length + 1 ∧ L.length ≤ nOf L + nOf L + 8))) := by
  unfold setM at hp
  split at hp
  · cases hp
  · split at hp
    · cases hp
    · cases ht : thereM L k with
      | some i =>
        rw [ht] at hp
        obtain ⟨_, h1, h2, h3⟩ := there_some ht
        injection hp with _ hp
        subst hp
        have hy : (getM L k).k ≠ 0 := fun e => by rw [(had_iff I k).1 e] at ht; cases ht
        refine ⟨fun _ hv => ?_, fun _ hv => ?_, fun e => absurd e hy, fun e => absurd e hy⟩
        · rw [if_pos hv]
          exact ⟨List.length_set, nOf_set_gone h1 h3 rfl⟩
        · rw [if_neg hv]
          exact ⟨List.length_set, nOf_set_live h1 h3 rfl⟩
      | none =>
        rw [ht] at hp
        injection hp with _ hp
        subst hp
        have hy : (getM L k).k = 0 := (had_iff I k).2 ht
        refine ⟨fun e => absurd hy e, fun e => absurd hy e, fun _ hv => ?_, fun _ hv => ?_⟩
        · rw [if_pos hv]
          exact ⟨rfl, rfl⟩
        · rw [if_neg hv]
          exact ins_count L k v
/-- What holds between two calls of a script on the program's map alone. -/
def Alone (w wr : World) (o j : Nat) : Prop := ∃ L, One wr (fun _ => False) w.heap.size o (j * 1000) L ∧ L.length ≤ j ∧ Chg (fun _ => False) w wr
end Go.Proofs.Ytabodabfiklbnaa
