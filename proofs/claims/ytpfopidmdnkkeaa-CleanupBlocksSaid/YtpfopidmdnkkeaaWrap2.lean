/-
  What comes in besides: a failure, a slice of integers.
-/
import Derived.Test.YtpfopidmdnkkeaaMade
namespace Go.Proofs.Ytpfopidmdnkkeaa
open Go.ChangeShapes Go.WideShapes Go.ChangeAt Go.RowKit Go.Deep

theorem cells_place : Try.prog.cellsOf 64 = 3 := by kernel_rfl
theorem cells_places : Try.prog.cellsOf 28 = 1 := by kernel_rfl
theorem cells_fl : Try.prog.cellsOf 30 = 6 := by kernel_rfl
instance : Inhabited Pl := ⟨⟨⟨#[]⟩, 0, false⟩⟩
section
variable {H : Type} {enc : TypeId × Value → H} {w W W' : World} {base fuel : Nat} {spare : Nat → Bool} {held : Bool}
theorem trod_place {cs : List Value} {x : DataW H × List MemPlace} (h : DataW.trod enc Try.prog w base spare held fuel 64 cs = some x) : ∃ v : Pl, cs = v.cs := by
  obtain ⟨xs, n, _, rfl, hl, hlen, hf⟩ := DataW.trod_struct Try.underlying64 h
  rw [cells_place] at hl
  match cs, hl with
  | [a0, a1, a2], _ =>
    have get : ∀ i, i < 3 → ∃ y, xs[i]? = some y := fun i hi => ⟨_, List.getElem?_eq_getElem (by rw [hlen]; exact hi)⟩
    obtain ⟨y0, e0⟩ := get 0 (by omega)
    obtain ⟨y1, e1⟩ := get 1 (by omega)
    obtain ⟨y2, e2⟩ := get 2 (by omega)
    have f0 : DataW.trod enc Try.prog w base spare held n 9 [a0] = some y0 := by
      have : DataW.trod enc Try.prog w base spare held n 9 (([a0, a1, a2].drop 0).take (Try.prog.cellsOf 9)) = some y0 := (hf 0 _ rfl).trans e0
      rw [cells_str] at this
      exact this
    have f1 : DataW.trod enc Try.prog w base spare held n 3 [a1] = some y1 := by
      have : DataW.trod enc Try.prog w base spare held n 3 (([a0, a1, a2].drop 1).take (Try.prog.cellsOf 3)) = some y1 := (hf 1 _ rfl).trans e1
      rw [cells_int] at this
      exact this
    have cb : Try.prog.cellsOf 4 = 1 := by kernel_rfl
    have f2 : DataW.trod enc Try.prog w base spare held n 4 [a2] = some y2 := by
      have : DataW.trod enc Try.prog w base spare held n 4 (([a0, a1, a2].drop 2).take (Try.prog.cellsOf 4)) = some y2 := (hf 2 _ rfl).trans e2
      rw [cb] at this
      exact this
    obtain ⟨s, k0, _⟩ := DataW.trod_string Try.underlying9 f0
    obtain ⟨k, k1, _⟩ := DataW.trod_int Try.underlying3 f1
    obtain ⟨t, k2, _⟩ := DataW.trod_bool Try.underlying4 f2
    simp at k0 k1 k2
    subst k0 k1 k2
    exact ⟨⟨s, k, t⟩, rfl⟩
/-- A slice of whatever is read cell by cell, from its one cell. -/
theorem trod_rows {α : Type} [Inhabited α] {ST ET : TypeId} (s : Nat) (cs : α → List Value) (hs : ∀ a, (cs a).length = s) (h0 : 0 < s) (hu : Try.prog.underlying ST = some (.slice ET)) (hc : Try.prog.cellsOf ET = s)
    (tr : ∀ (fuel : Nat) (c : List Value) (x : DataW H × List MemPlace), DataW.trod enc Try.prog W 0 (fun _ => true) true fuel ET c = some x → ∃ a, c = cs a)
    {fuel : Nat} {c : List Value} {x : DataW H × List MemPlace} (hf : DataW.trod enc Try.prog W 0 (fun _ => true) true fuel ST c = some x) :
    ∃ (A : Option Addr) (l : List α) (k : Nat), c = [.slice A l.length k] ∧ Rd W s A l.length (l.flatMap cs) := by
  rcases open_slice hu hf with ⟨hcs, _⟩ | ⟨a, len, cap, m, n, D, Pl, hcs, _, hl, hm, hmm, _, hx⟩
  · exact ⟨none, [], 0, hcs, ⟨by simp, fun h => absurd h (by simp)⟩⟩
  · rw [hc] at hx
    simp at hmm
    subst hmm
    obtain ⟨f, hf'⟩ := choose_lt (α := α) (p := fun i v => W.cells? 0 (a.add (i * s)) s = some (cs v)) (n := len) (fun i hi => by
      obtain ⟨cs', h1, h2⟩ := hx i (by omega)
      obtain ⟨v, rfl⟩ := tr _ _ _ h2
      exact ⟨v, h1⟩)
    refine ⟨some a, (List.range len).map f, m, by rw [hcs]; simp, ⟨?_, fun h0' => ?_⟩⟩
    · rw [flat_len cs s hs]
    · simp only [List.length_map, List.length_range] at h0' ⊢
      obtain ⟨b, off, spot⟩ := a
      have c0 := (World.cells?_some (hf' 0 h0')).2.2 0 h0
      obtain ⟨u, hu0⟩ : ∃ u, (cs (f 0))[0]? = some u := ⟨_, List.getElem?_eq_getElem (by rw [hs]; exact h0)⟩
      have c1 := c0.trans hu0
      have hspot : spot = none := by simpa [Addr.add] using World.cell?_spot c1
      subst hspot
      refine ⟨b, off, rfl, by simpa [Addr.add] using cell_lt c1, fun j hj => ?_⟩
      have hi : j / s < len := Nat.div_lt_of_lt_mul (by rw [Nat.mul_comm]; exact hj)
      have hjm : j % s < s := Nat.mod_lt _ h0
      have hjd : j / s * s + j % s = j := by rw [Nat.mul_comm]; exact Nat.div_add_mod j s
      have cj := (World.cells?_some (hf' (j / s) hi)).2.2 (j % s) hjm
      have e : (Addr.add (Addr.add ⟨b, off, none⟩ (j / s * s)) (j % s)) = ⟨b, off + j, none⟩ := by
        rw [add_plain, add_plain, Nat.add_assoc, hjd]
      rw [e] at cj
      have := flat_at cs s hs ((List.range len).map f) (j / s) (j % s) hjm
      rw [hjd] at this
      rw [cj, this]
      simp [hi]
/-- A failure. -/
theorem open_fl {v : Value} {d : DataW H} {p : List MemPlace} (hval : Value.okWide Try.prog W .any base 30 v) (h : DataW.Trod enc Try.prog W 0 (fun _ => true) true 30 v d p) :
    ∃ (x : V) (A : Option Addr) (l : List Pl) (k : Nat), v = .agg #[.int .i64 x.k, .int .i64 x.p, .int .i64 x.q, .string x.s, .int .i64 x.r, .slice A l.length k] ∧ Rd W 3 A l.length (l.flatMap Pl.cs) := by
  obtain ⟨cs, rfl, _⟩ := okWide_struct Try.underlying30 hval
  obtain ⟨fuel, hf⟩ := h
  obtain ⟨xs, n, _, hcs, hl, hlen, hg⟩ := DataW.trod_struct Try.underlying30 hf
  rw [cells_fl] at hl
  simp only [Value.cells] at hl hg
  obtain ⟨cs⟩ := cs
  simp only at hl hg
  match cs, hl with
  | [a0, a1, a2, a3, a4, a5], _ =>
    have get : ∀ i, i < 2 → ∃ y, xs[i]? = some y := fun i hi => ⟨_, List.getElem?_eq_getElem (by rw [hlen]; exact hi)⟩
    obtain ⟨y0, e0⟩ := get 0 (by omega)
    obtain ⟨y1, e1⟩ := get 1 (by omega)
    have f0 : DataW.trod enc Try.prog W 0 (fun _ => true) true n 25 [a0, a1, a2, a3, a4] = some y0 := by
      have : DataW.trod enc Try.prog W 0 (fun _ => true) true n 25 (([a0, a1, a2, a3, a4, a5].drop 0).take (Try.prog.cellsOf 25)) = some y0 := (hg 0 _ rfl).trans e0
      rw [cells_val] at this
      exact this
    have f1 : DataW.trod enc Try.prog W 0 (fun _ => true) true n 28 [a5] = some y1 := by
      have : DataW.trod enc Try.prog W 0 (fun _ => true) true n 28 (([a0, a1, a2, a3, a4, a5].drop 5).take (Try.prog.cellsOf 28)) = some y1 := (hg 1 _ rfl).trans e1
      rw [cells_places] at this
      exact this
    obtain ⟨x, hx⟩ := trod_val f0
    obtain ⟨A, l, k, hA, hR⟩ := trod_rows 3 Pl.cs Pl.cs_len (by omega) Try.underlying28 cells_place (fun _ _ _ h => trod_place h) f1
    injection hx with h0 hx
    injection hx with h1 hx
    injection hx with h2 hx
    injection hx with h3 hx
    injection hx with h4 _
    injection hA with h5 _
    subst h0 h1 h2 h3 h4 h5
    exact ⟨x, A, l, k, rfl, hR⟩
/-- A slice of integers. -/
theorem open_ints_ {v : Value} {d : DataW H} {p : List MemPlace} (hval : Value.okWide Try.prog W .any base 54 v) (h : DataW.Trod enc Try.prog W 0 (fun _ => true) true 54 v d p) :
    ∃ (A : Option Addr) (l : List Int) (k : Nat), v = .slice A l.length k ∧ Rd W 1 A l.length (l.flatMap fun i => [.int .i64 i]) ∧ l.length ≤ k ∧ k ≤ maxLen :=
  open_rows 1 (fun i => [.int .i64 i]) (fun _ => rfl) (by omega) Try.underlying54 cells_int (fun _ _ _ h => by
    obtain ⟨k, k0, _⟩ := DataW.trod_int Try.underlying3 h
    exact ⟨k, k0⟩) hval h
end
end Go.Proofs.Ytpfopidmdnkkeaa
