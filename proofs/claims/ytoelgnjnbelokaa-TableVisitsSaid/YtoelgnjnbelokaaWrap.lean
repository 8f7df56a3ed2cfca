/-
  The frame of a statement: what comes in by value and by slice, and that it reads behind the call as it did.
-/
import Derived.Test.YtoelgnjnbelokaaLib
import Derived.Test.YtoelgnjnbelokaaRows
import Derived.ProofKit
import Derived.OpenShut
import Derived.ShutString
import Derived.ChangeOld
import Derived.Carry
import Derived.Deep.Slices
namespace Go.Proofs.Ytoelgnjnbelokaa
open Go.ChangeShapes Go.WideShapes Go.ChangeAt Go.RowKit Go.Deep

theorem own : ownKnob Try.prog.godebug = none := by kernel_rfl
theorem laidOut : laidOutB Try.prog = true := by kernel_rfl
theorem cells_int : Try.prog.cellsOf 3 = 1 := by kernel_rfl
theorem cells_str : Try.prog.cellsOf 9 = 1 := by kernel_rfl
theorem cells_num : Try.prog.cellsOf 24 = 2 := by kernel_rfl
theorem cells_val : Try.prog.cellsOf 26 = 5 := by kernel_rfl

instance : Inhabited V := ⟨V.zero⟩
section
variable {H : Type} {enc : TypeId × Value → H} {w W W' : World} {base fuel : Nat} {spare : Nat → Bool} {held : Bool}
theorem cell_lt {p : Addr} {v : Value} (h : w.cell? p = some v) : p.block < w.heap.size := by
  unfold World.cell? at h
  cases hh : w.heap[p.block]? with
  | none => simp [hh] at h
  | some o => exact (Array.getElem?_eq_some_iff.1 hh).1

theorem trodAll_below {ts : List TypeId} (hts : ∀ t ∈ ts, Try.prog.readableRec t = true ∧ t < Try.prog.types.size) {vs : List Value} {ds : List (DataW H)} {ps : List MemPlace}
    (h : DataW.TrodAll enc Try.prog W 0 (fun _ => true) true ts vs ds ps) (bel : Below W.heap.size W W') : DataW.TrodAll enc Try.prog W' 0 (fun b => decide (b < W.heap.size)) true ts vs ds ps := by
  induction ts generalizing vs ds ps with
  | nil =>
    obtain ⟨rfl, rfl, rfl⟩ := trodAll_nil h
    exact trodAll_mk0
  | cons t ts ih =>
    obtain ⟨v, vs', d, ds', p, q, rfl, rfl, rfl, h1, h2⟩ := trodAll_cons h
    have lt : ∀ x ∈ p, x.block < W.heap.size := by
      obtain ⟨m, hm⟩ := h1
      exact DataW.trod_lt m _ _ _ hm
    have h0 := hts t (List.mem_cons_self ..)
    exact trodAll_cons_mk (Below.trod laidOut h0.1 h0.2 h1 bel lt) (ih (fun x hx => hts x (List.mem_cons_of_mem _ hx)) h2)

/-- A value of the language that is read. -/
theorem trod_val {cs : List Value} {x : DataW H × List MemPlace} (h : DataW.trod enc Try.prog w base spare held fuel 26 cs = some x) : ∃ v : V, cs = v.cs := by
  obtain ⟨xs, n, _, rfl, hl, hlen, hf⟩ := DataW.trod_struct Try.underlying26 h
  rw [cells_val] at hl
  match cs, hl with
  | [a0, a1, a2, a3, a4], _ =>
    have get : ∀ i, i < 4 → ∃ y, xs[i]? = some y := fun i hi => ⟨_, List.getElem?_eq_getElem (by rw [hlen]; exact hi)⟩
    obtain ⟨y0, e0⟩ := get 0 (by omega)
    obtain ⟨y1, e1⟩ := get 1 (by omega)
    obtain ⟨y2, e2⟩ := get 2 (by omega)
    obtain ⟨y3, e3⟩ := get 3 (by omega)
    have f0 : DataW.trod enc Try.prog w base spare held n 3 [a0] = some y0 := by
      have : DataW.trod enc Try.prog w base spare held n 3 (([a0, a1, a2, a3, a4].drop 0).take (Try.prog.cellsOf 3)) = some y0 := (hf 0 _ rfl).trans e0
      rw [cells_int] at this
      exact this
    have f1 : DataW.trod enc Try.prog w base spare held n 24 [a1, a2] = some y1 := by
      have : DataW.trod enc Try.prog w base spare held n 24 (([a0, a1, a2, a3, a4].drop 1).take (Try.prog.cellsOf 24)) = some y1 := (hf 1 _ rfl).trans e1
      rw [cells_num] at this
      exact this
    have f2 : DataW.trod enc Try.prog w base spare held n 9 [a3] = some y2 := by
      have : DataW.trod enc Try.prog w base spare held n 9 (([a0, a1, a2, a3, a4].drop 3).take (Try.prog.cellsOf 9)) = some y2 := (hf 2 _ rfl).trans e2
      rw [cells_str] at this
      exact this
    have f3 : DataW.trod enc Try.prog w base spare held n 3 [a4] = some y3 := by
      have : DataW.trod enc Try.prog w base spare held n 3 (([a0, a1, a2, a3, a4].drop 4).take (Try.prog.cellsOf 3)) = some y3 := (hf 3 _ rfl).trans e3
      rw [cells_int] at this
      exact this
    obtain ⟨k, k0, _⟩ := DataW.trod_int Try.underlying3 f0
    obtain ⟨s, k2, _⟩ := DataW.trod_string Try.underlying9 f2
    obtain ⟨r, k3, _⟩ := DataW.trod_int Try.underlying3 f3
    obtain ⟨zs, n', _, _, _, hlen', hg⟩ := DataW.trod_struct Try.underlying24 f1
    have get' : ∀ i, i < 2 → ∃ y, zs[i]? = some y := fun i hi => ⟨_, List.getElem?_eq_getElem (by rw [hlen']; exact hi)⟩
    obtain ⟨z0, u0⟩ := get' 0 (by omega)
    obtain ⟨z1, u1⟩ := get' 1 (by omega)
    have g0 : DataW.trod enc Try.prog w base spare held n' 3 [a1] = some z0 := by
      have : DataW.trod enc Try.prog w base spare held n' 3 (([a1, a2].drop 0).take (Try.prog.cellsOf 3)) = some z0 := (hg 0 _ rfl).trans u0
      rw [cells_int] at this
      exact this
    have g1 : DataW.trod enc Try.prog w base spare held n' 3 [a2] = some z1 := by
      have : DataW.trod enc Try.prog w base spare held n' 3 (([a1, a2].drop 1).take (Try.prog.cellsOf 3)) = some z1 := (hg 1 _ rfl).trans u1
      rw [cells_int] at this
      exact this
    obtain ⟨p, k4, _⟩ := DataW.trod_int Try.underlying3 g0
    obtain ⟨q, k5, _⟩ := DataW.trod_int Try.underlying3 g1
    simp at k0 k2 k3 k4 k5
    subst k0 k2 k3 k4 k5
    exact ⟨⟨k, p, q, s, r⟩, rfl⟩
theorem open_val {v : Value} {d : DataW H} {p : List MemPlace} (hval : Value.okWide Try.prog W .any base 26 v) (h : DataW.Trod enc Try.prog W 0 (fun _ => true) true 26 v d p) : ∃ x : V, v = (.agg #[.int .i64 x.k, .int .i64 x.p, .int .i64 x.q, .string x.s, .int .i64 x.r]) := by
  obtain ⟨cs, rfl, _⟩ := okWide_struct Try.underlying26 hval
  obtain ⟨fuel, hf⟩ := h
  obtain ⟨x, hx⟩ := trod_val hf
  refine ⟨x, ?_⟩
  simp only [Value.cells] at hx
  cases cs
  simp only at hx
  rw [hx]; rfl
/-- A slice of whatever is read cell by cell. -/
theorem open_rows {α : Type} [Inhabited α] {ST ET : TypeId} (s : Nat) (cs : α → List Value) (hs : ∀ a, (cs a).length = s) (h0 : 0 < s) (hu : Try.prog.underlying ST = some (.slice ET)) (hc : Try.prog.cellsOf ET = s)
    (tr : ∀ (fuel : Nat) (c : List Value) (x : DataW H × List MemPlace), DataW.trod enc Try.prog W 0 (fun _ => true) true fuel ET c = some x → ∃ a, c = cs a)
    {v : Value} {d : DataW H} {p : List MemPlace} (hval : Value.okWide Try.prog W .any base ST v) (h : DataW.Trod enc Try.prog W 0 (fun _ => true) true ST v d p) :
    ∃ (A : Option Addr) (l : List α) (k : Nat), v = .slice A l.length k ∧ Rd W s A l.length (l.flatMap cs) ∧ l.length ≤ k ∧ k ≤ maxLen := by
  obtain ⟨A, l, c, rfl⟩ := okWide_slice hu hval
  obtain ⟨fuel, hf⟩ := h
  rcases open_slice hu hf with ⟨hcs, _⟩ | ⟨a, len, cap, m, n, D, Pl, hcs, _, hl, hm, hmm, _, hx⟩
  · simp [Value.cells] at hcs
    obtain ⟨rfl, rfl, rfl⟩ := hcs
    exact ⟨none, [], 0, rfl, ⟨by simp, fun h => absurd h (by simp)⟩, Nat.le_refl _, Nat.zero_le _⟩
  · simp [Value.cells] at hcs
    obtain ⟨rfl, rfl, rfl⟩ := hcs
    rw [hc] at hx
    simp at hmm
    subst hmm
    obtain ⟨f, hf'⟩ := choose_lt (α := α) (p := fun i v => W.cells? 0 (a.add (i * s)) s = some (cs v)) (n := l) (fun i hi => by
      obtain ⟨cs', h1, h2⟩ := hx i (by omega)
      obtain ⟨v, rfl⟩ := tr _ _ _ h2
      exact ⟨v, h1⟩)
    refine ⟨some a, (List.range l).map f, m, by simp, ⟨?_, fun h0' => ?_⟩, by simpa using hl, hm⟩
    · rw [flat_len cs s hs]
    · simp only [List.length_map, List.length_range] at h0' ⊢
      obtain ⟨b, off, spot⟩ := a
      have c0 := (World.cells?_some (hf' 0 h0')).2.2 0 h0
      obtain ⟨u, hu0⟩ : ∃ u, (cs (f 0))[0]? = some u := ⟨_, List.getElem?_eq_getElem (by rw [hs]; exact h0)⟩
      have c1 := c0.trans hu0
      have hspot : spot = none := by simpa [Addr.add] using World.cell?_spot c1
      subst hspot
      refine ⟨b, off, rfl, by simpa [Addr.add] using cell_lt c1, fun j hj => ?_⟩
      have hi : j / s < l := Nat.div_lt_of_lt_mul (by rw [Nat.mul_comm]; exact hj)
      have hjm : j % s < s := Nat.mod_lt _ h0
      have hjd : j / s * s + j % s = j := by rw [Nat.mul_comm]; exact Nat.div_add_mod j s
      have cj := (World.cells?_some (hf' (j / s) hi)).2.2 (j % s) hjm
      have e : (Addr.add (Addr.add ⟨b, off, none⟩ (j / s * s)) (j % s)) = ⟨b, off + j, none⟩ := by
        rw [add_plain, add_plain, Nat.add_assoc, hjd]
      rw [e] at cj
      have := flat_at cs s hs ((List.range l).map f) (j / s) (j % s) hjm
      rw [hjd] at this
      rw [cj, this]
      simp [hi]
/-- What was read below B still reads so. -/
theorem Rd.below {B s n : Nat} {A : Option Addr} {xs : List Value} {w w' : World} (h : Rd w s A n xs) (hb : Below B w w') (hB : w.heap.size ≤ B) : Rd w' s A n xs := by
  refine ⟨h.1, fun hn => ?_⟩
  obtain ⟨b, o, e, hlt, hc⟩ := h.2 hn
  exact ⟨b, o, e, Nat.lt_of_lt_of_le hlt hb.size, fun j hj => (hb.cell (by simpa using Nat.lt_of_lt_of_le hlt hB)).trans (hc j hj)⟩
/-- A slice of them. -/
theorem open_vals {v : Value} {d : DataW H} {p : List MemPlace} (hval : Value.okWide Try.prog W .any base 52 v) (h : DataW.Trod enc Try.prog W 0 (fun _ => true) true 52 v d p) :
    ∃ A rs k, v = .slice A rs.length k ∧ Vs W A rs ∧ rs.length ≤ k ∧ k ≤ maxLen :=
  open_rows 5 V.cs V.cs_len (by omega) Try.underlying52 cells_val (fun _ _ _ h => trod_val h) hval h
end
end Go.Proofs.Ytoelgnjnbelokaa
