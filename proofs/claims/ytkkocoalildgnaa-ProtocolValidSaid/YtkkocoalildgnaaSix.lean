/-
  Six actions in one block, their lists in new memory; the actions of valid parts are accepted.
-/
import Derived.Test.YtkkocoalildgnaaAwake
namespace Go.Proofs.Ytkkocoalildgnaa
open Go.RowKit

/-- The actions that the law makes. -/
def vAct (f : V) (vs : List V) (nx lv : Int) : Nat → Ac
  | 0 => ⟨1, 0, V.zero, vs, ⟨#[]⟩, 0, 0, []⟩
  | 1 => ⟨2, 0, V.zero, [vAt vs 0], ⟨#[]⟩, lv, 0, []⟩
  | 2 => ⟨2, 0, V.zero, [⟨3, 0, 0, cut ⟨#[120]⟩, 0⟩], ⟨#[]⟩, 1, 0, []⟩
  | 3 => ⟨3, 0, f, vs, ⟨#[]⟩, 0, nx, vs⟩
  | 4 => ⟨4, 0, f, vs, ⟨#[]⟩, 0, nx, vs⟩
  | _ => ⟨5, 0, V.zero, vs, ⟨#[]⟩, 0, nx, vs⟩
theorem all_vok {vs : List V} {k o l n : Int} {f : V} {s : ByteArray} {ks : List V} (h : chkA ⟨k, o, f, vs, s, l, n, ks⟩ = 0) : vs.all vok = true := by
  unfold chkA at h
  by_cases h1 : kOk ⟨k, o, f, vs, s, l, n, ks⟩ = false ∨ restOf ⟨k, o, f, vs, s, l, n, ks⟩ ≠ AcB k
  · rw [if_pos h1] at h; cases h
  rw [if_neg h1] at h
  by_cases h2 : k = 2 ∧ vs.length ≠ 1
  · rw [if_pos h2] at h; cases h
  rw [if_neg h2] at h
  by_cases h3 : l < 0 ∨ 255 < l ∨ n < 0 ∨ 255 < n
  · rw [if_pos h3] at h; cases h
  rw [if_neg h3] at h
  by_cases h4 : k = 6 ∧ (o < 1 ∨ 7 < o)
  · rw [if_pos h4] at h; cases h
  rw [if_neg h4] at h
  by_cases h5 : 200 < vs.length ∨ 32 < ks.length
  · rw [if_pos h5] at h; cases h
  rw [if_neg h5] at h
  by_cases h6 : vok f = false ∨ vs.all vok = false ∨ ks.all vok = false
  · rw [if_pos h6] at h; cases h
  cases e : vs.all vok with
  | true => rfl
  | false => exact absurd (.inr (.inl e)) h6
theorem chk_len {a : Ac} (h : chkA a = 0) : a.vs.length ≤ 200 ∧ a.ks.length ≤ 32 := by
  unfold chkA at h
  by_cases h1 : kOk a = false ∨ restOf a ≠ AcB a.k
  · rw [if_pos h1] at h; cases h
  rw [if_neg h1] at h
  by_cases h2 : a.k = 2 ∧ a.vs.length ≠ 1
  · rw [if_pos h2] at h; cases h
  rw [if_neg h2] at h
  by_cases h3 : a.l < 0 ∨ 255 < a.l ∨ a.n < 0 ∨ 255 < a.n
  · rw [if_pos h3] at h; cases h
  rw [if_neg h3] at h
  by_cases h4 : a.k = 6 ∧ (a.o < 1 ∨ 7 < a.o)
  · rw [if_pos h4] at h; cases h
  rw [if_neg h4] at h
  by_cases h5 : 200 < a.vs.length ∨ 32 < a.ks.length
  · rw [if_pos h5] at h; cases h
  omega
theorem vok_zero : vok V.zero = true := by decide +kernel
theorem vok_x : vok ⟨3, 0, 0, cut ⟨#[120]⟩, 0⟩ = true := by decide +kernel
theorem chk_of {a : Ac} (h1 : kOk a = true) (h2 : restOf a = AcB a.k) (h3 : ¬ (a.k = 2 ∧ a.vs.length ≠ 1)) (h4 : 0 ≤ a.l ∧ a.l ≤ 255 ∧ 0 ≤ a.n ∧ a.n ≤ 255) (h5 : a.k ≠ 6) (h6 : a.vs.length ≤ 200 ∧ a.ks.length ≤ 32) (h7 : vok a.f = true ∧ a.vs.all vok = true ∧ a.ks.all vok = true) (h8 : a.s.size ≤ 65536) : chkA a = 0 := by
  unfold chkA
  rw [if_neg (by rw [h1]; simp [h2]), if_neg h3, if_neg (by omega), if_neg (fun h => h5 h.1), if_neg (by omega), if_neg (by rw [h7.1, h7.2.1, h7.2.2]; simp), if_neg (by omega)]
theorem vAct_chk {f : V} {vs : List V} {nx lv : Int} (hf : vok f = true) (hv : vs.all vok = true) (hn : 0 ≤ nx ∧ nx ≤ 255) (hl : 0 ≤ lv ∧ lv ≤ 255) (h0 : 0 < vs.length) (h32 : vs.length ≤ 32) (j : Nat) (hj : j < 6) : chkA (vAct f vs nx lv j) = 0 := by
  have hv0 : vok (vAt vs 0) = true := by
    have hm : vAt vs 0 ∈ vs := by
      unfold vAt
      rw [List.getD_eq_getElem?_getD, List.getElem?_eq_getElem h0]
      exact List.getElem_mem h0
    exact List.all_eq_true.1 hv _ hm
  have e0 : (⟨#[]⟩ : ByteArray).size ≤ 65536 := by decide
  match j, hj with
  | 0, _ => exact chk_of (by simp [kOk, vAct]) (by simp [restOf, vAct, AcB]) (by simp [vAct]) (by simp [vAct]) (by simp [vAct]) (by simp [vAct]; omega) (by simp only [vAct]; exact ⟨vok_zero, hv, rfl⟩) e0
  | 1, _ => exact chk_of (by simp [kOk, vAct]) (by simp [restOf, vAct, AcB]) (by simp [vAct]) (by simp only [vAct]; omega) (by simp [vAct]) (by simp [vAct]) (by simp only [vAct]; exact ⟨vok_zero, by simp [hv0], rfl⟩) e0
  | 2, _ => exact chk_of (by simp [kOk, vAct]) (by simp [restOf, vAct, AcB]) (by simp [vAct]) (by simp [vAct]) (by simp [vAct]) (by simp [vAct]) (by simp only [vAct]; exact ⟨vok_zero, by simp [vok_x], rfl⟩) e0
  | 3, _ => exact chk_of (by simp [kOk, vAct]) (by simp [restOf, vAct, AcB]) (by simp [vAct]) (by simp only [vAct]; omega) (by simp [vAct]) (by simp only [vAct]; omega) (by simp only [vAct]; exact ⟨hf, hv, hv⟩) e0
  | 4, _ => exact chk_of (by simp [kOk, vAct]) (by simp [restOf, vAct, AcB]) (by simp [vAct]) (by simp only [vAct]; omega) (by simp [vAct]) (by simp only [vAct]; omega) (by simp only [vAct]; exact ⟨hf, hv, hv⟩) e0
  | 5, _ => exact chk_of (by simp [kOk, vAct]) (by simp [restOf, vAct, AcB]) (by simp [vAct]) (by simp only [vAct]; omega) (by simp [vAct]) (by simp only [vAct]; omega) (by simp only [vAct]; exact ⟨vok_zero, hv, hv⟩) e0
/-- An action with the slices of its lists. -/
structure AS where
  a : Ac
  A : Option Addr
  c : Nat
  B : Option Addr
  d : Nat
def AS.cs (x : AS) : List Value := Ac.cs x.a.k x.a.o x.a.f (.slice x.A x.a.vs.length x.c) x.a.s x.a.l x.a.n (.slice x.B x.a.ks.length x.d)
theorem AS.cs_len (x : AS) : x.cs.length = 12 := rfl
def AS.own (w0 w : World) (x : AS) : Prop := OwnR w0 w 25 5 (.slice x.A x.a.vs.length x.c) x.a.vs.length (x.a.vs.flatMap V.cs) ∧ OwnR w0 w 25 5 (.slice x.B x.a.ks.length x.d) x.a.ks.length (x.a.ks.flatMap V.cs)
theorem AS.own.none_ {w0 w w' : World} {x : AS} (h : x.own w0 w) (hc : Chg (fun _ => False) w w') : x.own w0 w' := ⟨h.1.none_ hc, h.2.none_ hc⟩
theorem AS.own.base {w0 w1 w : World} {x : AS} (h : x.own w1 w) (hb : w0.heap.size ≤ w1.heap.size) : x.own w0 w := ⟨h.1.base hb, h.2.base hb⟩
theorem AS.own.put {w0 w w' : World} {x : AS} {g : Nat} (h : x.own w0 w) (hc : Chg (fun k => k = g) w w') (hg : g < w0.heap.size) : x.own w0 w' :=
  ⟨h.1.chg hc fun k hk e => by have := h.1.lo k hk; omega, h.2.chg hc fun k hk e => by have := h.2.lo k hk; omega⟩
/-- Six actions in block M. -/
def SixS (w0 w : World) (M : Nat) (F : Nat → Ac) (x0 x1 x2 x3 x4 x5 : AS) : Prop :=
  Bk w M 28 ([x0, x1, x2, x3, x4, x5].flatMap AS.cs) ∧ (x0.a = F 0 ∧ x1.a = F 1 ∧ x2.a = F 2 ∧ x3.a = F 3 ∧ x4.a = F 4 ∧ x5.a = F 5) ∧ x0.own w0 w ∧ x1.own w0 w ∧ x2.own w0 w ∧ x3.own w0 w ∧ x4.own w0 w ∧ x5.own w0 w
theorem SixS.none_ {w0 w w' : World} {M : Nat} {F : Nat → Ac} {x0 x1 x2 x3 x4 x5 : AS} (h : SixS w0 w M F x0 x1 x2 x3 x4 x5) (hc : Chg (fun _ => False) w w') : SixS w0 w' M F x0 x1 x2 x3 x4 x5 := by
  obtain ⟨h1, h2, g0, g1, g2, g3, g4, g5⟩ := h
  exact ⟨h1.none_ hc, h2, g0.none_ hc, g1.none_ hc, g2.none_ hc, g3.none_ hc, g4.none_ hc, g5.none_ hc⟩
theorem SixS.put {w0 w w' : World} {M g : Nat} {F : Nat → Ac} {x0 x1 x2 x3 x4 x5 : AS} (h : SixS w0 w M F x0 x1 x2 x3 x4 x5) (hc : Chg (fun k => k = g) w w') (hg : g < w0.heap.size) (hM : M ≠ g) : SixS w0 w' M F x0 x1 x2 x3 x4 x5 := by
  obtain ⟨h1, h2, g0, g1, g2, g3, g4, g5⟩ := h
  exact ⟨h1.chg hc hM, h2, g0.put hc hg, g1.put hc hg, g2.put hc hg, g3.put hc hg, g4.put hc hg, g5.put hc hg⟩
/-- The j-th of them. -/
theorem SixS.at_ {w0 w : World} {M : Nat} {F : Nat → Ac} {x0 x1 x2 x3 x4 x5 : AS} (h : SixS w0 w M F x0 x1 x2 x3 x4 x5) {j : Nat} (hj : j < 6) :
    ∃ x : AS, x.a = F j ∧ x.own w0 w ∧ ∀ i, i < 12 → w.cell? ⟨M, j * 12 + i, none⟩ = x.cs[i]? := by
  obtain ⟨h1, ⟨e0, e1, e2, e3, e4, e5⟩, g0, g1, g2, g3, g4, g5⟩ := h
  have hc : ∀ x, [x0, x1, x2, x3, x4, x5][j]? = some x → ∀ i, i < 12 → w.cell? ⟨M, j * 12 + i, none⟩ = x.cs[i]? := fun x hx i hi => by
    rw [h1.cell, flat_at AS.cs 12 AS.cs_len _ _ _ hi, hx]; rfl
  match j, hj with
  | 0, _ => exact ⟨x0, e0, g0, hc x0 rfl⟩
  | 1, _ => exact ⟨x1, e1, g1, hc x1 rfl⟩
  | 2, _ => exact ⟨x2, e2, g2, hc x2 rfl⟩
  | 3, _ => exact ⟨x3, e3, g3, hc x3 rfl⟩
  | 4, _ => exact ⟨x4, e4, g4, hc x4 rfl⟩
  | 5, _ => exact ⟨x5, e5, g5, hc x5 rfl⟩
/-- Twelve cells of a block. -/
def Cells12 (w : World) (M j : Nat) (x : AS) : Prop := M < w.heap.size ∧ ∀ i, i < 12 → w.cell? ⟨M, j * 12 + i, none⟩ = x.cs[i]?
theorem Cells12.none_ {w w' : World} {M j : Nat} {x : AS} (h : Cells12 w M j x) (hc : Chg (fun _ => False) w w') : Cells12 w' M j x :=
  ⟨Nat.lt_of_lt_of_le h.1 hc.size, fun i hi => (hc.cell (p := ⟨M, j * 12 + i, none⟩) h.1 id).trans (h.2 i hi)⟩
theorem Cells12.box {w : World} {M j : Nat} {x : AS} (h : Cells12 w M j x) : w.cell? ⟨M, j * 12, none⟩ = some (.int .i64 x.a.k) ∧ w.cell? ⟨M, j * 12 + 1, none⟩ = some (.int .i64 x.a.o) ∧ w.cell? ⟨M, j * 12 + 2, none⟩ = some (.int .i64 x.a.f.k) ∧ w.cell? ⟨M, j * 12 + 3, none⟩ = some (.int .i64 x.a.f.p) ∧
    w.cell? ⟨M, j * 12 + 4, none⟩ = some (.int .i64 x.a.f.q) ∧ w.cell? ⟨M, j * 12 + 5, none⟩ = some (.string x.a.f.s) ∧ w.cell? ⟨M, j * 12 + 6, none⟩ = some (.int .i64 x.a.f.r) ∧ w.cell? ⟨M, j * 12 + 7, none⟩ = some (.slice x.A x.a.vs.length x.c) ∧
    w.cell? ⟨M, j * 12 + 8, none⟩ = some (.string x.a.s) ∧ w.cell? ⟨M, j * 12 + 9, none⟩ = some (.int .i64 x.a.l) ∧ w.cell? ⟨M, j * 12 + 10, none⟩ = some (.int .i64 x.a.n) ∧ w.cell? ⟨M, j * 12 + 11, none⟩ = some (.slice x.B x.a.ks.length x.d) :=
  ⟨h.2 0 (by omega), h.2 1 (by omega), h.2 2 (by omega), h.2 3 (by omega), h.2 4 (by omega), h.2 5 (by omega), h.2 6 (by omega), h.2 7 (by omega), h.2 8 (by omega), h.2 9 (by omega), h.2 10 (by omega), h.2 11 (by omega)⟩
end Go.Proofs.Ytkkocoalildgnaa
