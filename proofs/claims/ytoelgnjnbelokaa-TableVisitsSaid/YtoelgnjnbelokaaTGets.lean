/-
  What a script of Set leaves for a key, and the error of each Set.
-/
import Derived.Test.YtoelgnjnbelokaaTOps
namespace Go.Proofs.Ytoelgnjnbelokaa
open Go.RowKit Go.Maps

section
variable {a : List V} {m : List Sl}
theorem SetR.err {k v : V} {e : Int} {a' : List V} {m' : List Sl} (h : SetR a m k v e a' m') (hb : a.length ≤ 1000000) :
    ((k.k = 0 ∨ vok k = false) ∧ e = 13) ∨ (¬ (k.k = 0 ∨ vok k = false) ∧ vok v = false ∧ e = 2) ∨ (¬ (k.k = 0 ∨ vok k = false) ∧ vok v = true ∧ e = 0) := by
  have hi : ∀ n : Int, -2147483647 ≤ n → n ≤ 2147483647 → ¬ ((kI n).k = 0 ∨ vok (kI n) = false) := fun n h1 h2 => by
    rw [(isI_kI h1 h2).2]
    unfold kI
    simp
  cases h with
  | badKey h => exact .inl ⟨h, rfl⟩
  | badVal h hv => exact .inr (.inl ⟨h, hv, rfl⟩)
  | here i hi' hk hv => exact .inr (.inr ⟨by rw [hk]; exact hi _ (by omega) (by omega), hv, rfl⟩)
  | add hk hv hv0 h => exact .inr (.inr ⟨by rw [hk]; exact hi _ (by omega) (by omega), hv, rfl⟩)
  | map hk hv hin hnx h =>
    have hkv : vok k = true := by cases e : vok k with | true => rfl | false => exact absurd (.inr e) hk
    have he := setM_ok (L := m) ⟨hkv, fun e => hk (.inl e)⟩ hv
    rw [h] at he
    exact .inr (.inr ⟨hk, hv, he⟩)
theorem SetR.bnd {k v : V} {e : Int} {a' : List V} {m' : List Sl} (I : TInv a m) (h : SetR a m k v e a' m') (hb : a.length + nOf m ≤ 1000) : a'.length ≤ 1000000 := by
  have := (h.len I.inv (by omega)).1
  omega
theorem SetR.get {k v : V} {e : Int} {a' : List V} {m' : List Sl} (I : TInv a m) (h : SetR a m k v e a' m') (hb : a.length + nOf m ≤ 1000) (k' : V) :
    getT a' m' k' = if e = 0 ∧ k' = k then v else getT a m k' := by
  by_cases hk : vok k' = true
  · exact (h.law I (by omega) (h.bnd I hb)).2 k' hk
  · have hk' : vok k' = false := by simpa using hk
    rw [getT_bad hk', getT_bad hk']
    by_cases hc : e = 0 ∧ k' = k
    · exfalso
      rcases h.err (by omega) with ⟨-, h1⟩ | ⟨-, -, h1⟩ | ⟨h1, -, -⟩
      · omega
      · omega
      · exact h1 (.inr (by rw [← hc.2]; exact hk'))
    · rw [if_neg hc]
end
/-- The cells of a script's call. -/
def OpC (w : World) (b p : Nat) (x : OpV) : Prop := b < w.heap.size ∧ ∀ i, i < 12 → w.cell? ⟨b, p + i, none⟩ = x.cs[i]?
section
variable {w w' : World} {b p : Nat} {x : OpV}
theorem OpC.chg {S : Nat → Prop} (h : OpC w b p x) (hc : Chg S w w') (hS : ¬ S b) : OpC w' b p x :=
  ⟨Nat.lt_of_lt_of_le h.1 hc.size, fun i hi => (hc.cell (p := ⟨b, p + i, none⟩) h.1 hS).trans (h.2 i hi)⟩
theorem OpC.none_ (h : OpC w b p x) (hc : Chg (fun _ => False) w w') : OpC w' b p x := h.chg hc id
theorem OpC.cells (h : OpC w b p x) : b < w.heap.size ∧ w.cell? ⟨b, p, none⟩ = some (.int .i64 x.kd) ∧ w.cell? ⟨b, p + 1, none⟩ = some (.int .i64 x.at_) ∧ w.cell? ⟨b, p + 2, none⟩ = some (.int .i64 x.k.k) ∧ w.cell? ⟨b, p + 3, none⟩ = some (.int .i64 x.k.p) ∧ w.cell? ⟨b, p + 4, none⟩ = some (.int .i64 x.k.q) ∧
    w.cell? ⟨b, p + 5, none⟩ = some (.string x.k.s) ∧ w.cell? ⟨b, p + 6, none⟩ = some (.int .i64 x.k.r) ∧ w.cell? ⟨b, p + 7, none⟩ = some (.int .i64 x.v.k) ∧ w.cell? ⟨b, p + 8, none⟩ = some (.int .i64 x.v.p) ∧ w.cell? ⟨b, p + 9, none⟩ = some (.int .i64 x.v.q) ∧ w.cell? ⟨b, p + 10, none⟩ = some (.string x.v.s) ∧ w.cell? ⟨b, p + 11, none⟩ = some (.int .i64 x.v.r) :=
  ⟨h.1, h.2 0 (by omega), h.2 1 (by omega), h.2 2 (by omega), h.2 3 (by omega), h.2 4 (by omega), h.2 5 (by omega), h.2 6 (by omega), h.2 7 (by omega), h.2 8 (by omega), h.2 9 (by omega), h.2 10 (by omega), h.2 11 (by omega)⟩
theorem OpsRd.at_ {A : Option Addr} {l : List OpV} (h : OpsRd w A l) {j : Nat} (hj : j < l.length) : ∃ x b o, A = some ⟨b, o, none⟩ ∧ l.getD j OpV.zero = x ∧ x ∈ l ∧ x.k.wf ∧ OpC w b (o + j * 12) x := by
  obtain ⟨x, b, o, rfl, hb, hm, hx, hc⟩ := op_at h hj
  exact ⟨x, b, o, rfl, hx, hm, (h.2 x hm).1, hb, hc⟩
theorem ref_valid_eq {v : V} {b : Bool} (hb : vok v = b) : Calls Try.prog 23 #[(.agg #[.int .i64 v.k, .int .i64 v.p, .int .i64 v.q, .string v.s, .int .i64 v.r])] w fun e w' => e = .returned (.bool b) ∧ Chg (fun _ => False) w w' := by subst hb; exact doc_valid w v
end
end Go.Proofs.Ytoelgnjnbelokaa
