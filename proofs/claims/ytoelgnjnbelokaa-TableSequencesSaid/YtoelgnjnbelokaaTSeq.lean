/-
  A sequence in a table: appended, inserted into, removed from.
-/
import Derived.Test.YtoelgnjnbelokaaTBord
namespace Go.Proofs.Ytoelgnjnbelokaa
open Go.RowKit Go.Maps

section
variable {a : List V}
theorem add_nil {v : V} {a' : List V} {m' : List Sl} (h : AddR [] a v a' m') : a' = a ++ [v] ∧ m' = [] := by
  have hp : AddP [] a v (a ++ [v]) := ⟨by simp, List.take_of_length_le (by simp), fun i h1 h2 => by simp at h2; omega, rfl⟩
  refine ⟨h.add.det hp, ?_⟩
  rcases h.map with ⟨h, -⟩ | h
  · exact h
  · rw [h]; rfl
theorem SetR.next_nil {v : V} {e : Int} {a' : List V} {m' : List Sl} (h : SetR a [] (kI ((a.length : Int) + 1)) v e a' m') (hb : a.length ≤ 1000) :
    (e = 2 ∧ vok v = false ∧ a' = a ∧ m' = []) ∨ (e = 0 ∧ vok v = true ∧ v.k ≠ 0 ∧ a' = a ++ [v] ∧ m' = []) ∨ (e = 0 ∧ vok v = true ∧ v.k = 0 ∧ a' = a ∧ m' = []) := by
  have hi := (isI_kI (n := (a.length : Int) + 1) (by omega) (by omega)).2
  cases h with
  | badKey h =>
    rw [hi] at h
    unfold kI at h
    simp at h
  | badVal h hv => exact .inl ⟨rfl, hv, rfl, rfl⟩
  | here i hi' hk hv =>
    have := kI_inj hk
    omega
  | add hk hv hv0 h =>
    obtain ⟨rfl, rfl⟩ := add_nil h
    exact .inr (.inl ⟨rfl, hv, hv0, rfl, rfl⟩)
  | map hk hv hin hnx h =>
    have hv0 : v.k = 0 := Classical.byContradiction fun e => hnx ⟨rfl, e⟩
    unfold setM at h
    rw [if_neg hk, if_neg (by rw [hv]; simp)] at h
    have ht : thereM [] (kI ((a.length : Int) + 1)) = none := rfl
    rw [ht] at h
    simp only at h
    rw [if_pos hv0] at h
    injection h with h1 h2
    exact .inr (.inr ⟨h1.symm, hv, hv0, rfl, h2.symm⟩)
/-- A value put among the others. -/
def insA (a : List V) (i : Nat) (v : V) : List V := a.take i ++ v :: a.drop i
theorem insA_len {i : Nat} {v : V} (hi : i ≤ a.length) : (insA a i v).length = a.length + 1 := by
  unfold insA
  rw [List.length_append, List.length_cons, List.length_take, List.length_drop]
  omega
theorem take_lastV {l : List V} {q : Nat} (h : l.length = q + 1) : l.take q ++ [vAt l q] = l := by
  have h1 : l.take (q + 1) = l := List.take_of_length_le (by omega)
  rw [List.take_add_one, vAt_get l q (by omega)] at h1
  exact h1
theorem ins_mid {i : Nat} {v : V} (hi : i < a.length) {a' : List V} {m' : List Sl} (h : AddR [] (a.take i ++ (v :: (a.drop i).take (a.length - (i + 1)))) (vAt a (a.length - 1)) a' m') : a' = insA a i v ∧ m' = [] := by
  obtain ⟨rfl, rfl⟩ := add_nil h
  refine ⟨?_, rfl⟩
  have h1 := take_lastV (l := a.drop i) (q := a.length - (i + 1)) (by rw [List.length_drop]; omega)
  have h2 : vAt (a.drop i) (a.length - (i + 1)) = vAt a (a.length - 1) := by
    unfold vAt
    rw [List.getD_eq_getElem?_getD, List.getD_eq_getElem?_getD, List.getElem?_drop]
    congr 2
    omega
  rw [h2] at h1
  unfold insA
  rw [List.append_assoc, List.cons_append, h1]
theorem insA_end {v : V} : insA a a.length v = a ++ [v] := by
  unfold insA
  rw [List.take_length, List.drop_length]
theorem insA_at {i : Nat} {v : V} (hi : i ≤ a.length) : vAt (insA a i v) i = v := by
  unfold insA vAt
  rw [List.getD_eq_getElem?_getD, List.getElem?_append_right (by rw [List.length_take]; omega), List.length_take, show i - min i a.length = 0 by omega]
  rfl
theorem insA_lo {i c : Nat} {v : V} (hi : i ≤ a.length) (hc : c < i) : vAt (insA a i v) c = vAt a c := by
  unfold insA vAt
  rw [List.getD_eq_getElem?_getD, List.getElem?_append_left (by rw [List.length_take]; omega), List.getElem?_take_of_lt hc, List.getD_eq_getElem?_getD]
theorem insA_hi {i c : Nat} {v : V} (hi : i ≤ a.length) (hc : i ≤ c) : vAt (insA a i v) (c + 1) = vAt a c := by
  unfold insA vAt
  rw [List.getD_eq_getElem?_getD, List.getElem?_append_right (by rw [List.length_take]; omega), List.length_take, show c + 1 - min i a.length = (c - i) + 1 by omega, List.getElem?_cons_succ, List.getElem?_drop, List.getD_eq_getElem?_getD]
  congr 2
  omega
theorem insA_erase {i : Nat} {v : V} (hi : i ≤ a.length) : (insA a i v).eraseIdx i = a := by
  unfold insA
  rw [List.eraseIdx_append_of_length_le (by rw [List.length_take]; omega), List.length_take, show i - min i a.length = 0 by omega, List.eraseIdx_cons_zero, List.take_append_drop]
theorem shrink_back (hf : ∀ i, i < a.length → (vAt a i).k ≠ 0) : shrinkA (a ++ [V.zero]) = a := by
  have h1 : shrinkN (a ++ [V.zero]) (a.length + 1) = a.length := by
    unfold shrinkN
    rw [if_pos (by rw [vAt_app_eq]; rfl)]
    cases hl : a.length with
    | zero => rfl
    | succ n =>
      unfold shrinkN
      rw [if_neg]
      rw [vAt_app_lt (by omega)]
      exact hf n (by omega)
  unfold shrinkA
  rw [List.length_append, List.length_singleton, h1, List.take_left']
  rfl
end
theorem row5_none {w w' : World} {b p : Nat} {x : V} (h : w.cell? ⟨b, p, none⟩ = some (.int .i64 x.k) ∧ w.cell? ⟨b, p + 1, none⟩ = some (.int .i64 x.p) ∧ w.cell? ⟨b, p + 2, none⟩ = some (.int .i64 x.q) ∧ w.cell? ⟨b, p + 3, none⟩ = some (.string x.s) ∧ w.cell? ⟨b, p + 4, none⟩ = some (.int .i64 x.r) ∧ b < w.heap.size) (hc : Chg (fun _ => False) w w') :
    w'.cell? ⟨b, p, none⟩ = some (.int .i64 x.k) ∧ w'.cell? ⟨b, p + 1, none⟩ = some (.int .i64 x.p) ∧ w'.cell? ⟨b, p + 2, none⟩ = some (.int .i64 x.q) ∧ w'.cell? ⟨b, p + 3, none⟩ = some (.string x.s) ∧ w'.cell? ⟨b, p + 4, none⟩ = some (.int .i64 x.r) ∧ b < w'.heap.size := by
  obtain ⟨c0, c1, c2, c3, c4, c5⟩ := h
  exact ⟨(hc.cell (p := ⟨b, p, none⟩) c5 id).trans c0, (hc.cell (p := ⟨b, p + 1, none⟩) c5 id).trans c1, (hc.cell (p := ⟨b, p + 2, none⟩) c5 id).trans c2, (hc.cell (p := ⟨b, p + 3, none⟩) c5 id).trans c3, (hc.cell (p := ⟨b, p + 4, none⟩) c5 id).trans c4, Nat.lt_of_lt_of_le c5 hc.size⟩
section
variable {w w' : World} {N o M : Nat} {a : List V}
theorem seq_ins (h : Tab w (fun _ => False) N o M a []) (hN : N ≤ w.heap.size) (hb : a.length ≤ 100) (hM : M ≤ 90000000) (hf : ∀ i, i < a.length → (vAt a i).k ≠ 0) {v : V} (hv : vok v = true) {i : Nat} (hi : i ≤ a.length) :
    Calls Try.prog 15 #[.pointer (some ⟨o, 0, none⟩), .int .i64 ((i : Int) + 1), (.agg #[.int .i64 v.k, .int .i64 v.p, .int .i64 v.q, .string v.s, .int .i64 v.r])] w fun e w' => e = .returned (.int .i64 0) ∧ (∃ a', Tab w' (fun _ => False) N o (M + 400000) a' [] ∧ a'.length ≤ 101 ∧ getT a' [] (kI ((i : Int) + 1)) = v ∧ (v.k ≠ 0 → a' = insA a i v)) ∧ Chg (fun k => False ∨ N ≤ k) w w' := by
  have hg : ∀ a' : List V, a' = insA a i v → getT a' [] (kI ((i : Int) + 1)) = v := fun a' e => by
    have hl := insA_len (v := v) hi
    have := getT_kI (a := insA a i v) (m := []) (i := i + 1) (by omega) (by omega) (by omega)
    rw [Nat.add_sub_cancel, insA_at hi] at this
    rw [e, show (i : Int) + 1 = ((i + 1 : Nat) : Int) by omega]
    exact this
  by_cases hlt : i < a.length
  · refine (t_insert_mid h hN (by simp; omega) (by simp) hlt hv (hf _ (by omega))).mono ?_
    rintro e w' ⟨rfl, ⟨a', m', h1, h2⟩, hc⟩
    obtain ⟨rfl, rfl⟩ := ins_mid hlt h1
    exact ⟨rfl, ⟨_, h2, by rw [insA_len hi]; omega, hg _ rfl, fun _ => rfl⟩, hc⟩
  · obtain rfl : i = a.length := by omega
    refine (t_insert_end h (by omega) hv rfl (R := fun x w' => x = 0 ∧ (∃ a', Tab w' (fun _ => False) N o (M + 400000) a' [] ∧ a'.length ≤ 101 ∧ getT a' [] (kI ((a.length : Int) + 1)) = v ∧ (v.k ≠ 0 → a' = insA a a.length v)) ∧ Chg (fun k => False ∨ N ≤ k) w w') (fun W hW => ?_)).mono ?_
    · refine (t_set (h.none_ hW) (Nat.le_trans hN hW.size) (by simp; omega) (by simp) (by omega) (kI_wf (by omega) (by omega))).mono ?_
      rintro e w' ⟨x, a', m', rfl, h1, h2, hc⟩
      refine ⟨x, rfl, ?_⟩
      have hcc := (hW.mono (T := fun k => False ∨ N ≤ k) fun _ _ h => h.elim).trans_same hc
      rcases h1.next_nil (by omega) with ⟨-, h3, -, -⟩ | ⟨rfl, h3, h4, rfl, rfl⟩ | ⟨rfl, h3, h4, rfl, rfl⟩
      · rw [hv] at h3; cases h3
      · exact ⟨rfl, ⟨_, h2, by simp; omega, hg _ insA_end.symm, fun _ => insA_end.symm⟩, hcc⟩
      · refine ⟨rfl, ⟨_, h2, by omega, ?_, fun e => absurd h4 e⟩, hcc⟩
        have hz := zero_of_kind hv h4
        rw [hz, getT_no (isI_kI (by omega) (by omega)).2 (by
          cases hx : inN a'.length (kI ((a'.length : Int) + 1)) with
          | false => rfl
          | true =>
            have := (inN_iff.1 hx).2.2
            unfold kI at this
            simp only at this
            omega)]
        rfl
    · rintro e w' ⟨x, rfl, rfl, h1, h2⟩
      exact ⟨rfl, h1, h2⟩
end
end Go.Proofs.Ytoelgnjnbelokaa
