/-
  A row of values that may have fewer places than its block: what is appended, stored and cut off.
-/
import Derived.Test.YtoelgnjnbelokaaAcc
import Derived.Test.YtoelgnjnbelokaaLift
namespace Go.Proofs.Ytoelgnjnbelokaa
open Go.RowKit

theorem flat_takeV (rs : List V) (m : Nat) : (rs.flatMap V.cs).take (m * 5) = (rs.take m).flatMap V.cs := by
  induction rs generalizing m with
  | nil => simp
  | cons x l ih =>
    cases m with
    | zero => simp
    | succ m =>
      rw [List.take_succ_cons, List.flatMap_cons, List.flatMap_cons, ← ih m, List.take_append, V.cs_len, List.take_of_length_le (by rw [V.cs_len]; omega)]
      congr 2
      omega
/-- v is a slice of the call's own with the values rs. -/
def LRow (w : World) (v : Value) (rs : List V) : Prop :=
  (v = .slice none 0 0 ∧ rs = []) ∨ ∃ g cap cur, v = .slice (some ⟨g, 0, none⟩) rs.length cap ∧ Bk w g 26 cur ∧ rs.length ≤ cap ∧ cap ≤ maxLen ∧ cap * 5 ≤ cur.length ∧ cur.take (rs.length * 5) = rs.flatMap V.cs
section
variable {w w' : World} {v : Value} {rs : List V} {S : Nat → Prop}
theorem LRow.chg (h : LRow w v rs) (hc : Chg S w w') (hn : ∀ k, v.ownBlock = some k → ¬ S k) : LRow w' v rs := by
  rcases h with h | ⟨g, cap, cur, rfl, h1, h2⟩
  · exact .inl h
  · exact .inr ⟨g, cap, cur, rfl, h1.chg hc (hn g rfl), h2⟩
theorem LRow.none_ (h : LRow w v rs) (hc : Chg (fun _ => False) w w') : LRow w' v rs := h.chg hc fun _ _ h => h
theorem LRow.lt (h : LRow w v rs) {k : Nat} (hk : v.ownBlock = some k) : k < w.heap.size := by
  rcases h with ⟨rfl, _⟩ | ⟨g, cap, cur, rfl, h1, h2⟩
  · simp [Value.ownBlock] at hk
  · obtain rfl : g = k := by simpa [Value.ownBlock] using hk
    exact h1.lt
theorem LRow.nil (w : World) : LRow w (.slice none 0 0) [] := .inl ⟨rfl, rfl⟩
/-- The slice's form, and what is read. -/
theorem LRow.form (h : LRow w v rs) : ∃ A cap, v = .slice A rs.length cap ∧ rs.length ≤ cap ∧ cap ≤ maxLen ∧ Vs w A rs ∧ (0 < rs.length → ∃ g, A = some ⟨g, 0, none⟩) ∧ ∀ g, A = some ⟨g, 0, none⟩ → (∀ j, w.frozen? ⟨g, j, none⟩ = false) ∧ g < w.heap.size := by
  rcases h with ⟨rfl, rfl⟩ | ⟨g, cap, cur, rfl, h1, h2, h3, h4, h5⟩
  · exact ⟨none, 0, rfl, Nat.le_refl _, by unfold maxLen; omega, ⟨by simp, fun h => absurd h (by simp)⟩, fun h => absurd h (by simp), fun g hg => by cases hg⟩
  · refine ⟨some ⟨g, 0, none⟩, cap, rfl, h2, h3, ⟨flat_len V.cs 5 V.cs_len rs, fun h0 => ⟨g, 0, rfl, h1.lt, fun j hj => ?_⟩⟩, fun _ => ⟨g, rfl⟩, fun g' hg' => ?_⟩
    · rw [Nat.zero_add, h1.cell, ← h5, List.getElem?_take_of_lt hj]
    · injection hg' with hg'
      injection hg' with hg' _ _
      subst hg'
      exact ⟨fun j => h1.frozen j, h1.lt⟩
theorem LRow.block_ne {g : Nat} {t : TypeId} {cs : List Value} (h : LRow w v rs) (hb : Bk w g t cs) (ht : t ≠ 26) : v.ownBlock ≠ some g := by
  rcases h with ⟨rfl, _⟩ | ⟨g', cap, cur, rfl, h1, h2⟩
  · simp [Value.ownBlock]
  · intro hk
    obtain rfl : g' = g := by simpa [Value.ownBlock] using hk
    exact h1.ne hb (Ne.symm ht) rfl
theorem LRow.of_own {n : Nat} (h : w.ownsRow 0 26 5 v n (rs.flatMap V.cs)) (hn : rs.length = n) : LRow w v rs := by
  subst hn
  rcases h.2 with ⟨rfl, h0⟩ | ⟨g, cap, cur, rfl, _, hg, h1, h2, h3, h4⟩
  · exact .inl ⟨rfl, List.eq_nil_of_length_eq_zero h0⟩
  · exact .inr ⟨g, cap, cur.toList, rfl, by unfold Bk; simpa using hg, h1, h2, by simp [h3], h4⟩
/-- One value of the row is stored. -/
theorem LRow.put {g cap : Nat} {A : Option Addr} {n : Nat} (h : LRow w (.slice A n cap) rs) (hA : A = some ⟨g, 0, none⟩) {i : Nat} (hi : i < rs.length) (x : V) : LRow (put5 w g (i * 5) x) (.slice A n cap) (rs.set i x) := by
  subst hA
  rcases h with ⟨h0, _⟩ | ⟨g', cap', cur, e, h1, h2, h3, h4, h5⟩
  · injection h0 with h0; cases h0
  · injection e with e1 e2 e3
    injection e1 with e1
    injection e1 with e1
    subst e1 e2 e3
    refine .inr ⟨g, cap, _, by rw [List.length_set], ((((h1.set_ (i * 5) (.int .i64 x.k)).set_ (i * 5 + 1) (.int .i64 x.p)).set_ (i * 5 + 2) (.int .i64 x.q)).set_ (i * 5 + 3) (.string x.s)).set_ (i * 5 + 4) (.int .i64 x.r), by rw [List.length_set]; exact h2, h3, by simpa using h4, ?_⟩
    rw [List.length_set, List.take_set, List.take_set, List.take_set, List.take_set, List.take_set, h5]
    exact setV5 rs i x hi
/-- The front of the row, with no more places. -/
theorem LRow.cut {cap : Nat} {A : Option Addr} {n : Nat} (h : LRow w (.slice A n cap) rs) {m : Nat} (hm : m ≤ rs.length) (h0 : A ≠ none) : LRow w (.slice A m m) (rs.take m) := by
  rcases h with ⟨e, _⟩ | ⟨g', cap', cur, e, h1, h2, h3, h4, h5⟩
  · injection e with e; exact absurd e h0
  · injection e with e1 e2 e3
    subst e1 e2 e3
    have hl : (rs.take m).length = m := by rw [List.length_take]; omega
    refine .inr ⟨g', m, cur, by rw [hl], h1, by rw [hl]; exact Nat.le_refl _, by omega, by have := Nat.mul_le_mul_right 5 (Nat.le_trans hm h2); omega, ?_⟩
    rw [hl, ← flat_takeV rs m, ← h5, List.take_take, Nat.min_eq_left (Nat.mul_le_mul_right 5 hm)]
end
section
variable {P : Program} {ops : Array Oper} {Q : Exit → Act → World → Prop} {a : Act} {w : World} {rest : List Oper} {o : Oper}
theorem zero_cells_list (z : Array Value) (k : Nat) : ∃ l : List Value, (Builtin.zeroCells z k).toList = l ∧ (Builtin.zeroCells z k).size = l.length := ⟨_, rfl, by simp⟩
/-- A value is appended. -/
theorem wpList_append_l (hgd : o.guard = none) (s x : Operand) (t : TypeId) (ho : o.op = .call { callee := .builtin .append, args := #[s, x], argTypes := #[t, t] })
    (i : TypeInfo) (z : Value) (ht : P.underlying t = some (.slice 26)) (hi : P.info? 26 = some i) (hz : i.zero = some z) (hsize : i.size = 5) (hby : i.bytes = 48) (hzs : z.cells.size = 5)
    (v : Value) (rs : List V) (hs : a.eval s = v) (hl : LRow w v rs) (b c : Nat) (y : V) (hx : a.eval x = .slice (some ⟨b, 0, none⟩) 1 c) (hr : Rd w 5 (some ⟨b, 0, none⟩) 1 y.cs) (hn : rs.length ≤ 1000000) (H : Nat) (hH : w.heap.size = H)
    (h : ∀ A' cap' w', LRow w' (.slice A' (rs.length + 1) cap') (rs ++ [y]) → w.grownBy w' v.ownBlock → (∀ k, (Value.slice A' (rs.length + 1) cap').ownBlock = some k → v.ownBlock = some k ∨ k = H) → wpList P ops Q rest (a.put o.dst (.slice A' (rs.length + 1) cap')) w') : wpList P ops Q (o :: rest) a w := by
  subst hH
  refine wpList_plain hgd fun K hK => ?_
  have h1 := V.ones1 y
  have hnl : y.cs.length = 1 * i.size := by rw [hsize]; rfl
  have hnews : ∀ j u, y.cs[j]? = some u → w.cell? ((⟨b, 0, none⟩ : Addr).add j) = some u := rd_cells hr
  have hfl : (rs ++ [y]).flatMap V.cs = rs.flatMap V.cs ++ y.cs := by simp
  have hll : (rs ++ [y]).length = rs.length + 1 := by simp
  have key : ∃ A' cap' w', (Builtin.append_ #[t, t] o.type #[v, .slice (some ⟨b, 0, none⟩) 1 c]).run P w = .ok (.slice A' (rs.length + 1) cap') w' ∧ LRow w' (.slice A' (rs.length + 1) cap') (rs ++ [y]) ∧ w.grownBy w' v.ownBlock ∧
      (∀ k, (Value.slice A' (rs.length + 1) cap').ownBlock = some k → v.ownBlock = some k ∨ k = w.heap.size) := by
    rcases hl with ⟨rfl, rfl⟩ | ⟨g, cap, cur, rfl, hb, hnc, hcm, hcs, htake⟩
    · obtain ⟨v', w', hrun, h2, h3, -, h4⟩ := run_append_own_at (P := P) w 0 t o.type 26 i z 5 48 ht hi hz hsize hby hzs (by omega) (.slice none 0 0) 0 [] (OwnR.nil w w 26 5).own ⟨b, 0, none⟩ 1 c y.cs rfl hnews h1 (by unfold maxLen; omega) (by omega) (Nat.zero_le _)
      rw [Nat.zero_add, List.nil_append] at h2
      obtain ⟨A', cap', rfl, _⟩ := own_form h2
      refine ⟨A', cap', w', hrun, LRow.of_own (rs := [y]) (by simpa using h2) rfl, h3, fun k hk => ?_⟩
      rcases h4 with h4 | h4
      · exact .inl (by rw [← h4]; exact hk)
      · right
        have h5 := hk.symm.trans h4
        injection h5
    · have hcur : w.heap[g]? = some (.cells cur.toArray 26 (0, 0)) := hb
      by_cases hroom : rs.length + 1 ≤ cap
      · have hfit : rs.length * i.size + y.cs.length ≤ cur.toArray.size := by rw [hsize]; simp [V.cs]; omega
        have hrun := run_append_room (P := P) w t o.type 26 i ht hi g rs.length cap cur.toArray hcur ⟨b, 0, none⟩ 1 c y.cs hnl hnews h1 hroom hfit
        refine ⟨_, _, _, hrun, .inr ⟨g, cap, _, by rw [hll], setRow_heap w g cur.toArray _ 26 _ hcur, by rw [hll]; exact hroom, hcm, ?_, ?_⟩, ⟨rfl, rfl, rfl, by simp, fun k _ hk => setRow_other w g k _ (fun e => hk (by simp [Value.ownBlock, e]))⟩, fun k hk => .inl hk⟩
        · rw [hsize]
          simp [V.cs]
          omega
        · rw [hll, hfl, ← htake, hsize]
          have e1 : (cur.take (rs.length * 5) ++ y.cs).length = (rs.length + 1) * 5 := by
            rw [List.length_append, List.length_take, Nat.min_eq_left (by omega)]
            simp [V.cs]
            omega
          rw [← e1]
          exact List.take_left (l₁ := List.take (rs.length * 5) cur ++ y.cs)
      · have holds : ∀ j u, (rs.flatMap V.cs)[j]? = some u → w.cell? ((⟨g, 0, none⟩ : Addr).add j) = some u := fun j u hj => by
          have hlt : j < rs.length * 5 := by have := (List.getElem?_eq_some_iff.1 hj).1; rwa [flat_len V.cs 5 V.cs_len] at this
          rw [add_lit, Nat.zero_add, hb.cell, ← hj, ← htake, List.getElem?_take_of_lt hlt]
        have hrun := run_append_grow (P := P) w t o.type 26 i z ht hi hz ⟨g, 0, none⟩ rs.length cap (rs.flatMap V.cs) (by rw [flat_len V.cs 5 V.cs_len, hsize]) holds ⟨b, 0, none⟩ 1 c y.cs hnl hnews (by omega) (by omega) (growslice_fits (by omega) (by rw [hby]; omega))
        have hge := grownCap_ge w (rs.length + 1) cap 26
        have hcm2 : grownCap w (rs.length + 1) cap 26 ≤ maxLen := grownCap_le_maxLen w (rs.length + 1) cap 26 (by unfold maxLen; omega)
        refine ⟨_, _, _, hrun, .inr ⟨w.heap.size, _, _, by rw [hll], Bk.new_at w.drew 26 _ _ rfl, by rw [hll]; exact hge, hcm2, ?_, ?_⟩, ⟨rfl, rfl, rfl, by simp, fun k hk _ => Below.heap_alloc w.drew _ k hk⟩, fun k hk => .inr (by simpa [Value.ownBlock] using hk.symm)⟩
        · simp only [Array.length_toList, Array.size_append, List.size_toArray, size_zeroCells, hzs, flat_len V.cs 5 V.cs_len, V.cs_len]
          omega
        · rw [hll, hfl]
          have e1 : (rs.flatMap V.cs ++ y.cs).length = (rs.length + 1) * 5 := by rw [List.length_append, flat_len V.cs 5 V.cs_len]; simp [V.cs]; omega
          simp only [Array.toList_append, List.append_assoc]
          rw [← List.append_assoc, ← e1]
          exact List.take_left
  obtain ⟨A', cap', w', hrun, h2, h3, h4⟩ := key
  unfold Oper.wp execOp
  simp only [ho, resolve, invoke, builtin, Sem.run_bind, Sem.run_pure, Result.andThen_ok, List.map_toArray, List.map_cons, List.map_nil, hs, hx, hrun]
  exact hK _ _ (h A' cap' w' h2 h3 h4)
end
end Go.Proofs.Ytoelgnjnbelokaa
