/-
  copy, append and make over rows of structs, whatever the source: nil, empty, a part of an argument or of a row of the call's own.
-/
import Derived.Test.YtoelgnjnbelokaaLib
import Derived.Maps.AppendAt
import Derived.Deep.AppendLies
namespace Go.Proofs.Ytoelgnjnbelokaa
open Go.RowKit

section
variable {P : Program} {ops : Array Oper} {Q : Exit → Act → World → Prop} {a : Act} {w : World} {rest : List Oper} {o : Oper}

theorem add_lit (b k j : Nat) : (⟨b, k, none⟩ : Addr).add j = ⟨b, k + j, none⟩ := by unfold Addr.add; split <;> simp_all

theorem rd_cells {s n : Nat} {b k : Nat} {xs : List Value} (hr : Rd w s (some ⟨b, k, none⟩) n xs) : ∀ j u, xs[j]? = some u → w.cell? ((⟨b, k, none⟩ : Addr).add j) = some u := by
  intro j u hj
  have hlt : j < xs.length := (List.getElem?_eq_some_iff.1 hj).1
  have hn : 0 < n := by
    rcases Nat.eq_zero_or_pos n with h | h
    · subst h
      have := hr.1
      omega
    · exact h
  obtain ⟨b', k', e, _, hc⟩ := hr.2 hn
  injection e with e
  injection e with e1 e2
  subst e1; subst e2
  rw [add_lit, hc j (by have := hr.1; omega)]
  exact hj

theorem rd_addr {s n : Nat} {A : Option Addr} {xs : List Value} (hr : Rd w s A n xs) (h0 : xs ≠ []) : ∃ b k, A = some ⟨b, k, none⟩ := by
  have hn : 0 < n := by
    rcases Nat.eq_zero_or_pos n with h | h
    · subst h
      exact absurd (List.eq_nil_of_length_eq_zero (by simpa using hr.1)) h0
    · exact h
  obtain ⟨b, k, e, _⟩ := hr.2 hn
  exact ⟨b, k, e⟩

/-- The first n elements of a slice, as the copy and the append read them. -/
theorem run_first {s n m c : Nat} {A : Option Addr} {xs : List Value} (hr : Rd w s A n xs) : (Builtin.firstCells s n (.slice A m c)).run P w = .ok xs.toArray w := by
  cases A with
  | none =>
    have : xs = [] := by
      cases xs with
      | nil => rfl
      | cons x l => obtain ⟨b, k, e⟩ := rd_addr hr (by simp); cases e
    subst this
    exact run_firstCells_none w s n m c
  | some ad =>
    by_cases h0 : xs = []
    · subst h0
      exact run_firstCells_some w s n ad m c [] (by simpa using hr.1) (by simp)
    · obtain ⟨b, k, e⟩ := rd_addr hr h0
      injection e with e
      subst e
      exact run_firstCells_some w s n _ m c xs hr.1 (rd_cells hr)

theorem wpList_copy_rd (hgd : o.guard = none) (d s : Operand) (T T' : TypeId) (ho : o.op = .call { callee := .builtin .copy, args := #[d, s], argTypes := #[T, T'] })
    (e : TypeId) (i : TypeInfo) (size : Nat) (hu : P.underlying T = some (.slice e)) (hi : P.info? e = some i) (hsize : i.size = size)
    (g off dLen dCap sLen sCap n : Nat) (A : Option Addr) (hd : a.eval d = .slice (some ⟨g, off, none⟩) dLen dCap) (hs : a.eval s = .slice A sLen sCap) (hn : Nat.min sLen dLen = n)
    (t : TypeId) (cur xs : List Value) (hg : Bk w g t cur) (hr : Rd w size A n xs) (hfit : off + n * size ≤ cur.length) (h1 : ∀ v ∈ xs, v.oneCell' = true)
    (h : ∀ w', Bk w' g t (cur.take off ++ (xs ++ cur.drop (off + n * size))) → w.grownBy w' (some g) → w'.heap.size = w.heap.size → wpList P ops Q rest (a.put o.dst (goInt n)) w') : wpList P ops Q (o :: rest) a w := by
  subst hsize; subst hn
  refine wpList_plain hgd fun K hK => ?_
  have hf := run_first (P := P) (m := sLen) (c := sCap) hr
  have hst := run_storeCells_at P g off t xs 0 cur.toArray w hg (by rw [hr.1]; simpa using hfit) h1
  have hrun : (Builtin.copy_ #[T, T'] o.type #[.slice (some ⟨g, off, none⟩) dLen dCap, .slice A sLen sCap]).run P w =
      .ok (goInt (Nat.min sLen dLen)) (w.setRow g (cur.take off ++ xs ++ cur.drop (off + xs.length)).toArray) := by
    simp only [Nat.add_zero] at hst
    simp [Builtin.copy_, run_underlying hu, Builtin.lenOf, sizeOf, typeInfo, hi, hf, hst]
  unfold Oper.wp
  simp [execOp, ho, resolve, invoke, builtin, hd, hs, hrun, Result.andThen]
  refine hK _ _ (h _ ?_ ⟨rfl, rfl, rfl, by simp [World.setRow], fun k _ hk => setRow_other w g k _ (fun e => hk (by rw [e]))⟩ (by simp [World.setRow]))
  have := setRow_heap w g cur.toArray (cur.take off ++ xs ++ cur.drop (off + xs.length)).toArray t (0, 0) hg
  unfold Bk
  rw [← hr.1]
  simpa using this

theorem wpList_append_rd (hgd : o.guard = none) (s x : Operand) (t : TypeId) (ho : o.op = .call { callee := .builtin .append, args := #[s, x], argTypes := #[t, t] })
    (e : TypeId) (i : TypeInfo) (z : Value) (size bytes : Nat) (ht : P.underlying t = some (.slice e)) (hi : P.info? e = some i) (hz : i.zero = some z)
    (hsize : i.size = size) (hby : i.bytes = bytes) (hzs : z.cells.size = size) (hsz : 0 < size)
    (v : Value) (n : Nat) (xs : List Value) (hs : a.eval s = v) (hown : w.ownsRow 0 e size v n xs)
    (A : Option Addr) (m c : Nat) (news : List Value) (hx : a.eval x = .slice A m c) (hr : Rd w size A m news) (h1 : ∀ u ∈ news, u.oneCell' = true)
    (h63 : n + m ≤ maxLen) (hbytes : (n + m) * bytes ≤ 140737488355328) (H : Nat) (hH : w.heap.size = H)
    (h : ∀ A' cap' w', w'.ownsRow 0 e size (.slice A' (n + m) cap') (n + m) (xs ++ news) → w.grownBy w' v.ownBlock →
      (∀ k, (Value.slice A' (n + m) cap').ownBlock = some k → v.ownBlock = some k ∨ k = H) → wpList P ops Q rest (a.put o.dst (.slice A' (n + m) cap')) w') : wpList P ops Q (o :: rest) a w := by
  subst hH
  refine wpList_plain hgd fun K hK => ?_
  have key : ∃ v' w', (Builtin.append_ #[t, t] o.type #[v, .slice A m c]).run P w = .ok v' w' ∧ w'.ownsRow 0 e size v' (n + m) (xs ++ news) ∧ w.grownBy w' v.ownBlock ∧ (v'.ownBlock = v.ownBlock ∨ v'.ownBlock = some w.heap.size) := by
    by_cases h0 : ∃ b k, A = some ⟨b, k, none⟩
    · obtain ⟨b, k, rfl⟩ := h0
      obtain ⟨v', w', h2, h3, h4, _, h5⟩ := run_append_own_at (P := P) w 0 t o.type e i z size bytes ht hi hz hsize hby hzs hsz v n xs hown ⟨b, k, none⟩ m c news hr.1 (rd_cells hr) h1 h63 hbytes (Nat.zero_le _)
      exact ⟨v', w', h2, h3, h4, h5⟩
    · have hnil : news = [] := by
        cases news with
        | nil => rfl
        | cons y l => exact absurd (rd_addr hr (by simp)) h0
      subst hnil
      have hm : m = 0 := by
        have h2 := hr.1
        rw [List.length_nil] at h2
        rcases Nat.mul_eq_zero.1 h2.symm with h3 | h3
        · exact h3
        · omega
      subst hm
      cases A with
      | some ad =>
        obtain ⟨v', w', h2, h3, h4, _, h5⟩ := run_append_own_at (P := P) w 0 t o.type e i z size bytes ht hi hz hsize hby hzs hsz v n xs hown ad 0 c [] hr.1 (by simp) h1 h63 hbytes (Nat.zero_le _)
        exact ⟨v', w', h2, h3, h4, h5⟩
      | none =>
        refine ⟨v, w, ?_, by simpa using hown, ⟨rfl, rfl, rfl, Nat.le_refl _, fun _ _ _ => rfl⟩, .inl rfl⟩
        rcases hown.2 with ⟨rfl, rfl⟩ | ⟨g, cap, cur, rfl, _, _, hnc, _⟩
        · simp [Builtin.append_, run_underlying ht, sizeOf, typeInfo, hi, Builtin.lenOf, Builtin.firstCells]
        · simp [Builtin.append_, run_underlying ht, sizeOf, typeInfo, hi, Builtin.lenOf, Builtin.firstCells, hnc, storeCells]
  obtain ⟨v', w', hrun, h2, h3, h4⟩ := key
  obtain ⟨A', cap', rfl, _⟩ := own_form h2
  unfold Oper.wp execOp
  simp only [ho, resolve, invoke, builtin, Sem.run_bind, Sem.run_pure, Result.andThen_ok, List.map_toArray, List.map_cons, List.map_nil, hs, hx, hrun]
  refine hK _ _ (h A' cap' w' h2 h3 fun k hk => ?_)
  rcases h4 with h4 | h4
  · exact .inl (by rw [← h4]; exact hk)
  · right
    rw [hk] at h4
    injection h4

/-- make([]T, n), whatever the number of cells of an element. -/
theorem run_make_n (t e : TypeId) (i : TypeInfo) (z : Value) (size bytes : Nat) (ht : P.underlying t = some (.slice e)) (hi : P.info? e = some i) (hz : i.zero = some z) (hsize : i.size = size) (hby : i.bytes = bytes)
    (n : Nat) (hbytes : bytes * n ≤ 281474976710656) (h63 : n ≤ 9223372036854775807) (W : World) :
    (Instr.makeSlice t (.int .i64 (n : Int)) (.int .i64 (n : Int))).run P W = .ok (.slice (some ⟨W.heap.size, 0, none⟩) n n) (W.alloc (.cells (madeCells z.cells (n * size)) e)) := by
  subst hsize; subst hby
  have hb : (i.bytes : Int) * (n : Int) ≤ 281474976710656 := by
    have h : ((i.bytes * n : Nat) : Int) ≤ 281474976710656 := by omega
    rwa [Int.natCast_mul] at h
  have hr := run_make (P := P) W t e i z ht hi hz .i64 .i64 n n (by omega) (by omega) hb (by omega)
  simpa using hr
theorem made_list (z : List Value) (n s : Nat) (hs : z.length = s) (h0 : 0 < s) : (madeCells z.toArray (n * s)).toList = (List.replicate n z).flatten := by
  subst hs
  apply List.ext_getElem?
  intro j
  have hfl : ∀ (n j : Nat), j < n * z.length → (List.replicate n z).flatten[j]? = z[j % z.length]? := by
    intro n
    induction n with
    | zero => intro j hj; omega
    | succ n ih =>
      intro j hj
      rw [List.replicate_succ, List.flatten_cons]
      by_cases hj' : j < z.length
      · rw [List.getElem?_append_left hj', Nat.mod_eq_of_lt hj']
      · rw [List.getElem?_append_right (by omega), ih (j - z.length) (by rw [Nat.succ_mul] at hj; omega), ← Nat.mod_eq_sub_mod (by omega)]
  by_cases hj : j < n * z.length
  · have hm : j % z.length < z.length := Nat.mod_lt _ h0
    rw [hfl n j hj]
    simp [madeCells, hj, hm]
  · have h1 : (List.replicate n z).flatten.length = n * z.length := by simp
    rw [List.getElem?_eq_none (by simp [madeCells]; omega), List.getElem?_eq_none (by omega)]
end
end Go.Proofs.Ytoelgnjnbelokaa
