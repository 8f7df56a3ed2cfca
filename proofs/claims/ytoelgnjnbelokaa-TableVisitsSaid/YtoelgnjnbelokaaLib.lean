/-
  Words for memory that all proofs of this seat share: blocks known whole, what a step may change, values of the scripting language, rows of structs.
-/
import Derived.WalkKit
import Derived.WalkLawsBesides
import Derived.WalkSpells
namespace Go.Proofs.Ytoelgnjnbelokaa
open Go.RowKit

/-- A fact kept from the walk. -/
theorem hid {p : Prop} (h : p) : Hid p := h

/-- Block g is just the cells cs of element type t, none of them frozen. -/
def Bk (w : World) (g : Nat) (t : TypeId) (cs : List Value) : Prop := w.heap[g]? = some (.cells cs.toArray t (0, 0))

/-- What lay in the heap and is not in S is as it was. -/
structure Chg (S : Nat → Prop) (w w' : World) : Prop where
  os : w'.os = w.os
  tape : w'.tape = w.tape
  output : w'.output = w.output
  size : w.heap.size ≤ w'.heap.size
  block : ∀ k, k < w.heap.size → ¬ S k → w'.heap[k]? = w.heap[k]?

section
variable {S T : Nat → Prop} {a b c w w' : World}
theorem Chg.refl (S : Nat → Prop) (w : World) : Chg S w w := ⟨rfl, rfl, rfl, Nat.le_refl _, fun _ _ _ => rfl⟩
theorem Chg.mono (h : Chg S a b) (hs : ∀ k, k < a.heap.size → S k → T k) : Chg T a b := ⟨h.os, h.tape, h.output, h.size, fun k hk hn => h.block k hk fun hk' => hn (hs k hk hk')⟩
theorem Chg.trans (h : Chg S a b) (k : Chg T b c) (ht : ∀ j, j < a.heap.size → T j → S j) : Chg S a c :=
  ⟨k.os.trans h.os, k.tape.trans h.tape, k.output.trans h.output, Nat.le_trans h.size k.size, fun j hj hn =>
    (k.block j (Nat.lt_of_lt_of_le hj h.size) fun hT => hn (ht j hj hT)).trans (h.block j hj hn)⟩
theorem Chg.trans_same (h : Chg S a b) (k : Chg S b c) : Chg S a c := h.trans k fun _ _ h => h
theorem Chg.drew (h : Chg S a b) : Chg S a b.drew := ⟨h.os, h.tape, h.output, h.size, h.block⟩
theorem Chg.drewN (h : Chg S a b) (n : Nat) : Chg S a (b.drewN n) := ⟨h.os, h.tape, h.output, h.size, h.block⟩
theorem Chg.alloc (h : Chg S a b) (o : Obj) : Chg S a (b.alloc o) :=
  ⟨h.os, h.tape, h.output, Nat.le_trans h.size (by simp), fun k hk hn => by
    rw [← h.block k hk hn]
    exact Below.heap_alloc b o k (Nat.lt_of_lt_of_le hk h.size)⟩
theorem Chg.setCell (h : Chg S a b) {p : Addr} (hp : p.block < a.heap.size → S p.block) (u : Value) : Chg S a (b.setCell p u) :=
  ⟨h.os, h.tape, h.output, by simpa [World.setCell] using h.size, fun k hk hn => by
    rw [← h.block k hk hn]
    refine Below.heap_setCell b p u k ?_
    rintro rfl
    exact hn (hp hk)⟩
theorem Chg.grown (h : Chg S a b) {row : Option Nat} (hg : b.grownBy c row) (hr : ∀ k, row = some k → k < a.heap.size → S k) : Chg S a c :=
  ⟨hg.os.trans h.os, hg.tape.trans h.tape, hg.output.trans h.output, Nat.le_trans h.size hg.size, fun k hk hn => by
    rw [← h.block k hk hn]
    exact hg.block k (Nat.lt_of_lt_of_le hk h.size) fun e => hn (hr k e.symm hk)⟩
theorem Chg.of_below (h : Below a.heap.size a b) : Chg S a b := ⟨h.os, h.tape, h.output, h.size, fun k hk _ => h.block k hk⟩
theorem Chg.below {B : Nat} (h : Chg S a b) (hB : B ≤ a.heap.size) (hs : ∀ k, k < B → ¬ S k) : Below B a b := ⟨h.os, h.tape, h.output, h.size, fun k hk => h.block k (Nat.lt_of_lt_of_le hk hB) (hs k hk)⟩
theorem Chg.cell (h : Chg S a b) {p : Addr} (hp : p.block < a.heap.size) (hn : ¬ S p.block) : b.cell? p = a.cell? p := World.cell?_of_block (h.block p.block hp hn)
theorem Chg.frozen (h : Chg S a b) {p : Addr} (hp : p.block < a.heap.size) (hn : ¬ S p.block) : b.frozen? p = a.frozen? p := World.frozen?_of_block (h.block p.block hp hn)
end

section
variable {S : Nat → Prop} {w w' : World} {g : Nat} {t : TypeId} {cs : List Value}
theorem Bk.lt (h : Bk w g t cs) : g < w.heap.size := (Array.getElem?_eq_some_iff.1 h).1
theorem Bk.cell (h : Bk w g t cs) (i : Nat) : w.cell? ⟨g, i, none⟩ = cs[i]? := by
  have := cell_of_row w g i cs.toArray t (0, 0) h
  simpa using this
theorem Bk.frozen (h : Bk w g t cs) (i : Nat) : w.frozen? ⟨g, i, none⟩ = false := by
  unfold Bk at h
  simp [World.frozen?, h]
theorem Bk.new (w : World) (t : TypeId) (cs : List Value) : Bk (w.alloc (.cells cs.toArray t)) w.heap.size t cs := heap_alloc_new w _
theorem Bk.drew (h : Bk w g t cs) : Bk w.drew g t cs := h
theorem Bk.drewN (h : Bk w g t cs) (n : Nat) : Bk (w.drewN n) g t cs := h
theorem Bk.chg (h : Bk w g t cs) (hc : Chg S w w') (hn : ¬ S g) : Bk w' g t cs := (hc.block g h.lt hn).trans h
theorem Bk.alloc (h : Bk w g t cs) (o : Obj) : Bk (w.alloc o) g t cs := h.chg (S := fun _ => False) ((Chg.refl _ _).alloc o) id
theorem Bk.set_ (h : Bk w g t cs) (i : Nat) (u : Value) : Bk (w.setCell ⟨g, i, none⟩ u) g t (cs.set i u) := by
  unfold Bk at h ⊢
  simp [World.setCell, Array.getElem?_modify, h]
theorem Bk.far (h : Bk w g t cs) {p : Addr} (hp : p.block ≠ g) (u : Value) : Bk (w.setCell p u) g t cs :=
  h.chg (S := fun k => k = p.block) (Chg.setCell (S := fun k => k = p.block) (p := p) (Chg.refl _ w) (fun _ => rfl) u) (fun e => hp e.symm)
theorem Bk.grown {row : Option Nat} (h : Bk w g t cs) (hb : w.grownBy w' row) (hg : some g ≠ row) : Bk w' g t cs := (hb.block g h.lt hg).trans h
theorem Bk.ne {g' : Nat} {t' : TypeId} {cs' : List Value} (h : Bk w g t cs) (h' : Bk w g' t' cs') (hne : t ≠ t') : g ≠ g' := by
  rintro rfl
  unfold Bk at h h'
  rw [h] at h'
  injection h' with h'
  injection h' with _ ht
  exact hne ht
theorem Bk.ne_row {base : Nat} {e : TypeId} {size n : Nat} {v : Value} {xs : List Value} (h : Bk w g t cs) (hr : w.ownsRow base e size v n xs) (hne : t ≠ e) : v.ownBlock ≠ some g := by
  rcases hr.2 with ⟨rfl, _⟩ | ⟨g', cap, cur, rfl, _, hh, _⟩
  · simp [Value.ownBlock]
  · intro he
    have : g' = g := by simpa [Value.ownBlock] using he
    subst this
    unfold Bk at h
    rw [h] at hh
    injection hh with hh
    injection hh with _ ht
    exact hne ht
end

section
variable {S : Nat → Prop} {w w' : World} {base : Nat} {e : TypeId} {size : Nat} {v : Value} {n : Nat} {xs : List Value}
theorem own_chg (h : w.ownsRow base e size v n xs) (hc : Chg S w w') (hn : ∀ k, v.ownBlock = some k → ¬ S k) : w'.ownsRow base e size v n xs := by
  refine ⟨h.1, ?_⟩
  rcases h.2 with h0 | ⟨g, cap, cur, rfl, hb, hg, h1, h2, h3, h4⟩
  · exact .inl h0
  · refine .inr ⟨g, cap, cur, rfl, hb, ?_, h1, h2, h3, h4⟩
    rw [hc.block g (Array.getElem?_eq_some_iff.1 hg).1 (hn g rfl)]
    exact hg
theorem own_grown {row : Option Nat} (h : w.ownsRow base e size v n xs) (hg : w.grownBy w' row) (hne : ∀ k, v.ownBlock = some k → row ≠ some k) : w'.ownsRow base e size v n xs :=
  h.kept hg (by
    cases hv : v.ownBlock with
    | none => exact .inl rfl
    | some k => exact .inr fun e => hne k hv e.symm)
theorem own_lt (h : w.ownsRow base e size v n xs) {k : Nat} (hk : v.ownBlock = some k) : k < w.heap.size := (h.lt k hk).2
/-- The form of the slice value. -/
theorem own_form (h : w.ownsRow base e size v n xs) : ∃ A cap, v = .slice A n cap ∧ n ≤ cap ∧ cap ≤ maxLen ∧ (0 < n → ∃ g, A = some ⟨g, 0, none⟩) ∧
    ∀ g, A = some ⟨g, 0, none⟩ → (∀ j, j < n * size → w.cell? ⟨g, j, none⟩ = xs[j]?) ∧ (∀ j, w.frozen? ⟨g, j, none⟩ = false) ∧ g < w.heap.size := by
  rcases h.2 with ⟨rfl, h0⟩ | ⟨g, cap, cur, rfl, hb, hg, h1, h2, h3, h4⟩
  · subst h0
    exact ⟨none, 0, rfl, Nat.le_refl _, by unfold maxLen; omega, fun h => absurd h (by omega), fun g hg => by cases hg⟩
  · refine ⟨some ⟨g, 0, none⟩, cap, rfl, h1, h2, fun _ => ⟨g, rfl⟩, fun g' hg' => ?_⟩
    injection hg' with hg'
    injection hg' with hg' _ _
    subst hg'
    exact ⟨fun j hj => h.cellAt j hj, fun j => h.frozenAt j, own_lt h rfl⟩
/-- Two rows of different element types lie in different blocks. -/
theorem own_ne {e' : TypeId} {size' n' base' : Nat} {v' : Value} {xs' : List Value} (h : w.ownsRow base e size v n xs) (h' : w.ownsRow base' e' size' v' n' xs') (hne : e ≠ e') {k : Nat} (hk : v.ownBlock = some k) : v'.ownBlock ≠ some k := by
  rcases h.2 with ⟨rfl, _⟩ | ⟨g, cap, cur, rfl, hb, hg, h1, h2, h3, h4⟩
  · simp [Value.ownBlock] at hk
  · have : g = k := by simpa [Value.ownBlock] using hk
    subst this
    exact Bk.ne_row (w := w) (g := g) (t := e) (cs := cur.toList) (by unfold Bk; simpa using hg) h' hne
/-- One cell of the row is written. -/
theorem own_set {g cap : Nat} (h : w.ownsRow base e size (.slice (some ⟨g, 0, none⟩) n cap) n xs) (j : Nat) (u : Value) :
    (w.setCell ⟨g, j, none⟩ u).ownsRow base e size (.slice (some ⟨g, 0, none⟩) n cap) n (xs.set j u) := (h.stored j u).1
theorem own_far (h : w.ownsRow base e size v n xs) {p : Addr} (hp : v.ownBlock ≠ some p.block) (u : Value) : (w.setCell p u).ownsRow base e size v n xs :=
  own_chg h (S := fun k => k = p.block) (Chg.setCell (S := fun k => k = p.block) (p := p) (Chg.refl _ w) (fun _ => rfl) u) (fun k hk e => hp (by rw [hk, e]))
end

/-- The j-th cell of the i-th struct of a row. -/
theorem flat_at {α : Type} (f : α → List Value) (s : Nat) (hf : ∀ a, (f a).length = s) (L : List α) (i j : Nat) (hj : j < s) : (L.flatMap f)[i * s + j]? = (L[i]?).bind fun a => (f a)[j]? := by
  induction L generalizing i with
  | nil => simp
  | cons x l ih =>
    rw [List.flatMap_cons]
    cases i with
    | zero =>
      rw [Nat.zero_mul, Nat.zero_add, List.getElem?_append_left (by rw [hf]; exact hj)]
      simp
    | succ i =>
      rw [List.getElem?_append_right (by rw [hf, Nat.succ_mul]; omega), hf, show (i + 1) * s + j - s = i * s + j from by rw [Nat.succ_mul]; omega, ih]
      simp
theorem flat_len {α : Type} (f : α → List Value) (s : Nat) (hf : ∀ a, (f a).length = s) (L : List α) : (L.flatMap f).length = L.length * s := by
  induction L with
  | nil => simp
  | cons x l ih => rw [List.flatMap_cons, List.length_append, hf, ih, List.length_cons, Nat.succ_mul]; omega

/-- A value of the language. -/
structure V where
  k : Int
  p : Int
  q : Int
  s : ByteArray
  r : Int
deriving DecidableEq
def V.zero : V := ⟨0, 0, 0, ⟨#[]⟩, 0⟩
def V.cs (v : V) : List Value := [.int .i64 v.k, .int .i64 v.p, .int .i64 v.q, .string v.s, .int .i64 v.r]
def V.val (v : V) : Value := .agg #[.int .i64 v.k, .int .i64 v.p, .int .i64 v.q, .string v.s, .int .i64 v.r]
theorem V.cs_len (v : V) : v.cs.length = 5 := rfl
/-- A slice of n structs of s cells each that reads as xs. -/
def Rd (w : World) (s : Nat) (A : Option Addr) (n : Nat) (xs : List Value) : Prop :=
  xs.length = n * s ∧ (0 < n → ∃ b o, A = some ⟨b, o, none⟩ ∧ b < w.heap.size ∧ ∀ j, j < n * s → w.cell? ⟨b, o + j, none⟩ = xs[j]?)
def vAt (rs : List V) (i : Nat) : V := rs.getD i V.zero
theorem vAt_get (rs : List V) (i : Nat) (h : i < rs.length) : rs[i]? = some (vAt rs i) := by
  unfold vAt; rw [List.getD_eq_getElem?_getD, List.getElem?_eq_getElem h]; rfl
/-- A slice of values that reads as rs. -/
def Vs (w : World) (A : Option Addr) (rs : List V) : Prop := Rd w 5 A rs.length (rs.flatMap V.cs)
theorem Vs.at_ {w : World} {A : Option Addr} {rs : List V} (h : Vs w A rs) {i : Nat} (hi : i < rs.length) :
    ∃ b o, A = some ⟨b, o, none⟩ ∧ b < w.heap.size ∧ w.cell? ⟨b, o + i * 5, none⟩ = some (.int .i64 (vAt rs i).k) ∧ w.cell? ⟨b, o + i * 5 + 1, none⟩ = some (.int .i64 (vAt rs i).p) ∧
      w.cell? ⟨b, o + i * 5 + 2, none⟩ = some (.int .i64 (vAt rs i).q) ∧ w.cell? ⟨b, o + i * 5 + 3, none⟩ = some (.string (vAt rs i).s) ∧ w.cell? ⟨b, o + i * 5 + 4, none⟩ = some (.int .i64 (vAt rs i).r) := by
  obtain ⟨b, o, e, hb, hc⟩ := h.2 (by omega)
  have g : ∀ j, j < 5 → w.cell? ⟨b, o + (i * 5 + j), none⟩ = (vAt rs i).cs[j]? := fun j hj => by
    rw [hc _ (by omega), flat_at _ 5 V.cs_len _ _ _ hj, vAt_get _ _ hi]; rfl
  exact ⟨b, o, e, hb, g 0 (by omega), g 1 (by omega), g 2 (by omega), g 3 (by omega), g 4 (by omega)⟩
theorem Rd.chg {S : Nat → Prop} {w w' : World} {s n : Nat} {A : Option Addr} {xs : List Value} (h : Rd w s A n xs) (hc : Chg S w w') (hn : ∀ b o, A = some ⟨b, o, none⟩ → ¬ S b) : Rd w' s A n xs :=
  ⟨h.1, fun h0 => by
    obtain ⟨b, o, e, hb, hcell⟩ := h.2 h0
    exact ⟨b, o, e, Nat.lt_of_lt_of_le hb hc.size, fun j hj => (hc.cell (p := ⟨b, o + j, none⟩) hb (hn b o e)).trans (hcell j hj)⟩⟩
theorem Rd.of_own {w : World} {base : Nat} {e : TypeId} {s n : Nat} {A : Option Addr} {cap : Nat} {xs : List Value} (h : w.ownsRow base e s (.slice A n cap) n xs) : Rd w s A n xs := by
  refine ⟨h.1, fun h0 => ?_⟩
  obtain ⟨A', cap', e1, _, _, h3, h4⟩ := own_form h
  obtain ⟨rfl, _, _⟩ : A = A' ∧ n = n ∧ cap = cap' := by injection e1 with a b c; exact ⟨a, rfl, c⟩
  obtain ⟨g, rfl⟩ := h3 h0
  exact ⟨g, 0, rfl, (h4 g rfl).2.2, fun j hj => by rw [Nat.zero_add]; exact (h4 g rfl).1 j hj⟩
theorem Bk.new_at (w : World) (t : TypeId) (M : Array Value) (H : Nat) (hH : w.heap.size = H) : Bk (w.alloc (.cells M t)) H t M.toList := by
  subst hH
  unfold Bk
  rw [Array.toArray_toList]
  exact heap_alloc_new w _
theorem Rd.alloc {w : World} {s n : Nat} {A : Option Addr} {xs : List Value} (h : Rd w s A n xs) (o : Obj) : Rd (w.alloc o) s A n xs := h.chg (S := fun _ => False) ((Chg.refl _ w).alloc o) fun _ _ _ h => h
theorem Rd.drew {w : World} {s n : Nat} {A : Option Addr} {xs : List Value} (h : Rd w s A n xs) : Rd w.drew s A n xs := h
theorem Bk.own {w : World} {g : Nat} {t : TypeId} {cs xs : List Value} {n cap size : Nat} (h : Bk w g t cs) (hn : n ≤ cap) (hc : cap ≤ maxLen) (hs : cs.length = cap * size) (hx : cs.take (n * size) = xs) :
    w.ownsRow 0 t size (.slice (some ⟨g, 0, none⟩) n cap) n xs := by
  refine ⟨?_, .inr ⟨g, cap, cs.toArray, rfl, Nat.zero_le _, h, hn, hc, by simpa using hs, by simpa using hx⟩⟩
  rw [← hx, List.length_take, hs]
  exact Nat.min_eq_left (Nat.mul_le_mul_right _ hn)
theorem V.box {w : World} {b : Nat} {t : TypeId} {v : V} (h : Bk w b t v.cs) : w.cell? ⟨b, 0, none⟩ = some (.int .i64 v.k) ∧ w.cell? ⟨b, 1, none⟩ = some (.int .i64 v.p) ∧ w.cell? ⟨b, 2, none⟩ = some (.int .i64 v.q) ∧
    w.cell? ⟨b, 3, none⟩ = some (.string v.s) ∧ w.cell? ⟨b, 4, none⟩ = some (.int .i64 v.r) := ⟨h.cell 0, h.cell 1, h.cell 2, h.cell 3, h.cell 4⟩
theorem Chg.of_cell {S : Nat → Prop} {w w' : World} {b o : Nat} {u : Value} (h : Chg S w w') (hc : w.cell? ⟨b, o, none⟩ = some u) (hb : b < w.heap.size) (hn : ¬ S b) : w'.cell? ⟨b, o, none⟩ = some u := (h.cell (p := ⟨b, o, none⟩) hb hn).trans hc
/-- One struct of a row is written, cell by cell. -/
theorem set_cell {α : Type} (f : α → List Value) (s : Nat) (hf : ∀ a, (f a).length = s) (L : List α) (i j : Nat) (hj : j < s) (x y : α) (u : Value) (hx : L[i]? = some x) (hy : f y = (f x).set j u) :
    (L.flatMap f).set (i * s + j) u = (L.set i y).flatMap f := by
  induction L generalizing i with
  | nil => simp at hx
  | cons a l ih =>
    cases i with
    | zero =>
      obtain rfl : a = x := by simpa using hx
      rw [List.set_cons_zero, List.flatMap_cons, List.flatMap_cons, hy, Nat.zero_mul, Nat.zero_add, List.set_append_left _ _ (by rw [hf]; exact hj)]
    | succ i =>
      rw [List.set_cons_succ, List.flatMap_cons, List.flatMap_cons, ← ih i (by simpa using hx), List.set_append_right _ _ (by rw [hf, Nat.succ_mul]; omega), hf, show (i + 1) * s + j - s = i * s + j from by rw [Nat.succ_mul]; omega]
theorem setV5 (rs : List V) (i : Nat) (v : V) (hi : i < rs.length) :
    ((((((rs.flatMap V.cs).set (i * 5) (.int .i64 v.k)).set (i * 5 + 1) (.int .i64 v.p)).set (i * 5 + 2) (.int .i64 v.q)).set (i * 5 + 3) (.string v.s)).set (i * 5 + 4) (.int .i64 v.r)) = (rs.set i v).flatMap V.cs := by
  have g : ∀ c : V, (rs.set i c)[i]? = some c := fun c => List.getElem?_set_self hi
  have h0 := set_cell V.cs 5 V.cs_len rs i 0 (by omega) (vAt rs i) ⟨v.k, (vAt rs i).p, (vAt rs i).q, (vAt rs i).s, (vAt rs i).r⟩ _ (vAt_get _ _ hi) rfl
  rw [Nat.add_zero] at h0
  rw [h0,
    set_cell V.cs 5 V.cs_len _ i 1 (by omega) ⟨v.k, (vAt rs i).p, (vAt rs i).q, (vAt rs i).s, (vAt rs i).r⟩ ⟨v.k, v.p, (vAt rs i).q, (vAt rs i).s, (vAt rs i).r⟩ (.int .i64 v.p) (g _) rfl, List.set_set,
    set_cell V.cs 5 V.cs_len _ i 2 (by omega) ⟨v.k, v.p, (vAt rs i).q, (vAt rs i).s, (vAt rs i).r⟩ ⟨v.k, v.p, v.q, (vAt rs i).s, (vAt rs i).r⟩ (.int .i64 v.q) (g _) rfl, List.set_set,
    set_cell V.cs 5 V.cs_len _ i 3 (by omega) ⟨v.k, v.p, v.q, (vAt rs i).s, (vAt rs i).r⟩ ⟨v.k, v.p, v.q, v.s, (vAt rs i).r⟩ (.string v.s) (g _) rfl, List.set_set,
    set_cell V.cs 5 V.cs_len _ i 4 (by omega) ⟨v.k, v.p, v.q, v.s, (vAt rs i).r⟩ v (.int .i64 v.r) (g _) rfl, List.set_set]
theorem V.ones (rs : List V) : ∀ u ∈ rs.flatMap V.cs, u.oneCell' = true := by
  intro u hu
  obtain ⟨v, _, hv⟩ := List.mem_flatMap.1 hu
  simp [V.cs] at hv
  rcases hv with rfl | rfl | rfl | rfl | rfl <;> rfl
/-- The cells of n new values. -/
def zs (n : Nat) : Array Value := madeCells #[.int .i64 0, .int .i64 0, .int .i64 0, .string ⟨#[]⟩, .int .i64 0] (n * 5)
theorem zs_len (n : Nat) : (zs n).toList.length = n * 5 := by simp [zs, madeCells]
/-- A value of the language stored into five cells. -/
def put5 (w : World) (g j : Nat) (v : V) : World :=
  ((((w.setCell ⟨g, j, none⟩ (.int .i64 v.k)).setCell ⟨g, j + 1, none⟩ (.int .i64 v.p)).setCell ⟨g, j + 2, none⟩ (.int .i64 v.q)).setCell ⟨g, j + 3, none⟩ (.string v.s)).setCell ⟨g, j + 4, none⟩ (.int .i64 v.r)
def list5 (xs : List Value) (j : Nat) (v : V) : List Value := ((((xs.set j (.int .i64 v.k)).set (j + 1) (.int .i64 v.p)).set (j + 2) (.int .i64 v.q)).set (j + 3) (.string v.s)).set (j + 4) (.int .i64 v.r)
theorem own_put5 {w : World} {base : Nat} {e : TypeId} {size n g cap : Nat} {xs : List Value} (h : w.ownsRow base e size (.slice (some ⟨g, 0, none⟩) n cap) n xs) (j : Nat) (v : V) :
    (put5 w g j v).ownsRow base e size (.slice (some ⟨g, 0, none⟩) n cap) n (list5 xs j v) := own_set (own_set (own_set (own_set (own_set h _ _) _ _) _ _) _ _) _ _
theorem Chg.put5 {S : Nat → Prop} {a w : World} (h : Chg S a w) {g : Nat} (hg : g < a.heap.size → S g) (j : Nat) (v : V) : Chg S a (put5 w g j v) :=
  ((((h.setCell (p := ⟨g, j, none⟩) hg _).setCell (p := ⟨g, j + 1, none⟩) hg _).setCell (p := ⟨g, j + 2, none⟩) hg _).setCell (p := ⟨g, j + 3, none⟩) hg _).setCell (p := ⟨g, j + 4, none⟩) hg _
theorem put5_chg (w : World) (g j : Nat) (v : V) : Chg (fun k => k = g) w (put5 w g j v) := Chg.put5 (S := fun k => k = g) (Chg.refl _ w) (fun _ => rfl) j v
theorem list5_V (rs : List V) (i : Nat) (v : V) (hi : i < rs.length) : list5 (rs.flatMap V.cs) (i * 5) v = (rs.set i v).flatMap V.cs := setV5 rs i v hi

/-! ### What changed, by the types of the blocks -/
def OfT (w : World) (T : List Nat) (k : Nat) : Prop := ∃ cs t fz, w.heap[k]? = some (.cells cs t fz) ∧ t ∈ T
/-- Of the old blocks only such from B on of the types T have changed. -/
def TC (T : List Nat) (B : Nat) (w w' : World) : Prop := Chg (fun k => B ≤ k ∧ OfT w T k) w w'
theorem TC.refl (T : List Nat) (B : Nat) (w : World) : TC T B w w := Chg.refl _ w
theorem TC.trans {T : List Nat} {B : Nat} {a b c : World} (h : TC T B a b) (k : TC T B b c) : TC T B a c := by
  refine ⟨k.os.trans h.os, k.tape.trans h.tape, k.output.trans h.output, Nat.le_trans h.size k.size, fun j hj hn => ?_⟩
  have hb := h.block j hj hn
  rw [← hb]
  refine k.block j (Nat.lt_of_lt_of_le hj h.size) fun ⟨h1, cs, t, fz, h2, h3⟩ => hn ⟨h1, cs, t, fz, ?_, h3⟩
  rw [← hb]; exact h2
theorem TC.mono {T T' : List Nat} {B : Nat} {a b : World} (h : TC T B a b) (hs : ∀ t ∈ T, t ∈ T') : TC T' B a b := Chg.mono h fun _ _ ⟨h1, cs, t, fz, h2, h3⟩ => ⟨h1, cs, t, fz, h2, hs t h3⟩
theorem TC.of_none {T : List Nat} {B : Nat} {a b : World} (h : Chg (fun _ => False) a b) : TC T B a b := h.mono fun _ _ h => h.elim
theorem TC.below {T : List Nat} {B : Nat} {a b : World} (h : TC T B a b) (hB : B ≤ a.heap.size) : Below B a b := Chg.below h hB fun k hk ⟨h1, _⟩ => absurd h1 (by omega)
theorem TC.base {T : List Nat} {B B' : Nat} {a b : World} (h : TC T B a b) (hB : B' ≤ B) : TC T B' a b := Chg.mono h fun _ _ ⟨h1, h2⟩ => ⟨Nat.le_trans hB h1, h2⟩
theorem Bk.ofT {w : World} {g : Nat} {t : TypeId} {cs : List Value} {T : List Nat} (h : Bk w g t cs) (ht : t ∈ T) : OfT w T g := ⟨_, t, _, h, ht⟩
theorem own_ofT {w : World} {base : Nat} {e : TypeId} {size : Nat} {v : Value} {n : Nat} {xs : List Value} {T : List Nat} (h : w.ownsRow base e size v n xs) (ht : e ∈ T) {k : Nat} (hk : v.ownBlock = some k) : OfT w T k := by
  rcases h.2 with ⟨rfl, _⟩ | ⟨g, cap, cur, rfl, _, hg, _⟩
  · simp [Value.ownBlock] at hk
  · obtain rfl : g = k := by simpa [Value.ownBlock] using hk
    exact ⟨cur, e, _, hg, ht⟩
theorem Bk.tc {w w' : World} {g : Nat} {t : TypeId} {cs : List Value} {T : List Nat} {B : Nat} (h : Bk w g t cs) (hc : TC T B w w') (ht : t ∉ T) : Bk w' g t cs :=
  h.chg hc fun ⟨_, cs', t', fz, h2, h3⟩ => by
    unfold Bk at h
    rw [h] at h2
    injection h2 with h2
    injection h2 with _ h4 _
    exact ht (h4 ▸ h3)
theorem own_tc {w w' : World} {base : Nat} {e : TypeId} {size : Nat} {v : Value} {n : Nat} {xs : List Value} {T : List Nat} {B : Nat} (h : w.ownsRow base e size v n xs) (hc : TC T B w w') (ht : e ∉ T) : w'.ownsRow base e size v n xs := by
  refine own_chg h hc fun k hk ⟨_, cs', t', fz, h2, h3⟩ => ?_
  rcases h.2 with ⟨rfl, _⟩ | ⟨g, cap, cur, rfl, _, hg, _⟩
  · simp [Value.ownBlock] at hk
  · obtain rfl : g = k := by simpa [Value.ownBlock] using hk
    rw [hg] at h2
    injection h2 with h2
    injection h2 with _ h4 _
    exact ht (h4 ▸ h3)
theorem TC.cell {w w' : World} {T : List Nat} {B b o : Nat} {u : Value} (hc : TC T B w w') (h : w.cell? ⟨b, o, none⟩ = some u) (hb : b < B) (hB : B ≤ w.heap.size) : w'.cell? ⟨b, o, none⟩ = some u :=
  Chg.of_cell hc h (by omega) fun ⟨h1, _⟩ => absurd h1 (by omega)
theorem TC.rd {w w' : World} {T : List Nat} {B s n : Nat} {A : Option Addr} {xs : List Value} (hc : TC T B w w') (h : Rd w s A n xs) (hb : ∀ b o, A = some ⟨b, o, none⟩ → b < B) : Rd w' s A n xs :=
  h.chg hc fun b o e ⟨h1, _⟩ => absurd h1 (by have := hb b o e; omega)
end Go.Proofs.Ytoelgnjnbelokaa
