/-
  Rows that a law makes for itself beside what it was given: they lie in blocks from w0's end on.
-/
import Derived.Test.YtoelgnjnbelokaaMem
namespace Go.Proofs.Ytoelgnjnbelokaa
open Go.RowKit

structure OwnR (w0 w : World) (e size : Nat) (s : Value) (n : Nat) (xs : List Value) : Prop where
  own : w.ownsRow 0 e size s n xs
  lo : ∀ k, s.ownBlock = some k → w0.heap.size ≤ k
section
variable {w0 w w' : World} {e size n : Nat} {s : Value} {xs : List Value}
theorem OwnR.nil (w0 w : World) (e size : Nat) : OwnR w0 w e size (.slice none 0 0) 0 [] := ⟨⟨by simp, .inl ⟨rfl, rfl⟩⟩, fun k hk => by simp [Value.ownBlock] at hk⟩
theorem OwnR.none_ (h : OwnR w0 w e size s n xs) (hc : Chg (fun _ => False) w w') : OwnR w0 w' e size s n xs := ⟨own_chg h.own hc fun _ _ h => h, h.lo⟩
theorem OwnR.chg {S : Nat → Prop} (h : OwnR w0 w e size s n xs) (hc : Chg S w w') (hn : ∀ k, s.ownBlock = some k → ¬ S k) : OwnR w0 w' e size s n xs := ⟨own_chg h.own hc hn, h.lo⟩
theorem OwnR.alloc (h : OwnR w0 w e size s n xs) (o : Obj) : OwnR w0 (w.alloc o) e size s n xs := h.none_ ((Chg.refl _ w).alloc o)
theorem OwnR.drew (h : OwnR w0 w e size s n xs) : OwnR w0 w.drew e size s n xs := ⟨own_chg h.own ((Chg.refl (fun _ => False) w).drew) fun _ _ h => h, h.lo⟩
theorem OwnR.other {e' size' n' : Nat} {s' : Value} {xs' : List Value} (h : OwnR w0 w e size s n xs) (h' : w.ownsRow 0 e' size' s' n' xs') (hne : e ≠ e') (hg : w.grownBy w' s'.ownBlock) : OwnR w0 w' e size s n xs :=
  ⟨own_grown h.own hg fun _ hk => own_ne h.own h' hne hk, h.lo⟩
theorem OwnR.appended {A' : Option Addr} {n' cap' H : Nat} {ys : List Value} (h : OwnR w0 w e size s n xs) (hown : w'.ownsRow 0 e size (.slice A' n' cap') n' ys)
    (hat : ∀ k, (Value.slice A' n' cap').ownBlock = some k → s.ownBlock = some k ∨ k = H) (hH : w0.heap.size ≤ H) : OwnR w0 w' e size (.slice A' n' cap') n' ys :=
  ⟨hown, fun k hk => (hat k hk).elim (h.lo k) fun h' => by omega⟩
theorem OwnR.grown (h : OwnR w0 w e size s n xs) (hc : Chg (fun _ => False) w0 w) (hg : w.grownBy w' s.ownBlock) : Chg (fun _ => False) w0 w' :=
  hc.grown hg fun _ hk hlt => absurd (h.lo _ hk) (by omega)
theorem OwnR.form (h : OwnR w0 w e size s n xs) : ∃ A cap, s = .slice A n cap := by
  obtain ⟨A, cap, h1, _⟩ := own_form h.own
  exact ⟨A, cap, h1⟩
theorem OwnR.rd {A : Option Addr} {cap : Nat} (h : OwnR w0 w e size (.slice A n cap) n xs) : Rd w size A n xs := Rd.of_own h.own
/-- A row that reads at a world reads behind it. -/
theorem Rd.none_ {s n : Nat} {A : Option Addr} {xs : List Value} (h : Rd w s A n xs) (hc : Chg (fun _ => False) w w') : Rd w' s A n xs := h.chg hc fun _ _ _ h => h
end
/-- One struct laid as a row of one. -/
theorem Rd.one (w : World) (t s : Nat) (cs : List Value) (hs : cs.length = s) (H : Nat) (hH : w.heap.size = H) : Rd (w.alloc (.cells cs.toArray t)) s (some ⟨H, 0, none⟩) 1 cs := by
  subst hH
  refine ⟨by omega, fun _ => ⟨_, _, rfl, by simp, fun j hj => ?_⟩⟩
  rw [Nat.zero_add]
  exact (Bk.new w t cs).cell j
theorem V.ones1 (v : V) : ∀ u ∈ v.cs, u.oneCell' = true := fun u hu => V.ones [v] u (by simpa using hu)
theorem Bk.none_ {w w' : World} {g : Nat} {t : TypeId} {cs : List Value} (h : Bk w g t cs) (hc : Chg (fun _ => False) w w') : Bk w' g t cs := h.chg hc fun h => h
/-- The first j of a law's values. -/
def upTo (f : Nat → V) (j : Nat) : List V := (List.range j).map f
theorem upTo_len (f : Nat → V) (j : Nat) : (upTo f j).length = j := by simp [upTo]
theorem upTo_succ (f : Nat → V) (j : Nat) : (upTo f (j + 1)).flatMap V.cs = (upTo f j).flatMap V.cs ++ (f j).cs := by
  simp [upTo, List.range_succ, List.flatMap_append]
theorem upTo_at (f : Nat → V) {j i : Nat} (h : i < j) : vAt (upTo f j) i = f i := by
  unfold vAt upTo
  rw [List.getD_eq_getElem?_getD, List.getElem?_map, List.getElem?_range h]
  rfl
def upTo1 (f : Nat → Value) (j : Nat) : List Value := (List.range j).map f
theorem upTo1_succ (f : Nat → Value) (j : Nat) : upTo1 f (j + 1) = upTo1 f j ++ [f j] := by simp [upTo1, List.range_succ]
theorem upTo1_at (f : Nat → Value) {j i : Nat} (h : i < j) : (upTo1 f j)[i]? = some (f i) := by
  unfold upTo1
  rw [List.getElem?_map, List.getElem?_range h]
  rfl
/-- A cell of a row of values. -/
theorem OwnR.val_at {w0 w : World} {e n cap : Nat} {A : Option Addr} {f : Nat → V} (h : OwnR w0 w e 5 (.slice A n cap) n ((upTo f n).flatMap V.cs)) {i : Nat} (hi : i < n) :
    ∃ b, A = some ⟨b, 0, none⟩ ∧ b < w.heap.size ∧ w0.heap.size ≤ b ∧ w.cell? ⟨b, i * 5, none⟩ = some (.int .i64 (f i).k) ∧ w.cell? ⟨b, i * 5 + 1, none⟩ = some (.int .i64 (f i).p) ∧ w.cell? ⟨b, i * 5 + 2, none⟩ = some (.int .i64 (f i).q) ∧
      w.cell? ⟨b, i * 5 + 3, none⟩ = some (.string (f i).s) ∧ w.cell? ⟨b, i * 5 + 4, none⟩ = some (.int .i64 (f i).r) := by
  obtain ⟨A', cap', e1, _, _, hA, -⟩ := own_form h.own
  injection e1 with e1 _ e3
  subst e1; subst e3
  obtain ⟨b, rfl⟩ := hA (by omega)
  have hr : Vs w (some ⟨b, 0, none⟩) (upTo f n) := by unfold Vs; rw [upTo_len]; exact h.rd
  obtain ⟨b', o', e2, _, x⟩ := hr.at_ (i := i) (by rw [upTo_len]; exact hi)
  injection e2 with e2
  injection e2 with e2 e3
  subst e2; subst e3
  rw [upTo_at f hi] at x
  exact ⟨b, rfl, own_lt h.own (k := b) rfl, h.lo b rfl, by simpa using x⟩
theorem OwnR.one_at {w0 w : World} {e n cap : Nat} {A : Option Addr} {f : Nat → Value} (h : OwnR w0 w e 1 (.slice A n cap) n (upTo1 f n)) {i : Nat} (hi : i < n) :
    ∃ b, A = some ⟨b, 0, none⟩ ∧ b < w.heap.size ∧ w0.heap.size ≤ b ∧ w.cell? ⟨b, i, none⟩ = some (f i) := by
  obtain ⟨A', cap', e1, _, _, hA, hc⟩ := own_form h.own
  injection e1 with e1 _ e3
  subst e1; subst e3
  obtain ⟨b, rfl⟩ := hA (by omega)
  exact ⟨b, rfl, own_lt h.own (k := b) rfl, h.lo b rfl, by rw [(hc b rfl).1 i (by omega), upTo1_at f hi]⟩
end Go.Proofs.Ytoelgnjnbelokaa
