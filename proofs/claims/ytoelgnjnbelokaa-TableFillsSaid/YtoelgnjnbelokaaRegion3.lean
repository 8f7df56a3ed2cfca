/-
  A region that draws its order, in which at one place either of two operations may come first: both orders are walked.
-/
import Derived.Test.YtoelgnjnbelokaaRegion2
namespace Go.Proofs.Ytoelgnjnbelokaa
open Go.RowKit

section
variable {P : Program} {ops : Array Oper} {Q : Exit → Act → World → Prop} {S : World → Prop} {w : World} {a : Act}
theorem op_list {i : Nat} {o : Oper} {G : Act → World → Prop} (ho : ops[i]? = some o)
    (h : ∀ K' : Act → World → Prop, (∀ a' w', G a' w' → K' a' w') → wpList P ops (Exit.then K' Q) [o] a w) : wpOp P ops Q i G a w := by
  have h := h G fun a' w' h => h
  unfold wpOp
  simp only [ho]
  unfold wpList at h
  split
  · rename_i hw
    rw [if_pos hw] at h
    rcases h with h | ⟨h1, a', w', h2⟩
    · left
      unfold Oper.wp at h ⊢
      cases hr : (execOp a.eval o).run P w with
      | ok n w' =>
        rw [hr] at h
        cases n with
        | enter f args => exact Calls.mono h fun e w'' he => by cases e <;> first | exact he | (obtain ⟨a', w', h2⟩ := he; exact ⟨a', w', h2⟩)
        | _ => exact h
      | halt x w' => rw [hr] at h; cases x <;> exact h
    · exact .inr ⟨h1, a', w', h2⟩
  · rename_i hw
    rw [if_neg hw] at h
    exact h
theorem anyF_of_two {F : Nat → Bool} {i j m n : Nat} {L : Array Bool} {G : Act → World → Prop} (hr : Region.ready .any ops L = [i, j]) (h1 : Region.ready .any ops (L.setIfInBounds i true) = [j]) (h2 : Region.ready .any ops (L.setIfInBounds j true) = [i]) (hne : i ≠ j)
    (hG : ∀ a w, S w → a.tmps.size = n → G a w → wpAnyF P ops Q S F m ((L.setIfInBounds i true).setIfInBounds j true) a w)
    (ha : wpOp P ops Q i (fun a' w' => (S w' ∧ a'.tmps.size = n) ∧ wpOp P ops Q j (fun a2 w2 => (S w2 ∧ a2.tmps.size = n) ∧ G a2 w2) a' w') a w)
    (hb : wpOp P ops Q j (fun a' w' => (S w' ∧ a'.tmps.size = n) ∧ wpOp P ops Q i (fun a2 w2 => (S w2 ∧ a2.tmps.size = n) ∧ G a2 w2) a' w') a w) : wpAnyF P ops Q S F (2 + m) L a w := by
  rw [show 2 + m = (m + 1) + 1 by omega]
  refine ⟨fun h => (by rw [hr] at h; cases h), fun k hk => ?_⟩
  rw [hr] at hk
  have hk' : k = i ∨ k = j := by simpa using hk
  rcases hk' with rfl | rfl
  · refine wpOp_mono (fun a' w' h' => ⟨fun _ _ => h'.1.1, fun h => (by rw [h1] at h; cases h), fun k2 hk2 => ?_⟩) ha
    rw [h1] at hk2
    obtain rfl : k2 = j := by simpa using hk2
    exact wpOp_mono (fun a'' w'' h'' => ⟨fun _ _ => h''.1.1, hG a'' w'' h''.1.1 h''.1.2 h''.2⟩) h'.2
  · refine wpOp_mono (fun a' w' h' => ⟨fun _ _ => h'.1.1, fun h => (by rw [h2] at h; cases h), fun k2 hk2 => ?_⟩) hb
    rw [h2] at hk2
    obtain rfl : k2 = i := by simpa using hk2
    refine wpOp_mono (fun a'' w'' h'' => ⟨fun _ _ => h''.1.1, ?_⟩) h'.2
    rw [Array.setIfInBounds_comm _ _ (Ne.symm hne)]
    exact hG a'' w'' h''.1.1 h''.1.2 h''.2
/-- All that the kernel checks of such a region. -/
def rcB2 (ops : Array Oper) (R : List RStep) (i j : Nat) (C T : List Nat) (n : Nat) : Bool :=
  Region.noSelect ops && decide (stepCount R + (2 + (C.length + T.length)) = ops.size) &&
  stepsB ops (fun k => stepHas R k || k == i || k == j) n R (Array.replicate ops.size false) &&
  (List.range ops.size).all (fun k => (((stepList (Array.replicate ops.size false) R).setIfInBounds i true).setIfInBounds j true).getD k true || !(stepHas R k || k == i || k == j)) &&
  decide (Region.ready .any ops (stepList (Array.replicate ops.size false) R) = [i, j]) &&
  decide (Region.ready .any ops ((stepList (Array.replicate ops.size false) R).setIfInBounds i true) = [j]) &&
  decide (Region.ready .any ops ((stepList (Array.replicate ops.size false) R).setIfInBounds j true) = [i]) && decide (i ≠ j) &&
  seqI ops C (((stepList (Array.replicate ops.size false) R).setIfInBounds i true).setIfInBounds j true) &&
  headI ops (fun j => T.contains j) true n T (listAll (((stepList (Array.replicate ops.size false) R).setIfInBounds i true).setIfInBounds j true) C) &&
  (Region.ready .any ops (listAll (listAll (((stepList (Array.replicate ops.size false) R).setIfInBounds i true).setIfInBounds j true) C) T)).isEmpty
/-- The end of such a region's walk, behind the two. -/
def wpEnd (P : Program) (ops : Array Oper) (Q : Exit → Act → World → Prop) (C T : List Nat) (n : Nat) (a : Act) (w : World) : Prop :=
  wpList P ops (Exit.then (fun a2 w2 => a2.tmps.size = n ∧ wpStI P ops w2 (fun b2 => Q .normal b2 w2) T a2) Q) (C.filterMap fun i => ops[i]?) a w
/-- The two, in either order. -/
def wpTwo (P : Program) (ops : Array Oper) (Q : Exit → Act → World → Prop) (S : World → Prop) (i j : Nat) (C T : List Nat) (n : Nat) (a : Act) (w : World) : Prop :=
  wpOp P ops Q i (fun a' w' => (S w' ∧ a'.tmps.size = n) ∧ wpOp P ops Q j (fun a2 w2 => (S w2 ∧ a2.tmps.size = n) ∧ wpEnd P ops Q C T n a2 w2) a' w') a w ∧
  wpOp P ops Q j (fun a' w' => (S w' ∧ a'.tmps.size = n) ∧ wpOp P ops Q i (fun a2 w2 => (S w2 ∧ a2.tmps.size = n) ∧ wpEnd P ops Q C T n a2 w2) a' w') a w
theorem wp_region_two {id : Nat} (R : List RStep) (i j : Nat) (C T : List Nat) (S : World → Prop) (hm : P.follows .mixedOrders = true) (n : Nat) (hn : a.tmps.size = n) (hk : rcB2 ops R i j C T n = true)
    (hQ : ∀ c d v a w, Q (.panic c) (a.put (some d) v) w → Q (.panic c) a w) (hS : S w.drew)
    (h : wpSteps P ops Q S n (wpTwo P ops Q S i j C T n) R a w.drew) :
    (Code.region id ops true).wp P Q a w := by
  simp only [rcB2, Bool.and_eq_true, decide_eq_true_eq] at hk
  obtain ⟨⟨⟨⟨⟨⟨⟨⟨⟨⟨h1, h2⟩, h3⟩, h5⟩, ha⟩, hb⟩, hc⟩, hd⟩, h6⟩, h7⟩, h8⟩ := hk
  have sel := fun j o cs b hj => Region.noSelect_spec h1 j o cs b hj
  have sh0 : Shut ops (Array.replicate ops.size false) := fun j oj hj hl => by rw [getD_replicate_false] at hl; cases hl
  refine wp_region_any hm (wpAny_of_F (S := S) (F := fun k => stepHas R k || k == i || k == j) _ _ _ _ ?_)
  have key : wpAnyF P ops Q S (fun k => stepHas R k || k == i || k == j) (stepCount R + (2 + (C.length + T.length))) (Array.replicate ops.size false) a w.drew := by
    refine anyF_of_steps sel hQ n _ _ R _ a w.drew sh0 hS hn h3 (fun a1 w1 sh hS1 hn1 hl => ?_) h
    have sh1 := shut_set (i := i) sh (by rw [ha]; simp)
    have sh2 := shut_set (i := j) sh1 (by rw [hb]; simp)
    refine anyF_of_two ha hb hc hd (fun a2 w2 hS2 hn2 he => ?_) hl.1 hl.2
    refine anyF_of_any _ _ a2 w2 (fun k hk => ?_) (any_of_list _ _ C _ a2 w2 h6 (fun a3 w3 ht => any_of_tail sel hQ T _ a3 w3 (shut_seq _ _ sh2 h6) ht.1 h7 h8 ht.2) he)
    have hlt : k < ops.size := by
      rcases Nat.lt_or_ge k ops.size with h' | h'
      · exact h'
      · exfalso
        rw [Array.getD_eq_getD_getElem?, Array.getElem?_eq_none (by rw [Array.size_setIfInBounds, Array.size_setIfInBounds, stepList_size]; simpa using h')] at hk
        cases hk
    have := List.all_eq_true.1 h5 k (List.mem_range.2 hlt)
    rw [hk] at this
    simpa using this
  rw [h2] at key
  exact key
theorem steps_two {i j : Nat} {C T : List Nat} {n : Nat} {o o' : Oper} (ho : ops[i]? = some o) (ho' : ops[j]? = some o')
    (ha : ∀ K' : Act → World → Prop, (∀ a' w', S w' → a'.tmps.size = n → (∀ K2 : Act → World → Prop, (∀ a2 w2, S w2 → a2.tmps.size = n → wpEnd P ops Q C T n a2 w2 → K2 a2 w2) → wpList P ops (Exit.then K2 Q) [o'] a' w') → K' a' w') → wpList P ops (Exit.then K' Q) [o] a w)
    (hb : ∀ K' : Act → World → Prop, (∀ a' w', S w' → a'.tmps.size = n → (∀ K2 : Act → World → Prop, (∀ a2 w2, S w2 → a2.tmps.size = n → wpEnd P ops Q C T n a2 w2 → K2 a2 w2) → wpList P ops (Exit.then K2 Q) [o] a' w') → K' a' w') → wpList P ops (Exit.then K' Q) [o'] a w) :
    wpSteps P ops Q S n (wpTwo P ops Q S i j C T n) [] a w :=
  ⟨op_list ho fun K' hK' => ha K' fun a' w' hS hn h => hK' a' w' ⟨⟨hS, hn⟩, op_list ho' fun K2 hK2 => h K2 fun a2 w2 h1 h2 h3 => hK2 a2 w2 ⟨⟨h1, h2⟩, h3⟩⟩,
    op_list ho' fun K' hK' => hb K' fun a' w' hS hn h => hK' a' w' ⟨⟨hS, hn⟩, op_list ho fun K2 hK2 => h K2 fun a2 w2 h1 h2 h3 => hK2 a2 w2 ⟨⟨h1, h2⟩, h3⟩⟩⟩
theorem end_mk {C T : List Nat} {l : List Oper} {n : Nat} (hl : (C.filterMap fun i => ops[i]?) = l)
    (h : ∀ K : Act → World → Prop, (∀ a2 w2, a2.tmps.size = n → wpStI P ops w2 (fun b2 => Q .normal b2 w2) T a2 → K a2 w2) → wpList P ops (Exit.then K Q) l a w) : wpEnd P ops Q C T n a w := by
  subst hl
  exact h _ fun a2 w2 h1 h2 => ⟨h1, h2⟩
end
end Go.Proofs.Ytoelgnjnbelokaa
