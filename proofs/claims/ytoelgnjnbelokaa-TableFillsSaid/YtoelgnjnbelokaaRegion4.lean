/-
  A region that draws its order, walked along a tree: where more than one memory-making operation can come up, each is walked first.
-/
import Derived.Test.YtoelgnjnbelokaaRegion3
namespace Go.Proofs.Ytoelgnjnbelokaa
open Go.RowKit

inductive RTree where
  | done
  | rd (l : List Nat) (t : RTree)
  | wl (l : List Nat) (t : RTree)
  | one (i : Nat) (t : RTree)
  | two (i j : Nat) (ti tj : RTree)
  | three (i j k : Nat) (ti tj tk : RTree)
def treeCount : RTree → Nat
  | .done => 0
  | .rd l t | .wl l t => l.length + treeCount t
  | .one _ t => 1 + treeCount t
  | .two _ _ t _ => 1 + treeCount t
  | .three _ _ _ t _ _ => 1 + treeCount t
def treeHas : RTree → Nat → Bool
  | .done, _ => false
  | .rd l t, j | .wl l t, j => l.contains j || treeHas t j
  | .one i t, j => i == j || treeHas t j
  | .two i _ t _, j => i == j || treeHas t j
  | .three i _ _ t _ _, j => i == j || treeHas t j
def treeB (ops : Array Oper) (F : Nat → Bool) (n : Nat) (fin : Array Bool) : RTree → Array Bool → Bool
  | .done, listed => decide (listed = fin)
  | .rd l t, listed => headI ops F true n l listed && treeB ops F n fin t (listAll listed l)
  | .wl l t, listed => headI ops F false n l listed && treeB ops F n fin t (listAll listed l)
  | .one i t, listed => decide (Region.ready .any ops listed = [i]) && treeB ops F n fin t (listed.setIfInBounds i true)
  | .two i j ti tj, listed => decide (Region.ready .any ops listed = [i, j]) && decide (treeCount ti = treeCount tj) && treeB ops F n fin ti (listed.setIfInBounds i true) && treeB ops F n fin tj (listed.setIfInBounds j true)
  | .three i j k ti tj tk, listed => decide (Region.ready .any ops listed = [i, j, k]) && decide (treeCount ti = treeCount tj) && decide (treeCount ti = treeCount tk) && treeB ops F n fin ti (listed.setIfInBounds i true) && treeB ops F n fin tj (listed.setIfInBounds j true) && treeB ops F n fin tk (listed.setIfInBounds k true)
def wpTree (P : Program) (ops : Array Oper) (Q : Exit → Act → World → Prop) (S : World → Prop) (n : Nat) (K : Act → World → Prop) : RTree → Act → World → Prop
  | .done, a, w => K a w
  | .rd l t, a, w => ∃ b, (∀ w', S w' → wpStI P ops w' (fun x => x = b) l a) ∧ wpTree P ops Q S n K t b w
  | .wl l t, a, w => ∃ b, (∀ w', wpStI P ops w' (fun x => x = b) l a) ∧ wpTree P ops Q S n K t b w
  | .one i t, a, w => wpOp P ops Q i (fun a' w' => (S w' ∧ a'.tmps.size = n) ∧ wpTree P ops Q S n K t a' w') a w
  | .two i j ti tj, a, w => wpOp P ops Q i (fun a' w' => (S w' ∧ a'.tmps.size = n) ∧ wpTree P ops Q S n K ti a' w') a w ∧ wpOp P ops Q j (fun a' w' => (S w' ∧ a'.tmps.size = n) ∧ wpTree P ops Q S n K tj a' w') a w
  | .three i j k ti tj tk, a, w => wpOp P ops Q i (fun a' w' => (S w' ∧ a'.tmps.size = n) ∧ wpTree P ops Q S n K ti a' w') a w ∧ wpOp P ops Q j (fun a' w' => (S w' ∧ a'.tmps.size = n) ∧ wpTree P ops Q S n K tj a' w') a w ∧ wpOp P ops Q k (fun a' w' => (S w' ∧ a'.tmps.size = n) ∧ wpTree P ops Q S n K tk a' w') a w
section
variable {P : Program} {ops : Array Oper} {Q : Exit → Act → World → Prop} {S : World → Prop} {w : World} {a : Act}
theorem anyF_of_tree {F : Nat → Bool} (hsel : ∀ (j : Nat) (o : Oper) cs b, ops[j]? = some o → o.op ≠ .select cs b) (hQ : ∀ c d v a w, Q (.panic c) (a.put (some d) v) w → Q (.panic c) a w) (n m : Nat) (fin : Array Bool) (K : Act → World → Prop)
    (hK : ∀ a w, Shut ops fin → S w → a.tmps.size = n → K a w → wpAnyF P ops Q S F m fin a w) :
    ∀ (t : RTree) (listed : Array Bool) (a : Act) (w : World), Shut ops listed → S w → a.tmps.size = n → treeB ops F n fin t listed = true → wpTree P ops Q S n K t a w → wpAnyF P ops Q S F (treeCount t + m) listed a w
  | .done, listed, a, w, hsh, hS, hn, hB, h => by
    rw [treeCount, Nat.zero_add]
    simp only [treeB, decide_eq_true_eq] at hB
    subst hB
    exact hK a w hsh hS hn h
  | .rd l t, listed, a, w, hsh, hS, hn, hB, h => by
    simp only [treeB, Bool.and_eq_true] at hB
    obtain ⟨b, h1, h2⟩ := h
    rw [treeCount, Nat.add_assoc]
    exact anyF_of_head (S' := S) (.inl ⟨rfl, rfl⟩) hsel hQ n _ w hS l listed a hsh hn hB.1 h1 fun hb => anyF_of_tree hsel hQ n m fin K hK t _ b w (shut_head l _ hsh hB.1) hS hb hB.2 h2
  | .wl l t, listed, a, w, hsh, hS, hn, hB, h => by
    simp only [treeB, Bool.and_eq_true] at hB
    obtain ⟨b, h1, h2⟩ := h
    rw [treeCount, Nat.add_assoc]
    exact anyF_of_head (S' := fun _ => True) (need := false) (.inr fun _ => trivial) hsel hQ n _ w trivial l listed a hsh hn hB.1 (fun w' _ => h1 w') fun hb => anyF_of_tree hsel hQ n m fin K hK t _ b w (shut_head l _ hsh hB.1) hS hb hB.2 h2
  | .one i t, listed, a, w, hsh, hS, hn, hB, h => by
    simp only [treeB, Bool.and_eq_true, decide_eq_true_eq] at hB
    rw [treeCount, show 1 + treeCount t + m = (treeCount t + m) + 1 by omega]
    refine ⟨fun h1 => (by rw [hB.1] at h1; cases h1), fun k hk => ?_⟩
    rw [hB.1] at hk
    obtain rfl : k = i := by simpa using hk
    exact wpOp_mono (fun a' w' h' => ⟨fun _ _ => h'.1.1, anyF_of_tree hsel hQ n m fin K hK t _ a' w' (shut_set hsh (by rw [hB.1]; simp)) h'.1.1 h'.1.2 hB.2 h'.2⟩) h
  | .two i j ti tj, listed, a, w, hsh, hS, hn, hB, h => by
    simp only [treeB, Bool.and_eq_true, decide_eq_true_eq] at hB
    obtain ⟨⟨⟨hr, hc⟩, h1⟩, h2⟩ := hB
    rw [treeCount, show 1 + treeCount ti + m = (treeCount ti + m) + 1 by omega]
    refine ⟨fun h1 => (by rw [hr] at h1; cases h1), fun k hk => ?_⟩
    rw [hr] at hk
    have hk' : k = i ∨ k = j := by simpa using hk
    rcases hk' with rfl | rfl
    · exact wpOp_mono (fun a' w' h' => ⟨fun _ _ => h'.1.1, anyF_of_tree hsel hQ n m fin K hK ti _ a' w' (shut_set hsh (by rw [hr]; simp)) h'.1.1 h'.1.2 h1 h'.2⟩) h.1
    · refine wpOp_mono (fun a' w' h' => ⟨fun _ _ => h'.1.1, ?_⟩) h.2
      rw [hc]
      exact anyF_of_tree hsel hQ n m fin K hK tj _ a' w' (shut_set hsh (by rw [hr]; simp)) h'.1.1 h'.1.2 h2 h'.2
  | .three i j k ti tj tk, listed, a, w, hsh, hS, hn, hB, h => by
    simp only [treeB, Bool.and_eq_true, decide_eq_true_eq] at hB
    obtain ⟨⟨⟨⟨⟨hr, hc⟩, hc2⟩, h1⟩, h2⟩, h3⟩ := hB
    rw [treeCount, show 1 + treeCount ti + m = (treeCount ti + m) + 1 by omega]
    refine ⟨fun h1 => (by rw [hr] at h1; cases h1), fun l hl => ?_⟩
    rw [hr] at hl
    have hl' : l = i ∨ l = j ∨ l = k := by simpa using hl
    rcases hl' with rfl | rfl | rfl
    · exact wpOp_mono (fun a' w' h' => ⟨fun _ _ => h'.1.1, anyF_of_tree hsel hQ n m fin K hK ti _ a' w' (shut_set hsh (by rw [hr]; simp)) h'.1.1 h'.1.2 h1 h'.2⟩) h.1
    · refine wpOp_mono (fun a' w' h' => ⟨fun _ _ => h'.1.1, ?_⟩) h.2.1
      rw [hc]
      exact anyF_of_tree hsel hQ n m fin K hK tj _ a' w' (shut_set hsh (by rw [hr]; simp)) h'.1.1 h'.1.2 h2 h'.2
    · refine wpOp_mono (fun a' w' h' => ⟨fun _ _ => h'.1.1, ?_⟩) h.2.2
      rw [hc2]
      exact anyF_of_tree hsel hQ n m fin K hK tk _ a' w' (shut_set hsh (by rw [hr]; simp)) h'.1.1 h'.1.2 h3 h'.2
/-- All that the kernel checks of such a region. -/
def rcT (ops : Array Oper) (t : RTree) (fin : Array Bool) (C T : List Nat) (n : Nat) : Bool :=
  Region.noSelect ops && decide (treeCount t + (C.length + T.length) = ops.size) &&
  treeB ops (treeHas t) n fin t (Array.replicate ops.size false) &&
  decide (fin.size = ops.size) &&
  (List.range ops.size).all (fun k => fin.getD k true || !(treeHas t k)) &&
  seqI ops C fin && headI ops (fun j => T.contains j) true n T (listAll fin C) &&
  (Region.ready .any ops (listAll (listAll fin C) T)).isEmpty
theorem shut_tree {F : Nat → Bool} {n : Nat} {fin : Array Bool} : ∀ (t : RTree) (listed : Array Bool), Shut ops listed → treeB ops F n fin t listed = true → Shut ops fin
  | .done, listed, h, hB => by
    simp only [treeB, decide_eq_true_eq] at hB
    subst hB
    exact h
  | .rd l t, listed, h, hB => by
    simp only [treeB, Bool.and_eq_true] at hB
    exact shut_tree t _ (shut_head l _ h hB.1) hB.2
  | .wl l t, listed, h, hB => by
    simp only [treeB, Bool.and_eq_true] at hB
    exact shut_tree t _ (shut_head l _ h hB.1) hB.2
  | .one i t, listed, h, hB => by
    simp only [treeB, Bool.and_eq_true, decide_eq_true_eq] at hB
    exact shut_tree t _ (shut_set h (by rw [hB.1]; simp)) hB.2
  | .two i j ti tj, listed, h, hB => by
    simp only [treeB, Bool.and_eq_true, decide_eq_true_eq] at hB
    exact shut_tree ti _ (shut_set h (by rw [hB.1.1.1]; simp)) hB.1.2
  | .three i j k ti tj tk, listed, h, hB => by
    simp only [treeB, Bool.and_eq_true, decide_eq_true_eq] at hB
    exact shut_tree ti _ (shut_set h (by rw [hB.1.1.1.1.1]; simp)) hB.1.1.2
theorem wp_region_tree {id : Nat} (t : RTree) (fin : Array Bool) (C T : List Nat) (S : World → Prop) (hm : P.follows .mixedOrders = true) (n : Nat) (hn : a.tmps.size = n) (hk : rcT ops t fin C T n = true)
    (hQ : ∀ c d v a w, Q (.panic c) (a.put (some d) v) w → Q (.panic c) a w) (hS : S w.drew)
    (h : wpTree P ops Q S n (wpEnd P ops Q C T n) t a w.drew) :
    (Code.region id ops true).wp P Q a w := by
  simp only [rcT, Bool.and_eq_true, decide_eq_true_eq] at hk
  obtain ⟨⟨⟨⟨⟨⟨⟨h1, h2⟩, h3⟩, h4⟩, h5⟩, h6⟩, h7⟩, h8⟩ := hk
  have sel := fun j o cs b hj => Region.noSelect_spec h1 j o cs b hj
  have sh0 : Shut ops (Array.replicate ops.size false) := fun j oj hj hl => by rw [getD_replicate_false] at hl; cases hl
  refine wp_region_any hm (wpAny_of_F (S := S) (F := treeHas t) _ _ _ _ ?_)
  have key : wpAnyF P ops Q S (treeHas t) (treeCount t + (C.length + T.length)) (Array.replicate ops.size false) a w.drew := by
    refine anyF_of_tree sel hQ n _ fin _ (fun a2 w2 sh2 hS2 hn2 he => ?_) t _ a w.drew sh0 hS hn h3 h
    refine anyF_of_any _ _ a2 w2 (fun k hk => ?_) (any_of_list _ _ C _ a2 w2 h6 (fun a3 w3 ht => any_of_tail sel hQ T _ a3 w3 (shut_seq _ _ sh2 h6) ht.1 h7 h8 ht.2) he)
    have hlt : k < ops.size := by
      rcases Nat.lt_or_ge k ops.size with h' | h'
      · exact h'
      · exfalso
        rw [Array.getD_eq_getD_getElem?, Array.getElem?_eq_none (by rw [h4]; exact h')] at hk
        cases hk
    have := List.all_eq_true.1 h5 k (List.mem_range.2 hlt)
    rw [hk] at this
    simpa using this
  rw [h2] at key
  exact key
theorem tree_rd {l : List Nat} {t : RTree} {n : Nat} {K : Act → World → Prop} (h : ∃ b, (∀ w', S w' → StI P ops w' (fun x => x = b) l a) ∧ wpTree P ops Q S n K t b w) : wpTree P ops Q S n K (.rd l t) a w := by
  obtain ⟨b, h1, h2⟩ := h
  exact ⟨b, fun w' hS => (h1 w' hS).out, h2⟩
theorem tree_wl {l : List Nat} {t : RTree} {n : Nat} {K : Act → World → Prop} (h : ∃ b, (∀ w', StI P ops w' (fun x => x = b) l a) ∧ wpTree P ops Q S n K t b w) : wpTree P ops Q S n K (.wl l t) a w := by
  obtain ⟨b, h1, h2⟩ := h
  exact ⟨b, fun w' => (h1 w').out, h2⟩
/-- One operation of the tree, and then the rest of it. -/
def TStep (P : Program) (ops : Array Oper) (Q : Exit → Act → World → Prop) (S : World → Prop) (n : Nat) (K : Act → World → Prop) (t : RTree) (o : Oper) (a : Act) (w : World) : Prop :=
  ∀ K' : Act → World → Prop, (∀ a' w', S w' → a'.tmps.size = n → wpTree P ops Q S n K t a' w' → K' a' w') → wpList P ops (Exit.then K' Q) [o] a w
theorem tree_one {i : Nat} {t : RTree} {n : Nat} {K : Act → World → Prop} {o : Oper} (ho : ops[i]? = some o) (h : TStep P ops Q S n K t o a w) : wpTree P ops Q S n K (.one i t) a w :=
  op_list ho fun K' hK' => h K' fun a' w' h1 h2 h3 => hK' a' w' ⟨⟨h1, h2⟩, h3⟩
theorem tree_two {i j : Nat} {ti tj : RTree} {n : Nat} {K : Act → World → Prop} {o o' : Oper} (ho : ops[i]? = some o) (ho' : ops[j]? = some o') (h : TStep P ops Q S n K ti o a w) (h' : TStep P ops Q S n K tj o' a w) : wpTree P ops Q S n K (.two i j ti tj) a w :=
  ⟨op_list ho fun K' hK' => h K' fun a' w' h1 h2 h3 => hK' a' w' ⟨⟨h1, h2⟩, h3⟩, op_list ho' fun K' hK' => h' K' fun a' w' h1 h2 h3 => hK' a' w' ⟨⟨h1, h2⟩, h3⟩⟩
theorem tree_three {i j k : Nat} {ti tj tk : RTree} {n : Nat} {K : Act → World → Prop} {o o' o'' : Oper} (ho : ops[i]? = some o) (ho' : ops[j]? = some o') (ho'' : ops[k]? = some o'') (h : TStep P ops Q S n K ti o a w) (h' : TStep P ops Q S n K tj o' a w) (h'' : TStep P ops Q S n K tk o'' a w) : wpTree P ops Q S n K (.three i j k ti tj tk) a w :=
  ⟨op_list ho fun K' hK' => h K' fun a' w' h1 h2 h3 => hK' a' w' ⟨⟨h1, h2⟩, h3⟩, op_list ho' fun K' hK' => h' K' fun a' w' h1 h2 h3 => hK' a' w' ⟨⟨h1, h2⟩, h3⟩, op_list ho'' fun K' hK' => h'' K' fun a' w' h1 h2 h3 => hK' a' w' ⟨⟨h1, h2⟩, h3⟩⟩
end
end Go.Proofs.Ytoelgnjnbelokaa
