/-
  A region that draws its order: the operations that only read (in every world that meets S) are walked first, the others, which come up in one forced order, are walked behind them.
  The reading walk of a region behind a name that does not unfold: an operation that is not wanted would otherwise let each tactic run the rest of the region.
  A region that draws its order, in which at one place either of two operations may come first: both orders are walked.
  A region that draws its order, walked along a tree: where more than one memory-making operation can come up, each is walked first.
-/
import Derived.Test.YtoelgnjnbelokaaLib
import Derived.StillTail
import Derived.StillTactics
namespace Go.Proofs.Ytoelgnjnbelokaa
open Go.RowKit

/-- j waits for i, through whatever edges. -/
def waitsT (ops : Array Oper) : Nat → Nat → Nat → Bool
  | 0, _, _ => false
  | f + 1, j, i => match ops[j]? with
    | some oj => oj.after.toList.any fun e => Region.binds .any e && (e.on == i || waitsT ops f e.on i)
    | none => false

/-- Whatever an operation that is listed waits for is listed. -/
def Shut (ops : Array Oper) (listed : Array Bool) : Prop := ∀ j oj, ops[j]? = some oj → listed.getD j false = true → ∀ e ∈ oj.after, Region.binds .any e = true → listed.getD e.on false = true

section
variable {P : Program} {ops : Array Oper} {Q : Exit → Act → World → Prop} {S : World → Prop}

theorem shut_set {i : Nat} {listed : Array Bool} (h : Shut ops listed) (hi : i ∈ Region.ready .any ops listed) : Shut ops (listed.setIfInBounds i true) := by
  obtain ⟨_, oi, hoi, hall⟩ := mem_ready.1 hi
  intro j oj hj hl e he hb
  by_cases hij : i = j
  · subst hij
    obtain rfl : oj = oi := Option.some.inj (hj.symm.trans hoi)
    exact getD_set_true (hall e he hb)
  · rw [getD_set_ne false hij] at hl
    exact getD_set_true (h j oj hj hl e he hb)

theorem waitsT_not {listed : Array Bool} (h : Shut ops listed) {i : Nat} (hi : listed.getD i false = false) :
    ∀ (f j : Nat), waitsT ops f j i = true → ∃ oj, ops[j]? = some oj ∧ ∃ e ∈ oj.after, Region.binds .any e = true ∧ listed.getD e.on false = false
  | 0, j, hw => by simp [waitsT] at hw
  | f + 1, j, hw => by
    unfold waitsT at hw
    cases ho : ops[j]? with
    | none => rw [ho] at hw; cases hw
    | some oj =>
      rw [ho] at hw
      obtain ⟨e, he, hb⟩ := List.any_eq_true.1 hw
      simp only [Bool.and_eq_true, Bool.or_eq_true, beq_iff_eq] at hb
      refine ⟨oj, rfl, e, by simpa using he, hb.1, ?_⟩
      rcases hb.2 with hon | hon
      · rw [hon]; exact hi
      · cases hl : listed.getD e.on false with
        | false => rfl
        | true =>
          obtain ⟨ok, hok, e', he', hb', hn⟩ := waitsT_not h hi f e.on hon
          rw [h e.on ok hok hl e' he' hb'] at hn
          cases hn

theorem waitsT_ready {listed : Array Bool} (h : Shut ops listed) {i j f : Nat} (hi : listed.getD i false = false) (hw : waitsT ops f j i = true) : j ∉ Region.ready .any ops listed := by
  intro hr
  obtain ⟨_, oj, hoj, hall⟩ := mem_ready.1 hr
  obtain ⟨ok, hok, e, he, hb, hn⟩ := waitsT_not h hi f j hw
  obtain rfl : ok = oj := Option.some.inj (hok.symm.trans hoj)
  rw [hall e he hb] at hn
  cases hn

/-- In every world that meets S the operation leaves v in its slot and the world as it is. -/
def YieldsS (P : Program) (ops : Array Oper) (S : World → Prop) (o : Oper) (v : Value) (a : Act) : Prop := ∀ w, S w → YieldsAt P ops w o v a

theorem YieldsS.of_same {o : Oper} {v : Value} {a a' : Act} (hy : YieldsS P ops S o v a) (he : execOp a'.eval o = execOp a.eval o)
    (hw : Region.wanted o (yielded ops a'.tmps) = Region.wanted o (yielded ops a.tmps)) : YieldsS P ops S o v a' := fun w hS => (hy w hS).of_same he hw

theorem YieldsS.wpOp {i : Nat} {o : Oper} {v : Value} {a : Act} (hi : ops[i]? = some o) (hy : YieldsS P ops S o v a)
    {K : Act → World → Prop} {w : World} (hS : S w) (h : K (a.put o.dst v) w) : wpOp P ops Q i K a w :=
  wpOp_of_stOp (K := fun a' => K a' w) (fun _ h => h) ((hy w hS).stOp hi h)

theorem wpOp_putS {j : Nat} {oi oj : Oper} {v : Value} (hj : ops[j]? = some oj) (hap : oi.apart ops oj = true)
    (hsi : ∀ cs b, oi.op ≠ .select cs b) (hsj : ∀ cs b, oj.op ≠ .select cs b)
    (hQ : ∀ c a w, Q (.panic c) (a.put oi.dst v) w → Q (.panic c) a w) {K : Act → World → Prop} {a : Act} {w : World}
    (hy : YieldsS P ops S oi v a) (h : wpOp P ops Q j K (a.put oi.dst v) w) :
    wpOp P ops Q j (fun a' w' => YieldsS P ops S oi v a' ∧ K (a'.put oi.dst v) w') a w := by
  obtain ⟨h1, h2, h3⟩ := Oper.apart_spec hap
  have stay : ∀ u, YieldsS P ops S oi v (a.put oj.dst u) := fun u => hy.of_same (execOp_put oi hsi a oj.dst u h3) (wanted_put oi a oj.dst u h3)
  have stayD : ∀ d u, YieldsS P ops S oi v (({ a with defers := d :: a.defers } : Act).put oj.dst u) := fun d u => by
    have hd : YieldsS P ops S oi v ({ a with defers := d :: a.defers } : Act) := hy.of_same rfl rfl
    exact hd.of_same (execOp_put oi hsi _ oj.dst u h3) (wanted_put oi _ oj.dst u h3)
  unfold Go.wpOp at h ⊢
  simp only [hj] at h ⊢
  rw [wanted_put oj a oi.dst v h1] at h
  by_cases hw : Region.wanted oj (yielded ops a.tmps) = true
  · rw [if_pos hw] at h ⊢
    rcases h with h | ⟨hasks, hlets⟩
    · left
      unfold Oper.wp at h ⊢
      rw [execOp_put oj hsj a oi.dst v h1] at h
      cases hr : (execOp a.eval oj).run P w with
      | ok n w' =>
        rw [hr] at h
        cases n with
        | value u => exact ⟨stay u, by rw [← Act.put_comm a v u h2]; exact h⟩
        | skip => exact ⟨stay undef, by rw [← Act.put_comm a v undef h2]; exact h⟩
        | defer d => exact ⟨stayD d undef, by rw [← Act.put_comm _ v undef h2, ← Act.put_defers]; exact h⟩
        | enter f args =>
          refine Calls.mono h fun e w'' he => ?_
          cases e with
          | returned u => exact ⟨stay u, by rw [← Act.put_comm a v u h2]; exact he⟩
          | panicked c => exact hQ _ _ _ he
          | outgrown => exact he
        | row row args => exact Rows.mono h fun u w'' he => ⟨stay u, by rw [← Act.put_comm a v u h2]; exact he⟩
        | _ => exact h
      | halt x w' =>
        rw [hr] at h
        cases x with
        | panic u => exact hQ _ _ _ h
        | _ => exact h
    · right
      refine ⟨?_, hlets⟩
      unfold Oper.asks at hasks ⊢
      rw [execOp_put oj hsj a oi.dst v h1] at hasks
      exact hasks
  · rw [if_neg hw] at h ⊢
    exact ⟨stay undef, by rw [← Act.put_comm a v undef h2]; exact h⟩

/-- Whatever order is picked; each operation that F names keeps S. -/
def wpAnyF (P : Program) (ops : Array Oper) (Q : Exit → Act → World → Prop) (S : World → Prop) (F : Nat → Bool) : Nat → Array Bool → Act → World → Prop
  | 0, listed, a, w => Region.ready .any ops listed = [] ∧ Q .normal a w
  | fuel + 1, listed, a, w =>
    (Region.ready .any ops listed = [] → Q .normal a w) ∧
    ∀ i ∈ Region.ready .any ops listed, wpOp P ops Q i (fun a' w' => (F i = true → S w → S w') ∧ wpAnyF P ops Q S F fuel (listed.setIfInBounds i true) a' w') a w

theorem wpAny_of_F {F : Nat → Bool} : ∀ (fuel : Nat) (listed : Array Bool) (a : Act) (w : World), wpAnyF P ops Q S F fuel listed a w → wpAny P .any ops Q fuel listed a w
  | 0, _, _, _, h => h
  | fuel + 1, _, _, _, h => ⟨h.1, fun i hi => wpOp_mono (fun a' w' h' => wpAny_of_F fuel _ a' w' h'.2) (h.2 i hi)⟩

theorem wpAnyF_first {F : Nat → Bool} {S' : World → Prop} {need : Bool} (hneed : need = true ∧ S' = S ∨ ∀ w, S' w) {i : Nat} {oi : Oper} {v : Value} (hi : ops[i]? = some oi) (hsel : ∀ (j : Nat) (o : Oper) cs b, ops[j]? = some o → o.op ≠ .select cs b)
    (hQ : ∀ c a w, Q (.panic c) (a.put oi.dst v) w → Q (.panic c) a w) (U : Array Bool)
    (hfree : ∀ j oj, ops[j]? = some oj → j ≠ i → U.getD j true = false → waitsT ops ops.size j i = false → oi.apart ops oj = true ∧ (need = true → F j = true)) :
    ∀ (fuel : Nat) (listed : Array Bool) (a : Act) (w : World), Shut ops listed → (∀ j, listed.getD j true = false → U.getD j true = false) →
      i ∈ Region.ready .any ops listed → YieldsS P ops S' oi v a → S' w →
      wpAnyF P ops Q S F fuel (listed.setIfInBounds i true) (a.put oi.dst v) w → wpAnyF P ops Q S F (fuel + 1) listed a w := by
  intro fuel
  induction fuel with
  | zero =>
    intro listed a w _ _ hr hy hS H
    refine ⟨fun h => (by rw [h] at hr; cases hr), fun j hj => ?_⟩
    by_cases hji : j = i
    · subst hji; exact hy.wpOp hi hS ⟨fun _ h => h, H⟩
    · have := ready_mono hj hji
      rw [H.1] at this
      cases this
  | succ fuel ih =>
    intro listed a w hsh hU hr hy hS H
    refine ⟨fun h => (by rw [h] at hr; cases hr), fun j hj => ?_⟩
    by_cases hji : j = i
    · subst hji; exact hy.wpOp hi hS ⟨fun _ h => h, H⟩
    · have h1 := H.2 j (ready_mono hj hji)
      obtain ⟨hjun, oj, hoj, hall⟩ := mem_ready.1 hj
      have hiun : listed.getD i false = false := getD_both (mem_ready.1 hr).1
      have hnw : waitsT ops ops.size j i = false := by
        cases hw : waitsT ops ops.size j i with
        | false => rfl
        | true => exact absurd hj (waitsT_ready hsh hiun hw)
      obtain ⟨hap, hF⟩ := hfree j oj hoj hji (hU j hjun) hnw
      have h2 := wpOp_putS hoj hap (fun cs b => hsel i oi cs b hi) (fun cs b => hsel j oj cs b hoj) hQ hy h1
      refine wpOp_mono (fun a' w' h3 => ⟨h3.2.1, ih (listed.setIfInBounds j true) a' w' (shut_set hsh hj) (fun k hk => ?_) (ready_mono hr (Ne.symm hji)) h3.1 ?_ ?_⟩) h2
      · by_cases hjk : j = k
        · subst hjk; exact hU _ hjun
        · rw [getD_set_ne true hjk] at hk; exact hU k hk
      · rcases hneed with ⟨hn, rfl⟩ | hn
        · exact h3.2.1 (hF hn) hS
        · exact hn _
      · rw [Array.setIfInBounds_comm _ _ hji]
        exact h3.2.2

/-- The reading walk: operation by operation, the world standing still. -/
def wpStI (P : Program) (ops : Array Oper) (w : World) (K : Act → Prop) : List Nat → Act → Prop
  | [], a => K a
  | i :: r, a => stOp P ops w i (wpStI P ops w K r) a

theorem stI_nil {w : World} {K : Act → Prop} {a : Act} (h : K a) : wpStI P ops w K [] a := h
theorem stI_step {w : World} {K : Act → Prop} {a : Act} {i : Nat} {r : List Nat} {o : Oper} (ho : ops[i]? = some o)
    (h : ∀ K' : Act → Prop, (∀ a, wpStI P ops w K r a → K' a) → if Region.wanted o (yielded ops a.tmps) then o.still P a w K' else K' (a.put o.dst undef)) : wpStI P ops w K (i :: r) a := by
  show stOp P ops w i _ a
  unfold stOp
  rw [ho]
  exact h _ fun _ h => h

theorem getD_put_ne {a : Act} {d e : Nat} {v : Value} (h : d ≠ e) : (a.put (some d) v).tmps.getD e undef = a.tmps.getD e undef := by
  simp [Act.put, Array.getElem?_setIfInBounds_ne h]
theorem getD_put_eq {a : Act} {d : Nat} {v : Value} (h : d < a.tmps.size) : (a.put (some d) v).tmps.getD d undef = v := by
  simp [Act.put, h]

def dstOf (ops : Array Oper) (i : Nat) : Option Nat := (ops[i]?).bind (·.dst)

theorem stOp_get {w : World} {i : Nat} {K : Act → Prop} {a : Act} (h : stOp P ops w i K a) : ∃ a', K a' ∧ a'.tmps.size = a.tmps.size ∧ ∀ e, dstOf ops i ≠ some e → a'.tmps.getD e undef = a.tmps.getD e undef := by
  cases ho : ops[i]? with
  | none =>
    unfold stOp at h
    rw [ho] at h
    exact ⟨a, h, rfl, fun _ _ => rfl⟩
  | some o =>
    obtain ⟨v, _, hK⟩ := yieldsAt_of_stOp ho h
    refine ⟨_, hK, ?_, fun e he => ?_⟩
    · cases hd : o.dst <;> simp [Act.put]
    · cases hd : o.dst with
      | none => rfl
      | some d => exact getD_put_ne fun hde => he (by simp [dstOf, ho, hd, hde])

theorem stI_keeps {w : World} {b : Act} : ∀ (r : List Nat) (a : Act) (e : Nat), wpStI P ops w (fun x => x = b) r a → (∀ i ∈ r, dstOf ops i ≠ some e) → b.tmps.getD e undef = a.tmps.getD e undef
  | [], a, e, h, _ => by rw [show a = b from h]
  | i :: r, a, e, h, hn => by
    obtain ⟨a', h', _, hg⟩ := stOp_get (show stOp P ops w i _ a from h)
    rw [stI_keeps r a' e h' fun j hj => hn j (List.mem_cons_of_mem _ hj)]
    exact hg e (hn i (by simp))

/-- What must hold of the reading part, operation by operation. -/
def headI (ops : Array Oper) (F : Nat → Bool) (need : Bool) (n : Nat) : List Nat → Array Bool → Bool
  | [], _ => true
  | i :: r, listed =>
    (Region.ready .any ops listed).contains i &&
    (match ops[i]? with
     | some oi => (match oi.dst with | some d => decide (d < n) && r.all (fun k => dstOf ops k != some d) | none => false) &&
        (List.range ops.size).all fun j => j == i || listed.getD j true || waitsT ops ops.size j i ||
          (match ops[j]? with | some oj => oi.apart ops oj && (!need || F j) | none => true)
     | none => false) &&
    headI ops F need n r (listed.setIfInBounds i true)

def listAll (listed : Array Bool) : List Nat → Array Bool
  | [] => listed
  | i :: r => listAll (listed.setIfInBounds i true) r

theorem anyF_of_head {F : Nat → Bool} {S' : World → Prop} {need : Bool} {b : Act} (hneed : need = true ∧ S' = S ∨ ∀ w, S' w) (hsel : ∀ (j : Nat) (o : Oper) cs b, ops[j]? = some o → o.op ≠ .select cs b)
    (hQ : ∀ c d v a w, Q (.panic c) (a.put (some d) v) w → Q (.panic c) a w) (n m : Nat) (w : World) (hS : S' w) : ∀ (r : List Nat) (listed : Array Bool) (a : Act), Shut ops listed → a.tmps.size = n → headI ops F need n r listed = true →
    (∀ w', S' w' → wpStI P ops w' (fun x => x = b) r a) → (b.tmps.size = n → wpAnyF P ops Q S F m (listAll listed r) b w) → wpAnyF P ops Q S F (r.length + m) listed a w
  | [], listed, a, _, hn, _, hR, H => by
    obtain rfl : a = b := hR w hS
    rw [List.length_nil, Nat.zero_add]
    exact H hn
  | i :: r, listed, a, hsh, hn, hB, hR, H => by
    simp only [headI, Bool.and_eq_true] at hB
    obtain ⟨⟨hc, hm⟩, hrest⟩ := hB
    have hmem : i ∈ Region.ready .any ops listed := by simpa using hc
    cases ho : ops[i]? with
    | none => rw [ho] at hm; simp at hm
    | some oi =>
      rw [ho] at hm
      simp only [Bool.and_eq_true] at hm
      obtain ⟨hd, hall⟩ := hm
      cases hdst : oi.dst with
      | none => rw [hdst] at hd; simp at hd
      | some d =>
        rw [hdst] at hd
        simp only [Bool.and_eq_true, decide_eq_true_eq] at hd
        obtain ⟨hlt, hnd⟩ := hd
        have uni : ∀ w', S' w' → YieldsAt P ops w' oi (b.tmps.getD d undef) a ∧ wpStI P ops w' (fun x => x = b) r (a.put (some d) (b.tmps.getD d undef)) := fun w' hS' => by
          obtain ⟨v, hy, hK⟩ := yieldsAt_of_stOp ho (show stOp P ops w' i _ a from hR w' hS')
          rw [hdst] at hK
          have hk := stI_keeps r _ d hK fun k hk => by
            have := List.all_eq_true.1 hnd k hk
            simpa using this
          rw [getD_put_eq (by rw [hn]; exact hlt)] at hk
          rw [hk]
          exact ⟨hy, hK⟩
        have hsize : (a.put (some d) (b.tmps.getD d undef)).tmps.size = n := by rw [← hn]; simp [Act.put]
        have ih := anyF_of_head hneed hsel hQ n m w hS r (listed.setIfInBounds i true) (a.put (some d) (b.tmps.getD d undef)) (shut_set hsh hmem) hsize hrest (fun w' hS' => (uni w' hS').2) H
        rw [List.length_cons, show r.length + 1 + m = (r.length + m) + 1 by omega]
        refine wpAnyF_first (v := b.tmps.getD d undef) hneed ho hsel (fun c a w => by rw [hdst]; exact hQ c _ _ a w) listed (fun j oj hj hji hun hnw => ?_) _ listed a w hsh (fun _ h => h) hmem (fun w' hS' => (uni w' hS').1) hS (by rw [hdst]; exact ih)
        have h1 := List.all_eq_true.1 hall j (List.mem_range.2 (Array.getElem?_eq_some_iff.1 hj).1)
        rw [hj, hun, hnw] at h1
        have h1' : oi.apart ops oj = true ∧ (need = false ∨ F j = true) := by simpa [hji] using h1
        refine ⟨h1'.1, fun hnd' => ?_⟩
        rcases h1'.2 with h2 | h2
        · rw [hnd'] at h2; cases h2
        · exact h2

/-- The forced part: the operations come up one by one, in this order. -/
def seqI (ops : Array Oper) : List Nat → Array Bool → Bool
  | [], _ => true
  | i :: r, listed => decide (Region.ready .any ops listed = [i]) && seqI ops r (listed.setIfInBounds i true)

theorem any_of_list (m : Nat) (K : Act → World → Prop) : ∀ (r : List Nat) (listed : Array Bool) (a : Act) (w : World), seqI ops r listed = true →
    (∀ a w, K a w → wpAny P .any ops Q m (listAll listed r) a w) → wpList P ops (Exit.then K Q) (r.filterMap fun i => ops[i]?) a w → wpAny P .any ops Q (r.length + m) listed a w
  | [], listed, a, w, _, hK, h => by
    rw [List.length_nil, Nat.zero_add]
    exact hK a w h
  | i :: r, listed, a, w, hB, hK, h => by
    simp only [seqI, Bool.and_eq_true, decide_eq_true_eq] at hB
    rw [List.length_cons, show r.length + 1 + m = (r.length + m) + 1 by omega]
    refine ⟨fun h1 => (by rw [hB.1] at h1; cases h1), fun j hj => ?_⟩
    rw [hB.1] at hj
    obtain rfl : j = i := by simpa using hj
    have hmem : j ∈ Region.ready .any ops listed := by rw [hB.1]; simp
    obtain ⟨_, o, ho, _⟩ := mem_ready.1 hmem
    have h' : wpList P ops (Exit.then K Q) (o :: r.filterMap fun i => ops[i]?) a w := by simpa [ho] using h
    have hw : wpOp P ops Q j (wpList P ops (Exit.then K Q) (r.filterMap fun i => ops[i]?)) a w := by
      unfold wpOp
      simp only [ho]
      unfold wpList at h'
      split
      · rename_i hw
        rw [if_pos hw] at h'
        rcases h' with h' | ⟨h1, a', w', h2⟩
        · left
          unfold Oper.wp at h' ⊢
          cases hr : (execOp a.eval o).run P w with
          | ok n w' =>
            rw [hr] at h'
            cases n with
            | enter f args => exact Calls.mono h' fun e w'' he => by cases e <;> first | exact he | (obtain ⟨a', w', h2⟩ := he; exact ⟨a', w', h2⟩)
            | _ => exact h'
          | halt x w' => rw [hr] at h'; cases x <;> exact h'
        · exact .inr ⟨h1, a', w', h2⟩
      · rename_i hw
        rw [if_neg hw] at h'
        exact h'
    exact wpOp_mono (fun a' w' h' => any_of_list m K r _ a' w' hB.2 hK h') hw

theorem stI_exists {w : World} {K : Act → Prop} : ∀ (r : List Nat) (a : Act), wpStI P ops w K r a → ∃ b, wpStI P ops w (fun x => x = b) r a ∧ K b
  | [], a, h => ⟨a, rfl, h⟩
  | i :: r, a, h => by
    have h' : stOp P ops w i (wpStI P ops w K r) a := h
    cases ho : ops[i]? with
    | none =>
      unfold stOp at h'
      rw [ho] at h'
      obtain ⟨b, h1, h2⟩ := stI_exists r a h'
      refine ⟨b, ?_, h2⟩
      show stOp P ops w i _ a
      unfold stOp
      rw [ho]
      exact h1
    | some o =>
      obtain ⟨v, hy, hK⟩ := yieldsAt_of_stOp ho h'
      obtain ⟨b, h1, h2⟩ := stI_exists r _ hK
      exact ⟨b, hy.stOp ho h1, h2⟩

theorem shut_head {F : Nat → Bool} {need : Bool} {n : Nat} : ∀ (r : List Nat) (listed : Array Bool), Shut ops listed → headI ops F need n r listed = true → Shut ops (listAll listed r)
  | [], _, h, _ => h
  | i :: r, listed, h, hB => by
    simp only [headI, Bool.and_eq_true] at hB
    exact shut_head r _ (shut_set h (by simpa using hB.1.1)) hB.2
theorem shut_seq : ∀ (r : List Nat) (listed : Array Bool), Shut ops listed → seqI ops r listed = true → Shut ops (listAll listed r)
  | [], _, h, _ => h
  | i :: r, listed, h, hB => by
    simp only [seqI, Bool.and_eq_true, decide_eq_true_eq] at hB
    exact shut_seq r _ (shut_set h (by rw [hB.1]; simp)) hB.2

/-- One step of the plan: rd: operations that read what S knows · wl: operations that yield in whatever world · act: the one operation that can come up; it keeps S. -/
inductive RStep where
  | rd (l : List Nat)
  | wl (l : List Nat)
  | act (i : Nat)

def stepCount : List RStep → Nat
  | [] => 0
  | .rd l :: r | .wl l :: r => l.length + stepCount r
  | .act _ :: r => 1 + stepCount r
def stepHas : List RStep → Nat → Bool
  | [], _ => false
  | .rd l :: r, j | .wl l :: r, j => l.contains j || stepHas r j
  | .act i :: r, j => i == j || stepHas r j
def stepList (listed : Array Bool) : List RStep → Array Bool
  | [] => listed
  | .rd l :: r | .wl l :: r => stepList (listAll listed l) r
  | .act i :: r => stepList (listed.setIfInBounds i true) r
def stepsB (ops : Array Oper) (F : Nat → Bool) (n : Nat) : List RStep → Array Bool → Bool
  | [], _ => true
  | .rd l :: r, listed => headI ops F true n l listed && stepsB ops F n r (listAll listed l)
  | .wl l :: r, listed => headI ops F false n l listed && stepsB ops F n r (listAll listed l)
  | .act i :: r, listed => decide (Region.ready .any ops listed = [i]) && stepsB ops F n r (listed.setIfInBounds i true)

def wpSteps (P : Program) (ops : Array Oper) (Q : Exit → Act → World → Prop) (S : World → Prop) (n : Nat) (K : Act → World → Prop) : List RStep → Act → World → Prop
  | [], a, w => K a w
  | .rd l :: r, a, w => ∃ b, (∀ w', S w' → wpStI P ops w' (fun x => x = b) l a) ∧ wpSteps P ops Q S n K r b w
  | .wl l :: r, a, w => ∃ b, (∀ w', wpStI P ops w' (fun x => x = b) l a) ∧ wpSteps P ops Q S n K r b w
  | .act i :: r, a, w => wpOp P ops Q i (fun a' w' => (S w' ∧ a'.tmps.size = n) ∧ wpSteps P ops Q S n K r a' w') a w

theorem anyF_of_steps {F : Nat → Bool} (hsel : ∀ (j : Nat) (o : Oper) cs b, ops[j]? = some o → o.op ≠ .select cs b) (hQ : ∀ c d v a w, Q (.panic c) (a.put (some d) v) w → Q (.panic c) a w) (n m : Nat) (K : Act → World → Prop) :
    ∀ (r : List RStep) (listed : Array Bool) (a : Act) (w : World), Shut ops listed → S w → a.tmps.size = n → stepsB ops F n r listed = true →
    (∀ a w, Shut ops (stepList listed r) → S w → a.tmps.size = n → K a w → wpAnyF P ops Q S F m (stepList listed r) a w) → wpSteps P ops Q S n K r a w → wpAnyF P ops Q S F (stepCount r + m) listed a w
  | [], listed, a, w, hsh, hS, hn, _, hK, h => by
    rw [stepCount, Nat.zero_add]
    exact hK a w hsh hS hn h
  | .rd l :: r, listed, a, w, hsh, hS, hn, hB, hK, h => by
    simp only [stepsB, Bool.and_eq_true] at hB
    obtain ⟨b, h1, h2⟩ := h
    rw [stepCount, Nat.add_assoc]
    exact anyF_of_head (S' := S) (.inl ⟨rfl, rfl⟩) hsel hQ n _ w hS l listed a hsh hn hB.1 h1 fun hb => anyF_of_steps hsel hQ n m K r _ b w (shut_head l _ hsh hB.1) hS hb hB.2 hK h2
  | .wl l :: r, listed, a, w, hsh, hS, hn, hB, hK, h => by
    simp only [stepsB, Bool.and_eq_true] at hB
    obtain ⟨b, h1, h2⟩ := h
    rw [stepCount, Nat.add_assoc]
    exact anyF_of_head (S' := fun _ => True) (need := false) (.inr fun _ => trivial) hsel hQ n _ w trivial l listed a hsh hn hB.1 (fun w' _ => h1 w') fun hb => anyF_of_steps hsel hQ n m K r _ b w (shut_head l _ hsh hB.1) hS hb hB.2 hK h2
  | .act i :: r, listed, a, w, hsh, hS, hn, hB, hK, h => by
    simp only [stepsB, Bool.and_eq_true, decide_eq_true_eq] at hB
    rw [stepCount, show 1 + stepCount r + m = (stepCount r + m) + 1 by omega]
    refine ⟨fun h1 => (by rw [hB.1] at h1; cases h1), fun j hj => ?_⟩
    rw [hB.1] at hj
    obtain rfl : j = i := by simpa using hj
    exact wpOp_mono (fun a' w' h' => ⟨fun _ _ => h'.1.1, anyF_of_steps hsel hQ n m K r _ a' w' (shut_set hsh (by rw [hB.1]; simp)) h'.1.1 h'.1.2 hB.2 hK h'.2⟩) h

theorem anyF_of_any {F : Nat → Bool} : ∀ (m : Nat) (listed : Array Bool) (a : Act) (w : World), (∀ j, listed.getD j true = false → F j = false) →
    wpAny P .any ops Q m listed a w → wpAnyF P ops Q S F m listed a w
  | 0, _, _, _, _, h => h
  | m + 1, listed, a, w, hF, h => ⟨h.1, fun i hi => wpOp_mono (fun a' w' h' => ⟨fun hf => (by rw [hF i (mem_ready.1 hi).1] at hf; cases hf), anyF_of_any m _ a' w' (fun j hj => hF j (by
      by_cases hij : i = j
      · subst hij; exact (mem_ready.1 hi).1
      · rw [getD_set_ne true hij] at hj; exact hj)) h'⟩) (h.2 i hi)⟩

theorem listAll_size : ∀ (r : List Nat) (listed : Array Bool), (listAll listed r).size = listed.size
  | [], _ => rfl
  | i :: r, listed => by rw [listAll, listAll_size r]; simp
theorem stepList_size : ∀ (r : List RStep) (listed : Array Bool), (stepList listed r).size = listed.size
  | [], _ => rfl
  | .rd l :: r, listed => by rw [stepList, stepList_size r, listAll_size]
  | .wl l :: r, listed => by rw [stepList, stepList_size r, listAll_size]
  | .act i :: r, listed => by rw [stepList, stepList_size r]; simp

/-- The operations behind all others, walked where the world stands. -/
theorem any_of_tail {n : Nat} (hsel : ∀ (j : Nat) (o : Oper) cs b, ops[j]? = some o → o.op ≠ .select cs b) (hQ : ∀ c d v a w, Q (.panic c) (a.put (some d) v) w → Q (.panic c) a w)
    (T : List Nat) (listed : Array Bool) (a : Act) (w : World) (hsh : Shut ops listed) (hn : a.tmps.size = n) (hB : headI ops (fun j => T.contains j) true n T listed = true)
    (he : (Region.ready .any ops (listAll listed T)).isEmpty = true) (h : wpStI P ops w (fun b => Q .normal b w) T a) : wpAny P .any ops Q (T.length + 0) listed a w := by
  obtain ⟨b, h1, h2⟩ := stI_exists T a h
  refine wpAny_of_F (S := fun w' => w' = w) (F := fun j => T.contains j) _ _ _ _ ?_
  exact anyF_of_head (S := fun w' => w' = w) (S' := fun w' => w' = w) (.inl ⟨rfl, rfl⟩) hsel hQ n 0 w rfl T listed a hsh hn hB (fun w' hw' => by rw [hw']; exact h1) fun _ => ⟨by simpa using he, h2⟩

/-- ALL THAT THE KERNEL CHECKS OF A REGION: the plan's steps, C: operations in the one order in which they can come up, T: operations that only read, behind all others. n: the frame's size. -/
def rcB (ops : Array Oper) (R : List RStep) (C T : List Nat) (n : Nat) : Bool :=
  Region.noSelect ops && decide (stepCount R + (C.length + T.length) = ops.size) &&
  stepsB ops (stepHas R) n R (Array.replicate ops.size false) &&
  (List.range ops.size).all (fun j => (stepList (Array.replicate ops.size false) R).getD j true || !(stepHas R j)) &&
  seqI ops C (stepList (Array.replicate ops.size false) R) &&
  headI ops (fun j => T.contains j) true n T (listAll (stepList (Array.replicate ops.size false) R) C) &&
  (Region.ready .any ops (listAll (listAll (stepList (Array.replicate ops.size false) R) C) T)).isEmpty

theorem wp_region_rc {id : Nat} {a : Act} {w : World} (R : List RStep) (C T : List Nat) (S : World → Prop) (hm : P.follows .mixedOrders = true) (n : Nat) (hn : a.tmps.size = n) (hk : rcB ops R C T n = true)
    (hQ : ∀ c d v a w, Q (.panic c) (a.put (some d) v) w → Q (.panic c) a w) (hS : S w.drew)
    (h : wpSteps P ops Q S n (fun a1 w1 => wpList P ops (Exit.then (fun a2 w2 => a2.tmps.size = n ∧ wpStI P ops w2 (fun b2 => Q .normal b2 w2) T a2) Q) (C.filterMap fun i => ops[i]?) a1 w1) R a w.drew) :
    (Code.region id ops true).wp P Q a w := by
  simp only [rcB, Bool.and_eq_true, decide_eq_true_eq] at hk
  obtain ⟨⟨⟨⟨⟨⟨h1, h2⟩, h3⟩, h5⟩, h6⟩, h7⟩, h8⟩ := hk
  have sel := fun j o cs b hj => Region.noSelect_spec h1 j o cs b hj
  have sh0 : Shut ops (Array.replicate ops.size false) := fun j oj hj hl => by rw [getD_replicate_false] at hl; cases hl
  refine wp_region_any hm (wpAny_of_F (S := S) (F := stepHas R) _ _ _ _ ?_)
  have key : wpAnyF P ops Q S (stepHas R) (stepCount R + (C.length + T.length)) (Array.replicate ops.size false) a w.drew := by
    refine anyF_of_steps sel hQ n _ _ R _ a w.drew sh0 hS hn h3 (fun a1 w1 sh hS1 hn1 hl => ?_) h
    refine anyF_of_any _ _ a1 w1 (fun j hj => ?_) ?_
    · have hlt : j < ops.size := by
        rcases Nat.lt_or_ge j ops.size with h' | h'
        · exact h'
        · exfalso
          rw [Array.getD_eq_getD_getElem?, Array.getElem?_eq_none (by rw [stepList_size]; simpa using h')] at hj
          cases hj
      have := List.all_eq_true.1 h5 j (List.mem_range.2 hlt)
      simpa [hj] using this
    · exact any_of_list _ _ C _ a1 w1 h6 (fun a2 w2 ht => any_of_tail sel hQ T _ a2 w2 (shut_seq _ _ sh h6) ht.1 h7 h8 ht.2) hl
  rw [h2] at key
  exact key

theorem steps_nil {C T : List Nat} {l : List Oper} {n : Nat} {a : Act} {w : World} (hl : (C.filterMap fun i => ops[i]?) = l)
    (h : ∀ K : Act → World → Prop, (∀ a2 w2, a2.tmps.size = n → wpStI P ops w2 (fun b2 => Q .normal b2 w2) T a2 → K a2 w2) → wpList P ops (Exit.then K Q) l a w) :
    wpSteps P ops Q S n (fun a1 w1 => wpList P ops (Exit.then (fun a2 w2 => a2.tmps.size = n ∧ wpStI P ops w2 (fun b2 => Q .normal b2 w2) T a2) Q) (C.filterMap fun i => ops[i]?) a1 w1) [] a w := by
  subst hl; exact h _ fun a2 w2 h1 h2 => ⟨h1, h2⟩
theorem steps_end {n : Nat} {a : Act} {w : World} (hn : a.tmps.size = n) (h : Q .normal a w) :
    wpSteps P ops Q S n (fun a1 w1 => wpList P ops (Exit.then (fun a2 w2 => a2.tmps.size = n ∧ wpStI P ops w2 (fun b2 => Q .normal b2 w2) [] a2) Q) (([] : List Nat).filterMap fun i => ops[i]?) a1 w1) [] a w := ⟨hn, h⟩
theorem steps_rd {l : List Nat} {r : List RStep} {n : Nat} {K : Act → World → Prop} {a : Act} {w : World} (h : ∃ b, (∀ w', S w' → wpStI P ops w' (fun x => x = b) l a) ∧ wpSteps P ops Q S n K r b w) : wpSteps P ops Q S n K (.rd l :: r) a w := h
theorem steps_wl {l : List Nat} {r : List RStep} {n : Nat} {K : Act → World → Prop} {a : Act} {w : World} (h : ∃ b, (∀ w', wpStI P ops w' (fun x => x = b) l a) ∧ wpSteps P ops Q S n K r b w) : wpSteps P ops Q S n K (.wl l :: r) a w := h
theorem steps_act {i : Nat} {l : List RStep} {n : Nat} {o : Oper} {K : Act → World → Prop} {a : Act} {w : World} (ho : ops[i]? = some o)
    (h : ∀ K' : Act → World → Prop, (∀ a' w', S w' → a'.tmps.size = n → wpSteps P ops Q S n K l a' w' → K' a' w') → wpList P ops (Exit.then K' Q) [o] a w) : wpSteps P ops Q S n K (.act i :: l) a w := by
  have h := h (fun a' w' => (S w' ∧ a'.tmps.size = n) ∧ wpSteps P ops Q S n K l a' w') fun a' w' h1 h2 h3 => ⟨⟨h1, h2⟩, h3⟩
  show wpOp P ops Q i _ a w
  unfold wpOp
  simp only [ho]
  unfold wpList at h
  split
  · rename_i hw
    rw [if_pos hw] at h
    rcases h with h | ⟨h1, a', w', h2⟩
    · left
      unfold Oper.wp at h ⊢
      cases hr : (execOp a.eval o).run P w with
      | ok n w' =>
        rw [hr] at h
        cases n with
        | enter f args => exact Calls.mono h fun e w'' he => by cases e <;> first | exact he | (obtain ⟨a', w', h2⟩ := he; exact ⟨a', w', h2⟩)
        | _ => exact h
      | halt x w' => rw [hr] at h; cases x <;> exact h
    · exact .inr ⟨h1, a', w', h2⟩
  · rename_i hw
    rw [if_neg hw] at h
    exact h
end
end Go.Proofs.Ytoelgnjnbelokaa

namespace Go.Proofs.Ytoelgnjnbelokaa
open Go.RowKit

structure StI (P : Program) (ops : Array Oper) (w : World) (K : Act → Prop) (r : List Nat) (a : Act) : Prop where
  out : wpStI P ops w K r a
section
variable {P : Program} {ops : Array Oper} {Q : Exit → Act → World → Prop} {S : World → Prop} {w : World} {K : Act → Prop} {a : Act}
theorem stW_nil (h : K a) : StI P ops w K [] a := ⟨h⟩
theorem stW_step {i : Nat} {r : List Nat} {o : Oper} (ho : ops[i]? = some o)
    (h : ∀ K' : Act → Prop, (∀ a, StI P ops w K r a → K' a) → if Region.wanted o (yielded ops a.tmps) then o.still P a w K' else K' (a.put o.dst undef)) : StI P ops w K (i :: r) a :=
  ⟨stI_step ho fun K' hK => h K' fun a ha => hK a ha.out⟩
theorem steps_rdW {l : List Nat} {r : List RStep} {n : Nat} {K : Act → World → Prop} (h : ∃ b, (∀ w', S w' → StI P ops w' (fun x => x = b) l a) ∧ wpSteps P ops Q S n K r b w) : wpSteps P ops Q S n K (.rd l :: r) a w := by
  obtain ⟨b, h1, h2⟩ := h
  exact ⟨b, fun w' hS => (h1 w' hS).out, h2⟩
theorem steps_wlW {l : List Nat} {r : List RStep} {n : Nat} {K : Act → World → Prop} (h : ∃ b, (∀ w', StI P ops w' (fun x => x = b) l a) ∧ wpSteps P ops Q S n K r b w) : wpSteps P ops Q S n K (.wl l :: r) a w := by
  obtain ⟨b, h1, h2⟩ := h
  exact ⟨b, fun w' => (h1 w').out, h2⟩
end
end Go.Proofs.Ytoelgnjnbelokaa

namespace Go.Proofs.Ytoelgnjnbelokaa
open Go.RowKit

section
variable {P : Program} {ops : Array Oper} {Q : Exit → Act → World → Prop} {S : World → Prop} {w : World} {a : Act}
theorem op_list {i : Nat} {o : Oper} {G : Act → World → Prop} (ho : ops[i]? = some o)
    (h : ∀ K' : Act → World → Prop, (∀ a' w', G a' w' → K' a' w') → wpList P ops (Exit.then K' Q) [o] a w) : wpOp P ops Q i G a w := by
  have h := h G fun a' w' h => h
  unfold wpOp
  simp only [ho]
  unfold wpList at h
  split
  · rename_i hw
    rw [if_pos hw] at h
    rcases h with h | ⟨h1, a', w', h2⟩
    · left
      unfold Oper.wp at h ⊢
      cases hr : (execOp a.eval o).run P w with
      | ok n w' =>
        rw [hr] at h
        cases n with
        | enter f args => exact Calls.mono h fun e w'' he => by cases e <;> first | exact he | (obtain ⟨a', w', h2⟩ := he; exact ⟨a', w', h2⟩)
        | _ => exact h
      | halt x w' => rw [hr] at h; cases x <;> exact h
    · exact .inr ⟨h1, a', w', h2⟩
  · rename_i hw
    rw [if_neg hw] at h
    exact h
theorem anyF_of_two {F : Nat → Bool} {i j m n : Nat} {L : Array Bool} {G : Act → World → Prop} (hr : Region.ready .any ops L = [i, j]) (h1 : Region.ready .any ops (L.setIfInBounds i true) = [j]) (h2 : Region.ready .any ops (L.setIfInBounds j true) = [i]) (hne : i ≠ j)
    (hG : ∀ a w, S w → a.tmps.size = n → G a w → wpAnyF P ops Q S F m ((L.setIfInBounds i true).setIfInBounds j true) a w)
    (ha : wpOp P ops Q i (fun a' w' => (S w' ∧ a'.tmps.size = n) ∧ wpOp P ops Q j (fun a2 w2 => (S w2 ∧ a2.tmps.size = n) ∧ G a2 w2) a' w') a w)
    (hb : wpOp P ops Q j (fun a' w' => (S w' ∧ a'.tmps.size = n) ∧ wpOp P ops Q i (fun a2 w2 => (S w2 ∧ a2.tmps.size = n) ∧ G a2 w2) a' w') a w) : wpAnyF P ops Q S F (2 + m) L a w := by
  rw [show 2 + m = (m + 1) + 1 by omega]
  refine ⟨fun h => (by rw [hr] at h; cases h), fun k hk => ?_⟩
  rw [hr] at hk
  have hk' : k = i ∨ k = j := by simpa using hk
  rcases hk' with rfl | rfl
  · refine wpOp_mono (fun a' w' h' => ⟨fun _ _ => h'.1.1, fun h => (by rw [h1] at h; cases h), fun k2 hk2 => ?_⟩) ha
    rw [h1] at hk2
    obtain rfl : k2 = j := by simpa using hk2
    exact wpOp_mono (fun a'' w'' h'' => ⟨fun _ _ => h''.1.1, hG a'' w'' h''.1.1 h''.1.2 h''.2⟩) h'.2
  · refine wpOp_mono (fun a' w' h' => ⟨fun _ _ => h'.1.1, fun h => (by rw [h2] at h; cases h), fun k2 hk2 => ?_⟩) hb
    rw [h2] at hk2
    obtain rfl : k2 = i := by simpa using hk2
    refine wpOp_mono (fun a'' w'' h'' => ⟨fun _ _ => h''.1.1, ?_⟩) h'.2
    rw [Array.setIfInBounds_comm _ _ (Ne.symm hne)]
    exact hG a'' w'' h''.1.1 h''.1.2 h''.2
/-- All that the kernel checks of such a region. -/
def rcB2 (ops : Array Oper) (R : List RStep) (i j : Nat) (C T : List Nat) (n : Nat) : Bool :=
  Region.noSelect ops && decide (stepCount R + (2 + (C.length + T.length)) = ops.size) &&
  stepsB ops (fun k => stepHas R k || k == i || k == j) n R (Array.replicate ops.size false) &&
  (List.range ops.size).all (fun k => (((stepList (Array.replicate ops.size false) R).setIfInBounds i true).setIfInBounds j true).getD k true || !(stepHas R k || k == i || k == j)) &&
  decide (Region.ready .any ops (stepList (Array.replicate ops.size false) R) = [i, j]) &&
  decide (Region.ready .any ops ((stepList (Array.replicate ops.size false) R).setIfInBounds i true) = [j]) &&
  decide (Region.ready .any ops ((stepList (Array.replicate ops.size false) R).setIfInBounds j true) = [i]) && decide (i ≠ j) &&
  seqI ops C (((stepList (Array.replicate ops.size false) R).setIfInBounds i true).setIfInBounds j true) &&
  headI ops (fun j => T.contains j) true n T (listAll (((stepList (Array.replicate ops.size false) R).setIfInBounds i true).setIfInBounds j true) C) &&
  (Region.ready .any ops (listAll (listAll (((stepList (Array.replicate ops.size false) R).setIfInBounds i true).setIfInBounds j true) C) T)).isEmpty
/-- The end of such a region's walk, behind the two. -/
def wpEnd (P : Program) (ops : Array Oper) (Q : Exit → Act → World → Prop) (C T : List Nat) (n : Nat) (a : Act) (w : World) : Prop :=
  wpList P ops (Exit.then (fun a2 w2 => a2.tmps.size = n ∧ wpStI P ops w2 (fun b2 => Q .normal b2 w2) T a2) Q) (C.filterMap fun i => ops[i]?) a w
/-- The two, in either order. -/
def wpTwo (P : Program) (ops : Array Oper) (Q : Exit → Act → World → Prop) (S : World → Prop) (i j : Nat) (C T : List Nat) (n : Nat) (a : Act) (w : World) : Prop :=
  wpOp P ops Q i (fun a' w' => (S w' ∧ a'.tmps.size = n) ∧ wpOp P ops Q j (fun a2 w2 => (S w2 ∧ a2.tmps.size = n) ∧ wpEnd P ops Q C T n a2 w2) a' w') a w ∧
  wpOp P ops Q j (fun a' w' => (S w' ∧ a'.tmps.size = n) ∧ wpOp P ops Q i (fun a2 w2 => (S w2 ∧ a2.tmps.size = n) ∧ wpEnd P ops Q C T n a2 w2) a' w') a w
theorem wp_region_two {id : Nat} (R : List RStep) (i j : Nat) (C T : List Nat) (S : World → Prop) (hm : P.follows .mixedOrders = true) (n : Nat) (hn : a.tmps.size = n) (hk : rcB2 ops R i j C T n = true)
    (hQ : ∀ c d v a w, Q (.panic c) (a.put (some d) v) w → Q (.panic c) a w) (hS : S w.drew)
    (h : wpSteps P ops Q S n (wpTwo P ops Q S i j C T n) R a w.drew) :
    (Code.region id ops true).wp P Q a w := by
  simp only [rcB2, Bool.and_eq_true, decide_eq_true_eq] at hk
  obtain ⟨⟨⟨⟨⟨⟨⟨⟨⟨⟨h1, h2⟩, h3⟩, h5⟩, ha⟩, hb⟩, hc⟩, hd⟩, h6⟩, h7⟩, h8⟩ := hk
  have sel := fun j o cs b hj => Region.noSelect_spec h1 j o cs b hj
  have sh0 : Shut ops (Array.replicate ops.size false) := fun j oj hj hl => by rw [getD_replicate_false] at hl; cases hl
  refine wp_region_any hm (wpAny_of_F (S := S) (F := fun k => stepHas R k || k == i || k == j) _ _ _ _ ?_)
  have key : wpAnyF P ops Q S (fun k => stepHas R k || k == i || k == j) (stepCount R + (2 + (C.length + T.length))) (Array.replicate ops.size false) a w.drew := by
    refine anyF_of_steps sel hQ n _ _ R _ a w.drew sh0 hS hn h3 (fun a1 w1 sh hS1 hn1 hl => ?_) h
    have sh1 := shut_set (i := i) sh (by rw [ha]; simp)
    have sh2 := shut_set (i := j) sh1 (by rw [hb]; simp)
    refine anyF_of_two ha hb hc hd (fun a2 w2 hS2 hn2 he => ?_) hl.1 hl.2
    refine anyF_of_any _ _ a2 w2 (fun k hk => ?_) (any_of_list _ _ C _ a2 w2 h6 (fun a3 w3 ht => any_of_tail sel hQ T _ a3 w3 (shut_seq _ _ sh2 h6) ht.1 h7 h8 ht.2) he)
    have hlt : k < ops.size := by
      rcases Nat.lt_or_ge k ops.size with h' | h'
      · exact h'
      · exfalso
        rw [Array.getD_eq_getD_getElem?, Array.getElem?_eq_none (by rw [Array.size_setIfInBounds, Array.size_setIfInBounds, stepList_size]; simpa using h')] at hk
        cases hk
    have := List.all_eq_true.1 h5 k (List.mem_range.2 hlt)
    rw [hk] at this
    simpa using this
  rw [h2] at key
  exact key
theorem steps_two {i j : Nat} {C T : List Nat} {n : Nat} {o o' : Oper} (ho : ops[i]? = some o) (ho' : ops[j]? = some o')
    (ha : ∀ K' : Act → World → Prop, (∀ a' w', S w' → a'.tmps.size = n → (∀ K2 : Act → World → Prop, (∀ a2 w2, S w2 → a2.tmps.size = n → wpEnd P ops Q C T n a2 w2 → K2 a2 w2) → wpList P ops (Exit.then K2 Q) [o'] a' w') → K' a' w') → wpList P ops (Exit.then K' Q) [o] a w)
    (hb : ∀ K' : Act → World → Prop, (∀ a' w', S w' → a'.tmps.size = n → (∀ K2 : Act → World → Prop, (∀ a2 w2, S w2 → a2.tmps.size = n → wpEnd P ops Q C T n a2 w2 → K2 a2 w2) → wpList P ops (Exit.then K2 Q) [o] a' w') → K' a' w') → wpList P ops (Exit.then K' Q) [o'] a w) :
    wpSteps P ops Q S n (wpTwo P ops Q S i j C T n) [] a w :=
  ⟨op_list ho fun K' hK' => ha K' fun a' w' hS hn h => hK' a' w' ⟨⟨hS, hn⟩, op_list ho' fun K2 hK2 => h K2 fun a2 w2 h1 h2 h3 => hK2 a2 w2 ⟨⟨h1, h2⟩, h3⟩⟩,
    op_list ho' fun K' hK' => hb K' fun a' w' hS hn h => hK' a' w' ⟨⟨hS, hn⟩, op_list ho fun K2 hK2 => h K2 fun a2 w2 h1 h2 h3 => hK2 a2 w2 ⟨⟨h1, h2⟩, h3⟩⟩⟩
theorem end_mk {C T : List Nat} {l : List Oper} {n : Nat} (hl : (C.filterMap fun i => ops[i]?) = l)
    (h : ∀ K : Act → World → Prop, (∀ a2 w2, a2.tmps.size = n → wpStI P ops w2 (fun b2 => Q .normal b2 w2) T a2 → K a2 w2) → wpList P ops (Exit.then K Q) l a w) : wpEnd P ops Q C T n a w := by
  subst hl
  exact h _ fun a2 w2 h1 h2 => ⟨h1, h2⟩
end
end Go.Proofs.Ytoelgnjnbelokaa

namespace Go.Proofs.Ytoelgnjnbelokaa
open Go.RowKit

inductive RTree where
  | done
  | rd (l : List Nat) (t : RTree)
  | wl (l : List Nat) (t : RTree)
  | one (i : Nat) (t : RTree)
  | two (i j : Nat) (ti tj : RTree)
  | three (i j k : Nat) (ti tj tk : RTree)
def treeCount : RTree → Nat
  | .done => 0
  | .rd l t | .wl l t => l.length + treeCount t
  | .one _ t => 1 + treeCount t
  | .two _ _ t _ => 1 + treeCount t
  | .three _ _ _ t _ _ => 1 + treeCount t
def treeHas : RTree → Nat → Bool
  | .done, _ => false
  | .rd l t, j | .wl l t, j => l.contains j || treeHas t j
  | .one i t, j => i == j || treeHas t j
  | .two i _ t _, j => i == j || treeHas t j
  | .three i _ _ t _ _, j => i == j || treeHas t j
def treeB (ops : Array Oper) (F : Nat → Bool) (n : Nat) (fin : Array Bool) : RTree → Array Bool → Bool
  | .done, listed => decide (listed = fin)
  | .rd l t, listed => headI ops F true n l listed && treeB ops F n fin t (listAll listed l)
  | .wl l t, listed => headI ops F false n l listed && treeB ops F n fin t (listAll listed l)
  | .one i t, listed => decide (Region.ready .any ops listed = [i]) && treeB ops F n fin t (listed.setIfInBounds i true)
  | .two i j ti tj, listed => decide (Region.ready .any ops listed = [i, j]) && decide (treeCount ti = treeCount tj) && treeB ops F n fin ti (listed.setIfInBounds i true) && treeB ops F n fin tj (listed.setIfInBounds j true)
  | .three i j k ti tj tk, listed => decide (Region.ready .any ops listed = [i, j, k]) && decide (treeCount ti = treeCount tj) && decide (treeCount ti = treeCount tk) && treeB ops F n fin ti (listed.setIfInBounds i true) && treeB ops F n fin tj (listed.setIfInBounds j true) && treeB ops F n fin tk (listed.setIfInBounds k true)
def wpTree (P : Program) (ops : Array Oper) (Q : Exit → Act → World → Prop) (S : World → Prop) (n : Nat) (K : Act → World → Prop) : RTree → Act → World → Prop
  | .done, a, w => K a w
  | .rd l t, a, w => ∃ b, (∀ w', S w' → wpStI P ops w' (fun x => x = b) l a) ∧ wpTree P ops Q S n K t b w
  | .wl l t, a, w => ∃ b, (∀ w', wpStI P ops w' (fun x => x = b) l a) ∧ wpTree P ops Q S n K t b w
  | .one i t, a, w => wpOp P ops Q i (fun a' w' => (S w' ∧ a'.tmps.size = n) ∧ wpTree P ops Q S n K t a' w') a w
  | .two i j ti tj, a, w => wpOp P ops Q i (fun a' w' => (S w' ∧ a'.tmps.size = n) ∧ wpTree P ops Q S n K ti a' w') a w ∧ wpOp P ops Q j (fun a' w' => (S w' ∧ a'.tmps.size = n) ∧ wpTree P ops Q S n K tj a' w') a w
  | .three i j k ti tj tk, a, w => wpOp P ops Q i (fun a' w' => (S w' ∧ a'.tmps.size = n) ∧ wpTree P ops Q S n K ti a' w') a w ∧ wpOp P ops Q j (fun a' w' => (S w' ∧ a'.tmps.size = n) ∧ wpTree P ops Q S n K tj a' w') a w ∧ wpOp P ops Q k (fun a' w' => (S w' ∧ a'.tmps.size = n) ∧ wpTree P ops Q S n K tk a' w') a w
section
variable {P : Program} {ops : Array Oper} {Q : Exit → Act → World → Prop} {S : World → Prop} {w : World} {a : Act}
theorem anyF_of_tree {F : Nat → Bool} (hsel : ∀ (j : Nat) (o : Oper) cs b, ops[j]? = some o → o.op ≠ .select cs b) (hQ : ∀ c d v a w, Q (.panic c) (a.put (some d) v) w → Q (.panic c) a w) (n m : Nat) (fin : Array Bool) (K : Act → World → Prop)
    (hK : ∀ a w, Shut ops fin → S w → a.tmps.size = n → K a w → wpAnyF P ops Q S F m fin a w) :
    ∀ (t : RTree) (listed : Array Bool) (a : Act) (w : World), Shut ops listed → S w → a.tmps.size = n → treeB ops F n fin t listed = true → wpTree P ops Q S n K t a w → wpAnyF P ops Q S F (treeCount t + m) listed a w
  | .done, listed, a, w, hsh, hS, hn, hB, h => by
    rw [treeCount, Nat.zero_add]
    simp only [treeB, decide_eq_true_eq] at hB
    subst hB
    exact hK a w hsh hS hn h
  | .rd l t, listed, a, w, hsh, hS, hn, hB, h => by
    simp only [treeB, Bool.and_eq_true] at hB
    obtain ⟨b, h1, h2⟩ := h
    rw [treeCount, Nat.add_assoc]
    exact anyF_of_head (S' := S) (.inl ⟨rfl, rfl⟩) hsel hQ n _ w hS l listed a hsh hn hB.1 h1 fun hb => anyF_of_tree hsel hQ n m fin K hK t _ b w (shut_head l _ hsh hB.1) hS hb hB.2 h2
  | .wl l t, listed, a, w, hsh, hS, hn, hB, h => by
    simp only [treeB, Bool.and_eq_true] at hB
    obtain ⟨b, h1, h2⟩ := h
    rw [treeCount, Nat.add_assoc]
    exact anyF_of_head (S' := fun _ => True) (need := false) (.inr fun _ => trivial) hsel hQ n _ w trivial l listed a hsh hn hB.1 (fun w' _ => h1 w') fun hb => anyF_of_tree hsel hQ n m fin K hK t _ b w (shut_head l _ hsh hB.1) hS hb hB.2 h2
  | .one i t, listed, a, w, hsh, hS, hn, hB, h => by
    simp only [treeB, Bool.and_eq_true, decide_eq_true_eq] at hB
    rw [treeCount, show 1 + treeCount t + m = (treeCount t + m) + 1 by omega]
    refine ⟨fun h1 => (by rw [hB.1] at h1; cases h1), fun k hk => ?_⟩
    rw [hB.1] at hk
    obtain rfl : k = i := by simpa using hk
    exact wpOp_mono (fun a' w' h' => ⟨fun _ _ => h'.1.1, anyF_of_tree hsel hQ n m fin K hK t _ a' w' (shut_set hsh (by rw [hB.1]; simp)) h'.1.1 h'.1.2 hB.2 h'.2⟩) h
  | .two i j ti tj, listed, a, w, hsh, hS, hn, hB, h => by
    simp only [treeB, Bool.and_eq_true, decide_eq_true_eq] at hB
    obtain ⟨⟨⟨hr, hc⟩, h1⟩, h2⟩ := hB
    rw [treeCount, show 1 + treeCount ti + m = (treeCount ti + m) + 1 by omega]
    refine ⟨fun h1 => (by rw [hr] at h1; cases h1), fun k hk => ?_⟩
    rw [hr] at hk
    have hk' : k = i ∨ k = j := by simpa using hk
    rcases hk' with rfl | rfl
    · exact wpOp_mono (fun a' w' h' => ⟨fun _ _ => h'.1.1, anyF_of_tree hsel hQ n m fin K hK ti _ a' w' (shut_set hsh (by rw [hr]; simp)) h'.1.1 h'.1.2 h1 h'.2⟩) h.1
    · refine wpOp_mono (fun a' w' h' => ⟨fun _ _ => h'.1.1, ?_⟩) h.2
      rw [hc]
      exact anyF_of_tree hsel hQ n m fin K hK tj _ a' w' (shut_set hsh (by rw [hr]; simp)) h'.1.1 h'.1.2 h2 h'.2
  | .three i j k ti tj tk, listed, a, w, hsh, hS, hn, hB, h => by
    simp only [treeB, Bool.and_eq_true, decide_eq_true_eq] at hB
    obtain ⟨⟨⟨⟨⟨hr, hc⟩, hc2⟩, h1⟩, h2⟩, h3⟩ := hB
    rw [treeCount, show 1 + treeCount ti + m = (treeCount ti + m) + 1 by omega]
    refine ⟨fun h1 => (by rw [hr] at h1; cases h1), fun l hl => ?_⟩
    rw [hr] at hl
    have hl' : l = i ∨ l = j ∨ l = k := by simpa using hl
    rcases hl' with rfl | rfl | rfl
    · exact wpOp_mono (fun a' w' h' => ⟨fun _ _ => h'.1.1, anyF_of_tree hsel hQ n m fin K hK ti _ a' w' (shut_set hsh (by rw [hr]; simp)) h'.1.1 h'.1.2 h1 h'.2⟩) h.1
    · refine wpOp_mono (fun a' w' h' => ⟨fun _ _ => h'.1.1, ?_⟩) h.2.1
      rw [hc]
      exact anyF_of_tree hsel hQ n m fin K hK tj _ a' w' (shut_set hsh (by rw [hr]; simp)) h'.1.1 h'.1.2 h2 h'.2
    · refine wpOp_mono (fun a' w' h' => ⟨fun _ _ => h'.1.1, ?_⟩) h.2.2
      rw [hc2]
      exact anyF_of_tree hsel hQ n m fin K hK tk _ a' w' (shut_set hsh (by rw [hr]; simp)) h'.1.1 h'.1.2 h3 h'.2
/-- All that the kernel checks of such a region. -/
def rcT (ops : Array Oper) (t : RTree) (fin : Array Bool) (C T : List Nat) (n : Nat) : Bool :=
  Region.noSelect ops && decide (treeCount t + (C.length + T.length) = ops.size) &&
  treeB ops (treeHas t) n fin t (Array.replicate ops.size false) &&
  decide (fin.size = ops.size) &&
  (List.range ops.size).all (fun k => fin.getD k true || !(treeHas t k)) &&
  seqI ops C fin && headI ops (fun j => T.contains j) true n T (listAll fin C) &&
  (Region.ready .any ops (listAll (listAll fin C) T)).isEmpty
theorem shut_tree {F : Nat → Bool} {n : Nat} {fin : Array Bool} : ∀ (t : RTree) (listed : Array Bool), Shut ops listed → treeB ops F n fin t listed = true → Shut ops fin
  | .done, listed, h, hB => by
    simp only [treeB, decide_eq_true_eq] at hB
    subst hB
    exact h
  | .rd l t, listed, h, hB => by
    simp only [treeB, Bool.and_eq_true] at hB
    exact shut_tree t _ (shut_head l _ h hB.1) hB.2
  | .wl l t, listed, h, hB => by
    simp only [treeB, Bool.and_eq_true] at hB
    exact shut_tree t _ (shut_head l _ h hB.1) hB.2
  | .one i t, listed, h, hB => by
    simp only [treeB, Bool.and_eq_true, decide_eq_true_eq] at hB
    exact shut_tree t _ (shut_set h (by rw [hB.1]; simp)) hB.2
  | .two i j ti tj, listed, h, hB => by
    simp only [treeB, Bool.and_eq_true, decide_eq_true_eq] at hB
    exact shut_tree ti _ (shut_set h (by rw [hB.1.1.1]; simp)) hB.1.2
  | .three i j k ti tj tk, listed, h, hB => by
    simp only [treeB, Bool.and_eq_true, decide_eq_true_eq] at hB
    exact shut_tree ti _ (shut_set h (by rw [hB.1.1.1.1.1]; simp)) hB.1.1.2
theorem wp_region_tree {id : Nat} (t : RTree) (fin : Array Bool) (C T : List Nat) (S : World → Prop) (hm : P.follows .mixedOrders = true) (n : Nat) (hn : a.tmps.size = n) (hk : rcT ops t fin C T n = true)
    (hQ : ∀ c d v a w, Q (.panic c) (a.put (some d) v) w → Q (.panic c) a w) (hS : S w.drew)
    (h : wpTree P ops Q S n (wpEnd P ops Q C T n) t a w.drew) :
    (Code.region id ops true).wp P Q a w := by
  simp only [rcT, Bool.and_eq_true, decide_eq_true_eq] at hk
  obtain ⟨⟨⟨⟨⟨⟨⟨h1, h2⟩, h3⟩, h4⟩, h5⟩, h6⟩, h7⟩, h8⟩ := hk
  have sel := fun j o cs b hj => Region.noSelect_spec h1 j o cs b hj
  have sh0 : Shut ops (Array.replicate ops.size false) := fun j oj hj hl => by rw [getD_replicate_false] at hl; cases hl
  refine wp_region_any hm (wpAny_of_F (S := S) (F := treeHas t) _ _ _ _ ?_)
  have key : wpAnyF P ops Q S (treeHas t) (treeCount t + (C.length + T.length)) (Array.replicate ops.size false) a w.drew := by
    refine anyF_of_tree sel hQ n _ fin _ (fun a2 w2 sh2 hS2 hn2 he => ?_) t _ a w.drew sh0 hS hn h3 h
    refine anyF_of_any _ _ a2 w2 (fun k hk => ?_) (any_of_list _ _ C _ a2 w2 h6 (fun a3 w3 ht => any_of_tail sel hQ T _ a3 w3 (shut_seq _ _ sh2 h6) ht.1 h7 h8 ht.2) he)
    have hlt : k < ops.size := by
      rcases Nat.lt_or_ge k ops.size with h' | h'
      · exact h'
      · exfalso
        rw [Array.getD_eq_getD_getElem?, Array.getElem?_eq_none (by rw [h4]; exact h')] at hk
        cases hk
    have := List.all_eq_true.1 h5 k (List.mem_range.2 hlt)
    rw [hk] at this
    simpa using this
  rw [h2] at key
  exact key
theorem tree_rd {l : List Nat} {t : RTree} {n : Nat} {K : Act → World → Prop} (h : ∃ b, (∀ w', S w' → StI P ops w' (fun x => x = b) l a) ∧ wpTree P ops Q S n K t b w) : wpTree P ops Q S n K (.rd l t) a w := by
  obtain ⟨b, h1, h2⟩ := h
  exact ⟨b, fun w' hS => (h1 w' hS).out, h2⟩
theorem tree_wl {l : List Nat} {t : RTree} {n : Nat} {K : Act → World → Prop} (h : ∃ b, (∀ w', StI P ops w' (fun x => x = b) l a) ∧ wpTree P ops Q S n K t b w) : wpTree P ops Q S n K (.wl l t) a w := by
  obtain ⟨b, h1, h2⟩ := h
  exact ⟨b, fun w' => (h1 w').out, h2⟩
/-- One operation of the tree, and then the rest of it. -/
def TStep (P : Program) (ops : Array Oper) (Q : Exit → Act → World → Prop) (S : World → Prop) (n : Nat) (K : Act → World → Prop) (t : RTree) (o : Oper) (a : Act) (w : World) : Prop :=
  ∀ K' : Act → World → Prop, (∀ a' w', S w' → a'.tmps.size = n → wpTree P ops Q S n K t a' w' → K' a' w') → wpList P ops (Exit.then K' Q) [o] a w
theorem tree_one {i : Nat} {t : RTree} {n : Nat} {K : Act → World → Prop} {o : Oper} (ho : ops[i]? = some o) (h : TStep P ops Q S n K t o a w) : wpTree P ops Q S n K (.one i t) a w :=
  op_list ho fun K' hK' => h K' fun a' w' h1 h2 h3 => hK' a' w' ⟨⟨h1, h2⟩, h3⟩
theorem tree_two {i j : Nat} {ti tj : RTree} {n : Nat} {K : Act → World → Prop} {o o' : Oper} (ho : ops[i]? = some o) (ho' : ops[j]? = some o') (h : TStep P ops Q S n K ti o a w) (h' : TStep P ops Q S n K tj o' a w) : wpTree P ops Q S n K (.two i j ti tj) a w :=
  ⟨op_list ho fun K' hK' => h K' fun a' w' h1 h2 h3 => hK' a' w' ⟨⟨h1, h2⟩, h3⟩, op_list ho' fun K' hK' => h' K' fun a' w' h1 h2 h3 => hK' a' w' ⟨⟨h1, h2⟩, h3⟩⟩
theorem tree_three {i j k : Nat} {ti tj tk : RTree} {n : Nat} {K : Act → World → Prop} {o o' o'' : Oper} (ho : ops[i]? = some o) (ho' : ops[j]? = some o') (ho'' : ops[k]? = some o'') (h : TStep P ops Q S n K ti o a w) (h' : TStep P ops Q S n K tj o' a w) (h'' : TStep P ops Q S n K tk o'' a w) : wpTree P ops Q S n K (.three i j k ti tj tk) a w :=
  ⟨op_list ho fun K' hK' => h K' fun a' w' h1 h2 h3 => hK' a' w' ⟨⟨h1, h2⟩, h3⟩, op_list ho' fun K' hK' => h' K' fun a' w' h1 h2 h3 => hK' a' w' ⟨⟨h1, h2⟩, h3⟩, op_list ho'' fun K' hK' => h'' K' fun a' w' h1 h2 h3 => hK' a' w' ⟨⟨h1, h2⟩, h3⟩⟩
end
end Go.Proofs.Ytoelgnjnbelokaa
