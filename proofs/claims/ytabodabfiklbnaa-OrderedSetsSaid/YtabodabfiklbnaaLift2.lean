/-
  The calls on both maps, as the laws use them.
-/
import Derived.Test.YtabodabfiklbnaaWDocN
import Derived.Test.YtabodabfiklbnaaWDocS2
namespace Go.Proofs.Ytabodabfiklbnaa
open Go.RowKit Go.Maps

section
variable {w w' w1 : World} {S : Nat → Prop} {N o r M : Nat} {L L' L1 : List Sl}
theorem o_next (h : One w S N o M L) (hn : L.length ≤ 1000000) {k : V} (hk : k.wf) {x1 x2 : V} {bb : Bool} {e1 : Int} (hx : nextM L k = (x1, x2, bb, e1)) :
    Calls Try.prog 18 #[.pointer (some ⟨o, 0, none⟩), (.agg #[.int .i64 k.k, .int .i64 k.p, .int .i64 k.q, .string k.s, .int .i64 k.r])] w fun e w' => e = .returned (.tuple #[(.agg #[.int .i64 x1.k, .int .i64 x1.p, .int .i64 x1.q, .string x1.s, .int .i64 x1.r]), (.agg #[.int .i64 x2.k, .int .i64 x2.p, .int .i64 x2.q, .string x2.s, .int .i64 x2.r]), .bool bb, .int .i64 e1]) ∧ Chg (fun _ => False) w w' := by
  obtain ⟨vs, bm, n, D, h1, h2, h3⟩ := h
  exact own_next h1 hn hk hx
theorem Two.lt (h : Two w S N o r M L L') : r < w.heap.size := by
  obtain ⟨vs, bm, n, D, vr, h⟩ := h
  exact h.dc.blk.lt
theorem q_next (h : Two w S N o r M L L') (hn : L'.length ≤ 1000000) {k : V} {x1 x2 : V} {bb : Bool} {e1 : Int} (hx : nextM L' k = (x1, x2, bb, e1)) :
    Calls Try.prog 30 #[.pointer (some ⟨r, 0, none⟩), (.agg #[.int .i64 k.k, .int .i64 k.p, .int .i64 k.q, .string k.s, .int .i64 k.r])] w fun e w' => e = .returned (.tuple #[(.agg #[.int .i64 x1.k, .int .i64 x1.p, .int .i64 x1.q, .string x1.s, .int .i64 x1.r]), (.agg #[.int .i64 x2.k, .int .i64 x2.p, .int .i64 x2.q, .string x2.s, .int .i64 x2.r]), .bool bb, .int .i64 e1]) ∧ Chg (fun _ => False) w w' := by
  obtain ⟨vs, bm, n, D, vr, h⟩ := h
  exact doc_next h.dc hn hx
theorem q_get (h : Two w S N o r M L L') (hn : L'.length ≤ 1000000) {k : V} {x : V} (hx : getM L' k = x) :
    Calls Try.prog 29 #[.pointer (some ⟨r, 0, none⟩), (.agg #[.int .i64 k.k, .int .i64 k.p, .int .i64 k.q, .string k.s, .int .i64 k.r])] w fun e w' => e = .returned (.agg #[.int .i64 x.k, .int .i64 x.p, .int .i64 x.q, .string x.s, .int .i64 x.r]) ∧ Chg (fun _ => False) w w' := by
  obtain ⟨vs, bm, n, D, vr, h⟩ := h
  exact doc_get h.dc hn k hx
theorem q_len (h : Two w S N o r M L L') (hn : L'.length ≤ 1000000) {x : Nat} (hx : nOf L' = x) : Calls Try.prog 31 #[.pointer (some ⟨r, 0, none⟩)] w fun e w' => e = .returned (.int .i64 x) ∧ w = w' := by
  obtain ⟨vs, bm, n, D, vr, h⟩ := h
  exact doc_len h.dc hn hx
theorem q_slots (h : Two w S N o r M L L') {x : Nat} (hx : L'.length = x) : Calls Try.prog 32 #[.pointer (some ⟨r, 0, none⟩)] w fun e w' => e = .returned (.int .i64 x) ∧ w = w' := by
  obtain ⟨vs, bm, n, D, vr, h⟩ := h
  exact doc_slots h.dc hx
theorem q_keys (h : Two w S N o r M L L') (hn : L'.length ≤ 1000) {x : Nat} (hx : nOf L' = x) :
    Calls Try.prog 24 #[.pointer (some ⟨r, 0, none⟩)] w fun e w' => ∃ A k, e = .returned (.slice A x k) ∧ OwnR w w' 28 5 (.slice A x k) x ((keysM L').flatMap V.cs) ∧ Chg (fun _ => False) w w' := by
  obtain ⟨vs, bm, n, D, vr, h⟩ := h
  exact doc_keys h.dc hn hx
theorem q_set (h : Two w S N o r M L L') (hN : N ≤ w.heap.size) (hn : L'.length ≤ 999) {k v : V} {e1 : Int} (hp : setM L' k v = (e1, L1)) :
    Calls Try.prog 28 #[.pointer (some ⟨r, 0, none⟩), (.agg #[.int .i64 k.k, .int .i64 k.p, .int .i64 k.q, .string k.s, .int .i64 k.r]), (.agg #[.int .i64 v.k, .int .i64 v.p, .int .i64 v.q, .string v.s, .int .i64 v.r])] w fun e w' => e = .returned (.int .i64 e1) ∧ Two w' S N o r M L L1 ∧ Chg (fun k => S k ∨ N ≤ k) w w' := by
  obtain ⟨vs, bm, n, D, vr, h⟩ := h
  exact (doc_setM h.dc hn hp).mono fun e w' ⟨h1, h2⟩ => ⟨h1, h.doc_post hN h2⟩
theorem docs_new {w0 : World} (h : One w1 (fun _ => False) w0.heap.size o 0 []) (hs : w0.heap.size ≤ w1.heap.size) :
    Calls Try.prog 20 #[] w1 fun e w' => ∃ r, e = .returned (.pointer (some ⟨r, 0, none⟩)) ∧ Two w' (fun _ => False) w0.heap.size o r 0 [] [] ∧ Chg (fun _ => False) w1 w' :=
  (doc_new w1).mono fun _ _ ⟨h1, h2, h3⟩ => ⟨_, h1, Two.start h hs h2 h3, h3⟩
theorem Bk.twoChg {g : Nat} {t : TypeId} {cs : List Value} (h : Bk w g t cs) (hc : Chg (fun k => S k ∨ N ≤ k) w w') (hg : ¬ S g) (hN : g < N) : Bk w' g t cs := h.chg hc fun e => e.elim hg fun e => by omega
/-- What a call of a script leaves. -/
def StepPost (w w' : World) (S : Nat → Prop) (N o r M m : Nat) : Prop :=
  ∃ L, Two w' S N o r (M + 1000) L L ∧ L.length ≤ m + 1 ∧ Chg (fun k => S k ∨ N ≤ k) w w'
theorem StepPost.mk {S' : Nat → Prop} {N' M' m : Nat} (h : Two w' S' N' o r M' L L) (hM : M' ≤ M + 1000) (hS : ∀ k, S' k → S k ∨ N ≤ k) (hN : N ≤ N') (hm : L.length ≤ m + 1) (h1 : Chg (fun _ => False) w w1) (hc : Chg (fun k => S' k ∨ N' ≤ k) w1 w') : StepPost w w' S N o r M m :=
  ⟨L, (h.mono hM).weaken hS hN, hm, (h1.mono (T := fun k => S k ∨ N ≤ k) fun _ _ h => h.elim).trans hc fun k _ hk => hk.elim (hS k) fun h => .inr (by omega)⟩
theorem values_own {A A' : Option Addr} {n m k k' : Nat} {rs rs' : List V} (hn : rs.length = n) (hm : rs'.length = m) (hA : w.ownsRow 0 28 5 (.slice A n k) n (rs.flatMap V.cs)) (hA' : w.ownsRow 0 28 5 (.slice A' m k') m (rs'.flatMap V.cs)) (h1 : n ≤ 1000000) (h2 : m ≤ 1000000) {b : Bool} (hb : decide (rs = rs') = b) :
    Calls Try.prog 23 #[.slice A n k, .slice A' m k'] w fun e w' => e = .returned (.bool b) ∧ Chg (fun _ => False) w w' := by
  subst hn hm hb
  exact values_eq w A A' rs rs' k k' (Rd.of_own hA) (Rd.of_own hA') h1 h2
/-! ### What both show -/
set_option maxHeartbeats 2000000 in
theorem shown_true (h : Two w S N o r M L L) (hn : L.length ≤ 1000) :
    Calls Try.prog 22 #[.pointer (some ⟨o, 0, none⟩), .pointer (some ⟨r, 0, none⟩)] w fun e w' => e = .returned (.bool true) ∧ Chg (fun _ => False) w w' := by
  have hT := hid h
  obtain ⟨s, hs⟩ : ∃ s, Hid (L.length = s) := ⟨_, hid rfl⟩
  obtain ⟨n, hnn⟩ : ∃ n, Hid (nOf L = n) := ⟨_, hid rfl⟩
  have hns : n ≤ s := by rw [← hs.out, ← hnn.out]; exact nOf_le L
  have hsn : s ≤ 1000 := by rw [← hs.out]; exact hn
  have hnh := hid hn
  clear h hn
  go_enter Try.func22, Try.ntmps22
  go_wp2_with fail
  refine (o_len hT.out.one hnn.out).mono ?_
  rintro e w1 ⟨rfl, rfl⟩
  go_wp2_with fail
  refine (q_len hT.out (by have := hnh.out; omega) hnn.out).mono ?_
  rintro e w1 ⟨rfl, rfl⟩
  go_wp2_with fail
  refine (o_slots hT.out.one hs.out).mono ?_
  rintro e w1 ⟨rfl, rfl⟩
  go_wp2_with fail
  refine (q_slots hT.out hs.out).mono ?_
  rintro e w1 ⟨rfl, rfl⟩
  go_wp2_with fail
  refine (o_keys hT.out.one hnh.out hnn.out).mono ?_
  rintro e w1 ⟨A1, k1, rfl, hR', hc⟩
  have hR1 := hid hR'
  have hT1 := hid (hT.out.none_ hc)
  have hC1 := hid hc
  clear hR' hc hT
  go_wp2_with fail
  refine (q_keys hT1.out hnh.out hnn.out).mono ?_
  rintro e w2 ⟨A2, k2, rfl, hR', hc⟩
  have hR2 := hid hR'
  have hR3 := hid (hR1.out.none_ hc)
  have hC2 := hid (hC1.out.trans_same hc)
  clear hR' hc hT1 hR1 hC1
  go_wp2_with fail
  refine (values_own (by rw [keysM_len]; exact hnn.out) (by rw [keysM_len]; exact hnn.out) hR3.out.own hR2.out.own (by omega) (by omega) (decide_eq_true rfl)).mono ?_
  rintro e w3 ⟨rfl, hc⟩
  have fin := hid (hC2.out.trans_same hc)
  clear hc hR3 hR2 hC2
  go_wp2_with fail
  go_ret
  exact ⟨rfl, fin.out⟩
end
end Go.Proofs.Ytabodabfiklbnaa
