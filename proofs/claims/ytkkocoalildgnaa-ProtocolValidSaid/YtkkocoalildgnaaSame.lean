/-
  Same of the program and of the document: two actions are compared field by field.
-/
import Derived.Test.YtkkocoalildgnaaListEq
namespace Go.Proofs.Ytkkocoalildgnaa
open Go.RowKit

/-- An action. -/
structure Ac where
  k : Int
  o : Int
  f : V
  vs : List V
  s : ByteArray
  l : Int
  n : Int
  ks : List V
deriving DecidableEq
def Ac.cs (k o : Int) (f : V) (a : Value) (s : ByteArray) (l n : Int) (b : Value) : List Value := [.int .i64 k, .int .i64 o, .int .i64 f.k, .int .i64 f.p, .int .i64 f.q, .string f.s, .int .i64 f.r, a, .string s, .int .i64 l, .int .i64 n, b]
set_option maxRecDepth 100000 in
set_option maxHeartbeats 4000000 in
theorem doc_same (w : World) (a b : Ac) (A : Option Addr) (c : Nat) (A2 : Option Addr) (c2 : Nat) (B : Option Addr) (d : Nat) (B2 : Option Addr) (d2 : Nat) (hA : Vs w A a.vs) (hA2 : Vs w A2 a.ks) (hB : Vs w B b.vs) (hB2 : Vs w B2 b.ks) (n1 : a.vs.length ≤ 1000) (n2 : a.ks.length ≤ 1000) (n3 : b.vs.length ≤ 1000) (n4 : b.ks.length ≤ 1000) :
    Calls Try.prog 13 #[(.agg #[.int .i64 a.k, .int .i64 a.o, .int .i64 a.f.k, .int .i64 a.f.p, .int .i64 a.f.q, .string a.f.s, .int .i64 a.f.r, .slice A a.vs.length c, .string a.s, .int .i64 a.l, .int .i64 a.n, .slice A2 a.ks.length c2]), (.agg #[.int .i64 b.k, .int .i64 b.o, .int .i64 b.f.k, .int .i64 b.f.p, .int .i64 b.f.q, .string b.f.s, .int .i64 b.f.r, .slice B b.vs.length d, .string b.s, .int .i64 b.l, .int .i64 b.n, .slice B2 b.ks.length d2])] w fun e w' => e = .returned (.bool (decide (a = b))) ∧ Chg (fun _ => False) w w' := by
  obtain ⟨k, o, ⟨f1, f2, f3, f4, f5⟩, vs, s, l, n, ks⟩ := a
  obtain ⟨k', o', ⟨g1, g2, g3, g4, g5⟩, vs', s', l', n', ks'⟩ := b
  simp only at hA hA2 hB hB2 n1 n2 n3 n4 ⊢
  have hA := hid hA
  have hA2 := hid hA2
  have hB := hid hB
  have hB2 := hid hB2
  by_cases h : k = k'
  case neg =>
    rw [decide_eq_false (by simp [h])]
    go_enter Try.func13, Try.ntmps13
    go_wp2
    go_ret
    exact ⟨rfl, ((Chg.refl _ w).alloc _).alloc _⟩
  subst h
  by_cases h : o = o'
  case neg =>
    rw [decide_eq_false (by simp [h])]
    go_enter Try.func13, Try.ntmps13
    go_wp2
    go_ret
    exact ⟨rfl, ((Chg.refl _ w).alloc _).alloc _⟩
  subst h
  by_cases h : f1 = g1
  case neg =>
    rw [decide_eq_false (by simp [h])]
    go_enter Try.func13, Try.ntmps13
    go_wp2
    go_ret
    exact ⟨rfl, ((Chg.refl _ w).alloc _).alloc _⟩
  subst h
  by_cases h : f2 = g2
  case neg =>
    rw [decide_eq_false (by simp [h])]
    go_enter Try.func13, Try.ntmps13
    go_wp2
    go_ret
    exact ⟨rfl, ((Chg.refl _ w).alloc _).alloc _⟩
  subst h
  by_cases h : f3 = g3
  case neg =>
    rw [decide_eq_false (by simp [h])]
    go_enter Try.func13, Try.ntmps13
    go_wp2
    go_ret
    exact ⟨rfl, ((Chg.refl _ w).alloc _).alloc _⟩
  subst h
  by_cases h : f4 = g4
  case neg =>
    rw [decide_eq_false (by simp [h])]
    replace h := bytes_ne h
    go_enter Try.func13, Try.ntmps13
    go_wp2
    go_ret
    exact ⟨rfl, ((Chg.refl _ w).alloc _).alloc _⟩
  subst h
  by_cases h : f5 = g5
  case neg =>
    rw [decide_eq_false (by simp [h])]
    go_enter Try.func13, Try.ntmps13
    go_wp2
    go_ret
    exact ⟨rfl, ((Chg.refl _ w).alloc _).alloc _⟩
  subst h
  by_cases h : s = s'
  case neg =>
    rw [decide_eq_false (by simp [h])]
    replace h := bytes_ne h
    go_enter Try.func13, Try.ntmps13
    go_wp2
    go_ret
    exact ⟨rfl, ((Chg.refl _ w).alloc _).alloc _⟩
  subst h
  by_cases h : l = l'
  case neg =>
    rw [decide_eq_false (by simp [h])]
    go_enter Try.func13, Try.ntmps13
    go_wp2
    go_ret
    exact ⟨rfl, ((Chg.refl _ w).alloc _).alloc _⟩
  subst h
  by_cases h : n = n'
  case neg =>
    rw [decide_eq_false (by simp [h])]
    go_enter Try.func13, Try.ntmps13
    go_wp2
    go_ret
    exact ⟨rfl, ((Chg.refl _ w).alloc _).alloc _⟩
  subst h
  by_cases h : vs = vs'
  case neg =>
    rw [decide_eq_false (by simp [h])]
    have hd := hid (decide_eq_false h)
    clear h
    go_enter Try.func13, Try.ntmps13
    go_wp2_with (go_at_call 38; refine (doc_eq _ A B vs vs' c d (Rd.none_ hA.out (((Chg.refl _ w).alloc _).alloc _)) (Rd.none_ hB.out (((Chg.refl _ w).alloc _).alloc _)) (by omega) (by omega)).mono ?_; rintro e w1 ⟨rfl, hc1'⟩; rw [hd.out]; have hc1 := hid hc1'; clear hc1')
    go_ret
    exact ⟨rfl, (((Chg.refl _ w).alloc _).alloc _).trans_same hc1.out⟩
  have hd := hid (decide_eq_true h)

  all_goals
    rw [show decide ((⟨k, o, ⟨f1, f2, f3, f4, f5⟩, vs, s, l, n, ks⟩ : Ac) = ⟨k, o, ⟨f1, f2, f3, f4, f5⟩, vs', s, l, n, ks'⟩) = decide (ks = ks') by simp [h]]
    obtain ⟨b2, hd2⟩ : ∃ b2, Hid (decide (ks = ks') = b2) := ⟨_, hid rfl⟩
    rw [hd2.out]
    clear h
    have tok : True := trivial
    go_enter Try.func13, Try.ntmps13
    go_wp2_with fail
    refine (doc_eq _ A B vs vs' c d (Rd.none_ hA.out (((Chg.refl _ w).alloc _).alloc _)) (Rd.none_ hB.out (((Chg.refl _ w).alloc _).alloc _)) (by omega) (by omega)).mono ?_
    rintro e w1 ⟨rfl, hc1'⟩
    rw [hd.out]
    have hc1 := hid hc1'
    clear hc1'
    have hz1 : w.heap.size + 1 < w1.heap.size := (by have := hc1.out.size; simp at this; omega)
    have hz0 : w.heap.size < w1.heap.size := (by omega)
    have q0 : w1.cell? ⟨w.heap.size, 11, none⟩ = some (.slice A2 ks.length c2) := ((Bk.new w 28 (Ac.cs k o ⟨f1, f2, f3, f4, f5⟩ (.slice A vs.length c) s l n (.slice A2 ks.length c2))).alloc _ |>.none_ hc1.out).cell 11
    have q1 : w1.cell? ⟨w.heap.size + 1, 11, none⟩ = some (.slice B2 ks'.length d2) := ((Bk.new_at _ 28 (Ac.cs k o ⟨f1, f2, f3, f4, f5⟩ (.slice B vs'.length d) s l n (.slice B2 ks'.length d2)).toArray (w.heap.size + 1) (by simp)).none_ hc1.out).cell 11
    go_wp2_with fail
    refine (doc_eq _ A2 B2 ks ks' c2 d2 (Rd.none_ (Rd.none_ hA2.out (((Chg.refl _ w).alloc _).alloc _)) hc1.out) (Rd.none_ (Rd.none_ hB2.out (((Chg.refl _ w).alloc _).alloc _)) hc1.out) (by omega) (by omega)).mono ?_
    rintro e w2 ⟨rfl, hc2'⟩
    rw [hd2.out]
    have hc2 := hid hc2'
    clear hc2'
    cases b2
    all_goals
      go_wp2
      go_ret
      exact ⟨rfl, ((((Chg.refl _ w).alloc _).alloc _).trans_same hc1.out).trans_same hc2.out⟩
set_option maxRecDepth 100000 in
set_option maxHeartbeats 4000000 in
theorem own_same (w : World) (a b : Ac) (A : Option Addr) (c : Nat) (A2 : Option Addr) (c2 : Nat) (B : Option Addr) (d : Nat) (B2 : Option Addr) (d2 : Nat) (hA : Vs w A a.vs) (hA2 : Vs w A2 a.ks) (hB : Vs w B b.vs) (hB2 : Vs w B2 b.ks) (n1 : a.vs.length ≤ 1000) (n2 : a.ks.length ≤ 1000) (n3 : b.vs.length ≤ 1000) (n4 : b.ks.length ≤ 1000) :
    Calls Try.prog 26 #[(.agg #[.int .i64 a.k, .int .i64 a.o, .int .i64 a.f.k, .int .i64 a.f.p, .int .i64 a.f.q, .string a.f.s, .int .i64 a.f.r, .slice A a.vs.length c, .string a.s, .int .i64 a.l, .int .i64 a.n, .slice A2 a.ks.length c2]), (.agg #[.int .i64 b.k, .int .i64 b.o, .int .i64 b.f.k, .int .i64 b.f.p, .int .i64 b.f.q, .string b.f.s, .int .i64 b.f.r, .slice B b.vs.length d, .string b.s, .int .i64 b.l, .int .i64 b.n, .slice B2 b.ks.length d2])] w fun e w' => e = .returned (.bool (decide (a = b))) ∧ Chg (fun _ => False) w w' := by
  obtain ⟨k, o, ⟨f1, f2, f3, f4, f5⟩, vs, s, l, n, ks⟩ := a
  obtain ⟨k', o', ⟨g1, g2, g3, g4, g5⟩, vs', s', l', n', ks'⟩ := b
  simp only at hA hA2 hB hB2 n1 n2 n3 n4 ⊢
  have hA := hid hA
  have hA2 := hid hA2
  have hB := hid hB
  have hB2 := hid hB2
  by_cases h : k = k'
  case neg =>
    rw [decide_eq_false (by simp [h])]
    go_enter Try.func26, Try.ntmps26
    go_wp2
    go_ret
    exact ⟨rfl, ((Chg.refl _ w).alloc _).alloc _⟩
  subst h
  by_cases h : o = o'
  case neg =>
    rw [decide_eq_false (by simp [h])]
    go_enter Try.func26, Try.ntmps26
    go_wp2
    go_ret
    exact ⟨rfl, ((Chg.refl _ w).alloc _).alloc _⟩
  subst h
  by_cases h : f1 = g1
  case neg =>
    rw [decide_eq_false (by simp [h])]
    go_enter Try.func26, Try.ntmps26
    go_wp2
    go_ret
    exact ⟨rfl, ((Chg.refl _ w).alloc _).alloc _⟩
  subst h
  by_cases h : f2 = g2
  case neg =>
    rw [decide_eq_false (by simp [h])]
    go_enter Try.func26, Try.ntmps26
    go_wp2
    go_ret
    exact ⟨rfl, ((Chg.refl _ w).alloc _).alloc _⟩
  subst h
  by_cases h : f3 = g3
  case neg =>
    rw [decide_eq_false (by simp [h])]
    go_enter Try.func26, Try.ntmps26
    go_wp2
    go_ret
    exact ⟨rfl, ((Chg.refl _ w).alloc _).alloc _⟩
  subst h
  by_cases h : f4 = g4
  case neg =>
    rw [decide_eq_false (by simp [h])]
    replace h := bytes_ne h
    go_enter Try.func26, Try.ntmps26
    go_wp2
    go_ret
    exact ⟨rfl, ((Chg.refl _ w).alloc _).alloc _⟩
  subst h
  by_cases h : f5 = g5
  case neg =>
    rw [decide_eq_false (by simp [h])]
    go_enter Try.func26, Try.ntmps26
    go_wp2
    go_ret
    exact ⟨rfl, ((Chg.refl _ w).alloc _).alloc _⟩
  subst h
  by_cases h : s = s'
  case neg =>
    rw [decide_eq_false (by simp [h])]
    replace h := bytes_ne h
    go_enter Try.func26, Try.ntmps26
    go_wp2
    go_ret
    exact ⟨rfl, ((Chg.refl _ w).alloc _).alloc _⟩
  subst h
  by_cases h : l = l'
  case neg =>
    rw [decide_eq_false (by simp [h])]
    go_enter Try.func26, Try.ntmps26
    go_wp2
    go_ret
    exact ⟨rfl, ((Chg.refl _ w).alloc _).alloc _⟩
  subst h
  by_cases h : n = n'
  case neg =>
    rw [decide_eq_false (by simp [h])]
    go_enter Try.func26, Try.ntmps26
    go_wp2
    go_ret
    exact ⟨rfl, ((Chg.refl _ w).alloc _).alloc _⟩
  subst h
  by_cases h : vs = vs'
  case neg =>
    rw [decide_eq_false (by simp [h])]
    have hd := hid (decide_eq_false h)
    clear h
    go_enter Try.func26, Try.ntmps26
    go_wp2_with (go_at_call 43; refine (own_eq _ A B vs vs' c d (Rd.none_ hA.out (((Chg.refl _ w).alloc _).alloc _)) (Rd.none_ hB.out (((Chg.refl _ w).alloc _).alloc _)) (by omega) (by omega)).mono ?_; rintro e w1 ⟨rfl, hc1'⟩; rw [hd.out]; have hc1 := hid hc1'; clear hc1')
    go_ret
    exact ⟨rfl, (((Chg.refl _ w).alloc _).alloc _).trans_same hc1.out⟩
  have hd := hid (decide_eq_true h)

  all_goals
    rw [show decide ((⟨k, o, ⟨f1, f2, f3, f4, f5⟩, vs, s, l, n, ks⟩ : Ac) = ⟨k, o, ⟨f1, f2, f3, f4, f5⟩, vs', s, l, n, ks'⟩) = decide (ks = ks') by simp [h]]
    obtain ⟨b2, hd2⟩ : ∃ b2, Hid (decide (ks = ks') = b2) := ⟨_, hid rfl⟩
    rw [hd2.out]
    clear h
    have tok : True := trivial
    go_enter Try.func26, Try.ntmps26
    go_wp2_with fail
    refine (own_eq _ A B vs vs' c d (Rd.none_ hA.out (((Chg.refl _ w).alloc _).alloc _)) (Rd.none_ hB.out (((Chg.refl _ w).alloc _).alloc _)) (by omega) (by omega)).mono ?_
    rintro e w1 ⟨rfl, hc1'⟩
    rw [hd.out]
    have hc1 := hid hc1'
    clear hc1'
    have hz1 : w.heap.size + 1 < w1.heap.size := (by have := hc1.out.size; simp at this; omega)
    have hz0 : w.heap.size < w1.heap.size := (by omega)
    have q0 : w1.cell? ⟨w.heap.size, 11, none⟩ = some (.slice A2 ks.length c2) := ((Bk.new w 28 (Ac.cs k o ⟨f1, f2, f3, f4, f5⟩ (.slice A vs.length c) s l n (.slice A2 ks.length c2))).alloc _ |>.none_ hc1.out).cell 11
    have q1 : w1.cell? ⟨w.heap.size + 1, 11, none⟩ = some (.slice B2 ks'.length d2) := ((Bk.new_at _ 28 (Ac.cs k o ⟨f1, f2, f3, f4, f5⟩ (.slice B vs'.length d) s l n (.slice B2 ks'.length d2)).toArray (w.heap.size + 1) (by simp)).none_ hc1.out).cell 11
    go_wp2_with fail
    refine (own_eq _ A2 B2 ks ks' c2 d2 (Rd.none_ (Rd.none_ hA2.out (((Chg.refl _ w).alloc _).alloc _)) hc1.out) (Rd.none_ (Rd.none_ hB2.out (((Chg.refl _ w).alloc _).alloc _)) hc1.out) (by omega) (by omega)).mono ?_
    rintro e w2 ⟨rfl, hc2'⟩
    rw [hd2.out]
    have hc2 := hid hc2'
    clear hc2'
    cases b2
    all_goals
      go_wp2
      go_ret
      exact ⟨rfl, ((((Chg.refl _ w).alloc _).alloc _).trans_same hc1.out).trans_same hc2.out⟩
end Go.Proofs.Ytkkocoalildgnaa
