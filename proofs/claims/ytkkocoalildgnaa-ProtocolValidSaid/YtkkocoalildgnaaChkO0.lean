/-
  Check of the program.
-/
import Derived.Test.YtkkocoalildgnaaChk
namespace Go.Proofs.Ytkkocoalildgnaa
open Go.RowKit

abbrev AcB (k : Int) : Ac := ⟨k, 0, V.zero, [], ⟨#[]⟩, 0, 0, []⟩
/-- The error of an action. -/
def chkA (a : Ac) : Int :=
  if kOk a = false ∨ restOf a ≠ AcB a.k then 4 else
  if a.k = 2 ∧ a.vs.length ≠ 1 then 4 else
  if a.l < 0 ∨ 255 < a.l ∨ a.n < 0 ∨ 255 < a.n then 4 else
  if a.k = 6 ∧ (a.o < 1 ∨ 7 < a.o) then 4 else
  if 200 < a.vs.length ∨ 32 < a.ks.length then 3 else
  if vok a.f = false ∨ a.vs.all vok = false ∨ a.ks.all vok = false then 2 else
  if 65536 < a.s.size then 14 else 0
theorem rest_len (a : Ac) : (restOf a).vs.length ≤ a.vs.length ∧ (restOf a).ks.length ≤ a.ks.length := by
  unfold restOf
  split
  · exact ⟨Nat.zero_le _, Nat.le_refl _⟩
  split
  · first | exact ⟨Nat.zero_le _, Nat.le_refl _⟩ | exact ⟨Nat.zero_le _, Nat.zero_le _⟩ | exact ⟨Nat.le_refl _, Nat.zero_le _⟩ | exact ⟨Nat.le_refl _, Nat.le_refl _⟩
  split
  · first | exact ⟨Nat.zero_le _, Nat.le_refl _⟩ | exact ⟨Nat.zero_le _, Nat.zero_le _⟩ | exact ⟨Nat.le_refl _, Nat.zero_le _⟩ | exact ⟨Nat.le_refl _, Nat.le_refl _⟩
  split
  · first | exact ⟨Nat.zero_le _, Nat.le_refl _⟩ | exact ⟨Nat.zero_le _, Nat.zero_le _⟩ | exact ⟨Nat.le_refl _, Nat.zero_le _⟩ | exact ⟨Nat.le_refl _, Nat.le_refl _⟩
  split
  · first | exact ⟨Nat.zero_le _, Nat.le_refl _⟩ | exact ⟨Nat.zero_le _, Nat.zero_le _⟩ | exact ⟨Nat.le_refl _, Nat.zero_le _⟩ | exact ⟨Nat.le_refl _, Nat.le_refl _⟩
  split
  · first | exact ⟨Nat.zero_le _, Nat.le_refl _⟩ | exact ⟨Nat.zero_le _, Nat.zero_le _⟩ | exact ⟨Nat.le_refl _, Nat.zero_le _⟩ | exact ⟨Nat.le_refl _, Nat.le_refl _⟩
  split
  · first | exact ⟨Nat.zero_le _, Nat.le_refl _⟩ | exact ⟨Nat.zero_le _, Nat.zero_le _⟩ | exact ⟨Nat.le_refl _, Nat.zero_le _⟩ | exact ⟨Nat.le_refl _, Nat.le_refl _⟩
  split
  · first | exact ⟨Nat.zero_le _, Nat.le_refl _⟩ | exact ⟨Nat.zero_le _, Nat.zero_le _⟩ | exact ⟨Nat.le_refl _, Nat.zero_le _⟩ | exact ⟨Nat.le_refl _, Nat.le_refl _⟩
  split
  · first | exact ⟨Nat.zero_le _, Nat.le_refl _⟩ | exact ⟨Nat.zero_le _, Nat.zero_le _⟩ | exact ⟨Nat.le_refl _, Nat.zero_le _⟩ | exact ⟨Nat.le_refl _, Nat.le_refl _⟩
  exact ⟨Nat.le_refl _, Nat.le_refl _⟩
theorem ac_box {w : World} {g : Nat} {k o l n : Int} {f : V} {a b : Value} {s : ByteArray} (h : Bk w g 28 (Ac.cs k o f a s l n b)) : w.cell? ⟨g, 0, none⟩ = some (.int .i64 k) ∧ w.cell? ⟨g, 1, none⟩ = some (.int .i64 o) ∧ w.cell? ⟨g, 2, none⟩ = some (.int .i64 f.k) ∧ w.cell? ⟨g, 3, none⟩ = some (.int .i64 f.p) ∧ w.cell? ⟨g, 4, none⟩ = some (.int .i64 f.q) ∧ w.cell? ⟨g, 5, none⟩ = some (.string f.s) ∧ w.cell? ⟨g, 6, none⟩ = some (.int .i64 f.r) ∧ w.cell? ⟨g, 7, none⟩ = some (a) ∧ w.cell? ⟨g, 8, none⟩ = some (.string s) ∧ w.cell? ⟨g, 9, none⟩ = some (.int .i64 l) ∧ w.cell? ⟨g, 10, none⟩ = some (.int .i64 n) ∧ w.cell? ⟨g, 11, none⟩ = some (b) ∧ g < w.heap.size :=
  ⟨h.cell 0, h.cell 1, h.cell 2, h.cell 3, h.cell 4, h.cell 5, h.cell 6, h.cell 7, h.cell 8, h.cell 9, h.cell 10, h.cell 11, h.lt⟩
theorem fields_eq {w : World} {a r : Ac} {b : Bool} {A A2 : Option Addr} {c c2 : Nat} (hr : restOf a = r) (hk : kOk a = b) (hA : Vs w A a.vs) (hA2 : Vs w A2 a.ks) :
    Calls Try.prog 32 #[(.agg #[.int .i64 a.k, .int .i64 a.o, .int .i64 a.f.k, .int .i64 a.f.p, .int .i64 a.f.q, .string a.f.s, .int .i64 a.f.r, .slice A a.vs.length c, .string a.s, .int .i64 a.l, .int .i64 a.n, .slice A2 a.ks.length c2])] w fun e w' => RestP w w' e r b := by subst hr; subst hk; exact fields_any w a A c A2 c2 hA hA2
theorem own_same_eq {w : World} {a b : Ac} {q : Bool} {A A2 B B2 : Option Addr} {c c2 d d2 : Nat} (h : decide (a = b) = q) (hA : Vs w A a.vs) (hA2 : Vs w A2 a.ks) (hB : Vs w B b.vs) (hB2 : Vs w B2 b.ks) (n1 : a.vs.length ≤ 1000) (n2 : a.ks.length ≤ 1000) (n3 : b.vs.length ≤ 1000) (n4 : b.ks.length ≤ 1000) :
    Calls Try.prog 26 #[(.agg #[.int .i64 a.k, .int .i64 a.o, .int .i64 a.f.k, .int .i64 a.f.p, .int .i64 a.f.q, .string a.f.s, .int .i64 a.f.r, .slice A a.vs.length c, .string a.s, .int .i64 a.l, .int .i64 a.n, .slice A2 a.ks.length c2]), (.agg #[.int .i64 b.k, .int .i64 b.o, .int .i64 b.f.k, .int .i64 b.f.p, .int .i64 b.f.q, .string b.f.s, .int .i64 b.f.r, .slice B b.vs.length d, .string b.s, .int .i64 b.l, .int .i64 b.n, .slice B2 b.ks.length d2])] w fun e w' => e = .returned (.bool q) ∧ Chg (fun _ => False) w w' := by subst h; exact own_same w a b A c A2 c2 B d B2 d2 hA hA2 hB hB2 n1 n2 n3 n4
set_option maxRecDepth 100000 in
set_option maxHeartbeats 4000000 in
theorem own_check0 (w : World) (k o : Int) (f : V) (vs : List V) (s : ByteArray) (l n : Int) (ks : List V) (A : Option Addr) (c : Nat) (A2 : Option Addr) (c2 : Nat) (hA : Vs w A vs) (hA2 : Vs w A2 ks) (n1 : vs.length ≤ 1000) (n2 : ks.length ≤ 1000) (hbad : (kOk ⟨k, o, f, vs, s, l, n, ks⟩ = false ∨ restOf ⟨k, o, f, vs, s, l, n, ks⟩ ≠ AcB k) ∨ (k = 2 ∧ vs.length ≠ 1)) :
    Calls Try.prog 11 #[(.agg #[.int .i64 k, .int .i64 o, .int .i64 f.k, .int .i64 f.p, .int .i64 f.q, .string f.s, .int .i64 f.r, .slice A vs.length c, .string s, .int .i64 l, .int .i64 n, .slice A2 ks.length c2])] w fun e w' => e = .returned (.int .i64 (chkA ⟨k, o, f, vs, s, l, n, ks⟩)) ∧ Chg (fun _ => False) w w' := by
  have hA := hid hA
  have hA2 := hid hA2
  obtain ⟨r, hr⟩ : ∃ r, Hid (restOf ⟨k, o, f, vs, s, l, n, ks⟩ = r) := ⟨_, hid rfl⟩
  have hrl : Hid (r.vs.length ≤ 1000 ∧ r.ks.length ≤ 1000) := hid (by have h := rest_len ⟨k, o, f, vs, s, l, n, ks⟩; rw [hr.out] at h; exact ⟨Nat.le_trans h.1 n1, Nat.le_trans h.2 n2⟩)
  have hb0 : Hid (Bk (w.alloc (.cells (Ac.cs k o f (.slice A vs.length c) s l n (.slice A2 ks.length c2)).toArray 28)) w.heap.size 28 (Ac.cs k o f (.slice A vs.length c) s l n (.slice A2 ks.length c2))) := hid (Bk.new w 28 _)
  by_cases c1 : kOk ⟨k, o, f, vs, s, l, n, ks⟩ = false ∨ restOf ⟨k, o, f, vs, s, l, n, ks⟩ ≠ AcB k
  · rw [show chkA ⟨k, o, f, vs, s, l, n, ks⟩ = 4 by unfold chkA; rw [if_pos c1]]
    clear hbad
    cases hk0 : kOk ⟨k, o, f, vs, s, l, n, ks⟩
    · have hk := hid hk0
      clear hk0 c1
      have tok1 : True := trivial
      go_enter Try.func11, Try.ntmps11
      go_wp2_with (go_at_call 32; refine (fields_eq (a := ⟨k, o, f, vs, s, l, n, ks⟩) hr.out hk.out (Rd.alloc hA.out _) (Rd.alloc hA2.out _)).mono ?_; rintro e w1 ⟨B, d, B2, d2, rfl, hB', hB2', hc1⟩; have hB := hid hB'; have hB2 := hid hB2'; have hv1 := hid (Rd.none_ (Rd.alloc hA.out _) hc1); have hw1 := hid (Rd.none_ (Rd.alloc hA2.out _) hc1); have hb1 := hid (hb0.out.none_ hc1); have hC1 := hid (((Chg.refl (fun _ => False) w).alloc _).trans_same hc1); obtain ⟨px0, px1, px2, px3, px4, px5, px6, px7, px8, px9, px10, px11, plt⟩ := ac_box hb1.out; clear hB' hB2' hc1)
      go_ret
      exact ⟨rfl, hC1.out.alloc _⟩
    · have hk := hid hk0
      have hq : Hid (decide (r = AcB k) = false) := hid (by rw [hk0] at c1; rw [hr.out] at c1; simpa using c1)
      clear hk0 c1
      have tok1 : True := trivial
      go_enter Try.func11, Try.ntmps11
      go_wp2_with (first
        | (go_at_call 32; refine (fields_eq (a := ⟨k, o, f, vs, s, l, n, ks⟩) hr.out hk.out (Rd.alloc hA.out _) (Rd.alloc hA2.out _)).mono ?_; rintro e w1 ⟨B, d, B2, d2, rfl, hB', hB2', hc1⟩; have hB := hid hB'; have hB2 := hid hB2'; have hv1 := hid (Rd.none_ (Rd.alloc hA.out _) hc1); have hw1 := hid (Rd.none_ (Rd.alloc hA2.out _) hc1); have hb1 := hid (hb0.out.none_ hc1); have hC1 := hid (((Chg.refl (fun _ => False) w).alloc _).trans_same hc1); obtain ⟨px0, px1, px2, px3, px4, px5, px6, px7, px8, px9, px10, px11, plt⟩ := ac_box hb1.out; clear hB' hB2' hc1)
        | (go_at_call 26; refine (own_same_eq (a := r) (b := AcB k) (q := false) hq.out (Rd.alloc hB.out _) (Rd.alloc hB2.out _) (vs_nil _ none) (vs_nil _ none) (d := 0) (d2 := 0) hrl.out.1 hrl.out.2 (Nat.zero_le _) (Nat.zero_le _)).mono ?_; rintro e w2 ⟨rfl, hc2⟩; have hv2 := hid (Rd.none_ (Rd.alloc hv1.out _) hc2); have hw2 := hid (Rd.none_ (Rd.alloc hw1.out _) hc2); have hb2 := hid ((hb1.out.alloc _).none_ hc2); have hC2 := hid ((hC1.out.alloc _).trans_same hc2); obtain ⟨qx0, qx1, qx2, qx3, qx4, qx5, qx6, qx7, qx8, qx9, qx10, qx11, qlt⟩ := ac_box hb2.out; clear hc2))
      go_ret
      exact ⟨rfl, hC2.out⟩
  · obtain ⟨rfl, hl1⟩ : k = 2 ∧ vs.length ≠ 1 := hbad.resolve_left c1
    rw [show chkA ⟨2, o, f, vs, s, l, n, ks⟩ = 4 by unfold chkA; rw [if_neg c1, if_pos ⟨rfl, hl1⟩]]
    have hk := hid (show kOk ⟨2, o, f, vs, s, l, n, ks⟩ = true by simpa using fun h => c1 (.inl h))
    have hq : Hid (decide (r = AcB 2) = true) := hid (by rw [← hr.out]; simpa using Classical.not_not.1 fun h => c1 (.inr h))
    have hl2 : ((vs.length : Int) != 1) = true := by rw [bne_iff_ne]; omega
    clear hbad c1 hl1
    have tok1 : True := trivial
    go_enter Try.func11, Try.ntmps11
    go_wp2_with (first
      | (go_at_call 32; refine (fields_eq (a := ⟨2, o, f, vs, s, l, n, ks⟩) hr.out hk.out (Rd.alloc hA.out _) (Rd.alloc hA2.out _)).mono ?_; rintro e w1 ⟨B, d, B2, d2, rfl, hB', hB2', hc1⟩; have hB := hid hB'; have hB2 := hid hB2'; have hv1 := hid (Rd.none_ (Rd.alloc hA.out _) hc1); have hw1 := hid (Rd.none_ (Rd.alloc hA2.out _) hc1); have hb1 := hid (hb0.out.none_ hc1); have hC1 := hid (((Chg.refl (fun _ => False) w).alloc _).trans_same hc1); obtain ⟨px0, px1, px2, px3, px4, px5, px6, px7, px8, px9, px10, px11, plt⟩ := ac_box hb1.out; clear hB' hB2' hc1)
      | (go_at_call 26; refine (own_same_eq (a := r) (b := AcB 2) (q := true) hq.out (Rd.alloc hB.out _) (Rd.alloc hB2.out _) (vs_nil _ none) (vs_nil _ none) (d := 0) (d2 := 0) hrl.out.1 hrl.out.2 (Nat.zero_le _) (Nat.zero_le _)).mono ?_; rintro e w2 ⟨rfl, hc2⟩; have hv2 := hid (Rd.none_ (Rd.alloc hv1.out _) hc2); have hw2 := hid (Rd.none_ (Rd.alloc hw1.out _) hc2); have hb2 := hid ((hb1.out.alloc _).none_ hc2); have hC2 := hid ((hC1.out.alloc _).trans_same hc2); obtain ⟨qx0, qx1, qx2, qx3, qx4, qx5, qx6, qx7, qx8, qx9, qx10, qx11, qlt⟩ := ac_box hb2.out; clear hc2))
    go_ret
    exact ⟨rfl, hC2.out⟩
end Go.Proofs.Ytkkocoalildgnaa
