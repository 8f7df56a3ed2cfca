/-
  What the fields of an action are without those that its kind has; a list of values that are all well-formed.
-/
import Derived.Test.YtkkocoalildgnaaSame
import Derived.Test.YtkkocoalildgnaaMk2
import Derived.Test.YtkkocoalildgnaaVld2
namespace Go.Proofs.Ytkkocoalildgnaa
open Go.RowKit

def restOf (a : Ac) : Ac :=
  if a.k = 1 then { a with vs := [] } else
  if a.k = 2 then { a with vs := [], l := 0 } else
  if a.k = 3 then { a with f := V.zero, vs := [], n := 0, ks := [] } else
  if a.k = 4 then { a with f := V.zero, vs := [], n := 0, ks := [] } else
  if a.k = 5 then { a with vs := [], n := 0, ks := [] } else
  if a.k = 6 then { a with o := 0, vs := [] } else
  if a.k = 7 then { a with n := 0, ks := [] } else
  if a.k = 8 then { a with s := ⟨#[]⟩ } else
  if a.k = 9 then { a with s := ⟨#[]⟩, n := 0, ks := [] } else
  a
def kOk (a : Ac) : Bool := decide (1 ≤ a.k) && decide (a.k ≤ 9)
theorem vs_nil (w : World) (A : Option Addr) : Vs w A [] := ⟨by simp, fun h => absurd h (by simp)⟩
def RestP (w w' : World) (e : Ending) (a : Ac) (b : Bool) : Prop :=
  ∃ A c A2 c2, e = .returned (.tuple #[(.agg #[.int .i64 a.k, .int .i64 a.o, .int .i64 a.f.k, .int .i64 a.f.p, .int .i64 a.f.q, .string a.f.s, .int .i64 a.f.r, .slice A a.vs.length c, .string a.s, .int .i64 a.l, .int .i64 a.n, .slice A2 a.ks.length c2]), .bool b]) ∧ Vs w' A a.vs ∧ Vs w' A2 a.ks ∧ Chg (fun _ => False) w w'
set_option maxRecDepth 100000 in
set_option maxHeartbeats 4000000 in
theorem fields_any (w : World) (a : Ac) (A : Option Addr) (c : Nat) (A2 : Option Addr) (c2 : Nat) (hA : Vs w A a.vs) (hA2 : Vs w A2 a.ks) :
    Calls Try.prog 32 #[(.agg #[.int .i64 a.k, .int .i64 a.o, .int .i64 a.f.k, .int .i64 a.f.p, .int .i64 a.f.q, .string a.f.s, .int .i64 a.f.r, .slice A a.vs.length c, .string a.s, .int .i64 a.l, .int .i64 a.n, .slice A2 a.ks.length c2])] w fun e w' => RestP w w' e (restOf a) (kOk a) := by
  obtain ⟨k, o, f, vs, s, l, n, ks⟩ := a
  simp only at hA hA2 ⊢
  have hA := hid hA
  have hA2 := hid hA2
  have hC2 : ∀ x y, Hid (Chg (fun _ => False) w ((w.alloc x).alloc y)) := fun x y => hid (((Chg.refl _ w).alloc x).alloc y)
  by_cases h1 : k = 1
  · subst h1
    rw [show restOf ⟨1, o, f, vs, s, l, n, ks⟩ = ⟨1, o, f, [], s, l, n, ks⟩ by simp [restOf], show kOk ⟨1, o, f, vs, s, l, n, ks⟩ = true by simp [kOk]]
    skip
    clear hC2
    go_enter Try.func32, Try.ntmps32
    go_wp2
    exact bodyPost_ret (v := .tuple #[(.agg #[.int .i64 1, .int .i64 o, .int .i64 f.k, .int .i64 f.p, .int .i64 f.q, .string f.s, .int .i64 f.r, .slice none 0 0, .string s, .int .i64 l, .int .i64 n, .slice A2 ks.length c2]), .bool true]) (by simp [results, Try.results32, go_sem]) rfl ⟨_, _, _, _, rfl, vs_nil _ _, Rd.none_ hA2.out (((Chg.refl _ w).alloc _).alloc _), ((Chg.refl _ w).alloc _).alloc _⟩
  by_cases h2 : k = 2
  · subst h2
    rw [show restOf ⟨2, o, f, vs, s, l, n, ks⟩ = ⟨2, o, f, [], s, 0, n, ks⟩ by simp [restOf], show kOk ⟨2, o, f, vs, s, l, n, ks⟩ = true by simp [kOk]]
    clear h1
    clear hC2
    go_enter Try.func32, Try.ntmps32
    go_wp2
    exact bodyPost_ret (v := .tuple #[(.agg #[.int .i64 2, .int .i64 o, .int .i64 f.k, .int .i64 f.p, .int .i64 f.q, .string f.s, .int .i64 f.r, .slice none 0 0, .string s, .int .i64 0, .int .i64 n, .slice A2 ks.length c2]), .bool true]) (by simp [results, Try.results32, go_sem]) rfl ⟨_, _, _, _, rfl, vs_nil _ _, Rd.none_ hA2.out (((Chg.refl _ w).alloc _).alloc _), ((Chg.refl _ w).alloc _).alloc _⟩
  by_cases h3 : k = 3
  · subst h3
    rw [show restOf ⟨3, o, f, vs, s, l, n, ks⟩ = ⟨3, o, V.zero, [], s, l, 0, []⟩ by simp [restOf], show kOk ⟨3, o, f, vs, s, l, n, ks⟩ = true by simp [kOk]]
    clear h1 h2
    clear hC2
    go_enter Try.func32, Try.ntmps32
    go_wp2
    exact bodyPost_ret (v := .tuple #[(.agg #[.int .i64 3, .int .i64 o, .int .i64 V.zero.k, .int .i64 V.zero.p, .int .i64 V.zero.q, .string V.zero.s, .int .i64 V.zero.r, .slice none 0 0, .string s, .int .i64 l, .int .i64 0, .slice none 0 0]), .bool true]) (by simp [results, Try.results32, go_sem, V.zero]) rfl ⟨_, _, _, _, rfl, vs_nil _ _, vs_nil _ _, ((Chg.refl _ w).alloc _).alloc _⟩
  by_cases h4 : k = 4
  · subst h4
    rw [show restOf ⟨4, o, f, vs, s, l, n, ks⟩ = ⟨4, o, V.zero, [], s, l, 0, []⟩ by simp [restOf], show kOk ⟨4, o, f, vs, s, l, n, ks⟩ = true by simp [kOk]]
    clear h1 h2 h3
    clear hC2
    go_enter Try.func32, Try.ntmps32
    go_wp2
    exact bodyPost_ret (v := .tuple #[(.agg #[.int .i64 4, .int .i64 o, .int .i64 V.zero.k, .int .i64 V.zero.p, .int .i64 V.zero.q, .string V.zero.s, .int .i64 V.zero.r, .slice none 0 0, .string s, .int .i64 l, .int .i64 0, .slice none 0 0]), .bool true]) (by simp [results, Try.results32, go_sem, V.zero]) rfl ⟨_, _, _, _, rfl, vs_nil _ _, vs_nil _ _, ((Chg.refl _ w).alloc _).alloc _⟩
  by_cases h5 : k = 5
  · subst h5
    rw [show restOf ⟨5, o, f, vs, s, l, n, ks⟩ = ⟨5, o, f, [], s, l, 0, []⟩ by simp [restOf], show kOk ⟨5, o, f, vs, s, l, n, ks⟩ = true by simp [kOk]]
    clear h1 h2 h3 h4
    clear hC2
    go_enter Try.func32, Try.ntmps32
    go_wp2
    exact bodyPost_ret (v := .tuple #[(.agg #[.int .i64 5, .int .i64 o, .int .i64 f.k, .int .i64 f.p, .int .i64 f.q, .string f.s, .int .i64 f.r, .slice none 0 0, .string s, .int .i64 l, .int .i64 0, .slice none 0 0]), .bool true]) (by simp [results, Try.results32, go_sem]) rfl ⟨_, _, _, _, rfl, vs_nil _ _, vs_nil _ _, ((Chg.refl _ w).alloc _).alloc _⟩
  by_cases h6 : k = 6
  · subst h6
    rw [show restOf ⟨6, o, f, vs, s, l, n, ks⟩ = ⟨6, 0, f, [], s, l, n, ks⟩ by simp [restOf], show kOk ⟨6, o, f, vs, s, l, n, ks⟩ = true by simp [kOk]]
    clear h1 h2 h3 h4 h5
    clear hC2
    go_enter Try.func32, Try.ntmps32
    go_wp2
    exact bodyPost_ret (v := .tuple #[(.agg #[.int .i64 6, .int .i64 0, .int .i64 f.k, .int .i64 f.p, .int .i64 f.q, .string f.s, .int .i64 f.r, .slice none 0 0, .string s, .int .i64 l, .int .i64 n, .slice A2 ks.length c2]), .bool true]) (by simp [results, Try.results32, go_sem]) rfl ⟨_, _, _, _, rfl, vs_nil _ _, Rd.none_ hA2.out (((Chg.refl _ w).alloc _).alloc _), ((Chg.refl _ w).alloc _).alloc _⟩
  by_cases h7 : k = 7
  · subst h7
    rw [show restOf ⟨7, o, f, vs, s, l, n, ks⟩ = ⟨7, o, f, vs, s, l, 0, []⟩ by simp [restOf], show kOk ⟨7, o, f, vs, s, l, n, ks⟩ = true by simp [kOk]]
    clear h1 h2 h3 h4 h5 h6
    clear hC2
    go_enter Try.func32, Try.ntmps32
    go_wp2
    exact bodyPost_ret (v := .tuple #[(.agg #[.int .i64 7, .int .i64 o, .int .i64 f.k, .int .i64 f.p, .int .i64 f.q, .string f.s, .int .i64 f.r, .slice A vs.length c, .string s, .int .i64 l, .int .i64 0, .slice none 0 0]), .bool true]) (by simp [results, Try.results32, go_sem]) rfl ⟨_, _, _, _, rfl, Rd.none_ hA.out (((Chg.refl _ w).alloc _).alloc _), vs_nil _ _, ((Chg.refl _ w).alloc _).alloc _⟩
  by_cases h8 : k = 8
  · subst h8
    rw [show restOf ⟨8, o, f, vs, s, l, n, ks⟩ = ⟨8, o, f, vs, ⟨#[]⟩, l, n, ks⟩ by simp [restOf], show kOk ⟨8, o, f, vs, s, l, n, ks⟩ = true by simp [kOk]]
    clear h1 h2 h3 h4 h5 h6 h7
    clear hC2
    go_enter Try.func32, Try.ntmps32
    go_wp2
    exact bodyPost_ret (v := .tuple #[(.agg #[.int .i64 8, .int .i64 o, .int .i64 f.k, .int .i64 f.p, .int .i64 f.q, .string f.s, .int .i64 f.r, .slice A vs.length c, .string ⟨#[]⟩, .int .i64 l, .int .i64 n, .slice A2 ks.length c2]), .bool true]) (by simp [results, Try.results32, go_sem]) rfl ⟨_, _, _, _, rfl, Rd.none_ hA.out (((Chg.refl _ w).alloc _).alloc _), Rd.none_ hA2.out (((Chg.refl _ w).alloc _).alloc _), ((Chg.refl _ w).alloc _).alloc _⟩
  by_cases h9 : k = 9
  · subst h9
    rw [show restOf ⟨9, o, f, vs, s, l, n, ks⟩ = ⟨9, o, f, vs, ⟨#[]⟩, l, 0, []⟩ by simp [restOf], show kOk ⟨9, o, f, vs, s, l, n, ks⟩ = true by simp [kOk]]
    clear h1 h2 h3 h4 h5 h6 h7 h8
    clear hC2
    go_enter Try.func32, Try.ntmps32
    go_wp2
    exact bodyPost_ret (v := .tuple #[(.agg #[.int .i64 9, .int .i64 o, .int .i64 f.k, .int .i64 f.p, .int .i64 f.q, .string f.s, .int .i64 f.r, .slice A vs.length c, .string ⟨#[]⟩, .int .i64 l, .int .i64 0, .slice none 0 0]), .bool true]) (by simp [results, Try.results32, go_sem]) rfl ⟨_, _, _, _, rfl, Rd.none_ hA.out (((Chg.refl _ w).alloc _).alloc _), vs_nil _ _, ((Chg.refl _ w).alloc _).alloc _⟩
  · rw [show restOf ⟨k, o, f, vs, s, l, n, ks⟩ = ⟨k, o, f, vs, s, l, n, ks⟩ by simp [restOf, *], show kOk ⟨k, o, f, vs, s, l, n, ks⟩ = false by unfold kOk; rw [Bool.and_eq_false_iff, decide_eq_false_iff_not, decide_eq_false_iff_not]; simp only; omega]
    have g1 : (k == 1) = false := by simpa using h1
    have g2 : (k == 2) = false := by simpa using h2
    have g3 : (k == 3) = false := by simpa using h3
    have g4 : (k == 4) = false := by simpa using h4
    have g5 : (k == 5) = false := by simpa using h5
    have g6 : (k == 6) = false := by simpa using h6
    have g7 : (k == 7) = false := by simpa using h7
    have g8 : (k == 8) = false := by simpa using h8
    have g9 : (k == 9) = false := by simpa using h9
    clear hC2 h1 h2 h3 h4 h5 h6 h7 h8 h9
    go_enter Try.func32, Try.ntmps32
    go_wp2
    exact bodyPost_ret (v := .tuple #[(.agg #[.int .i64 k, .int .i64 o, .int .i64 f.k, .int .i64 f.p, .int .i64 f.q, .string f.s, .int .i64 f.r, .slice A vs.length c, .string s, .int .i64 l, .int .i64 n, .slice A2 ks.length c2]), .bool false]) (by simp [results, Try.results32, go_sem]) rfl ⟨_, _, _, _, rfl, Rd.none_ hA.out (((Chg.refl _ w).alloc _).alloc _), Rd.none_ hA2.out (((Chg.refl _ w).alloc _).alloc _), ((Chg.refl _ w).alloc _).alloc _⟩

theorem wrong_any (w : World) (v : V) {b : Bool} (hb : vok v = b) : Calls Try.prog 33 #[(.agg #[.int .i64 v.k, .int .i64 v.p, .int .i64 v.q, .string v.s, .int .i64 v.r])] w fun e w' => e = .returned (.bool (!b)) ∧ Chg (fun _ => False) w w' := by
  have hb := hid hb
  cases b
  all_goals
    go_enter Try.func33, Try.ntmps33
    go_wp2_with (go_at_call 34; refine (val_valid _ v).mono ?_; rintro e w1 ⟨rfl, hc⟩; rw [hb.out]; have hC := hid (((Chg.refl (fun _ => False) w).alloc _).trans_same hc); clear hc)
    go_ret
    exact ⟨rfl, hC.out⟩
theorem all_split {vs : List V} {j : Nat} (hj : j < vs.length) (h : vok (vAt vs j) = false) : vs.all vok = false := by
  rw [List.all_eq_false]
  exact ⟨vAt vs j, List.mem_of_getElem? (vAt_get vs j hj), by simp [h]⟩
theorem all_full {vs : List V} (h : ∀ i, i < vs.length → vok (vAt vs i) = true) : vs.all vok = true := by
  rw [List.all_eq_true]
  intro v hv
  obtain ⟨i, hi, rfl⟩ := List.getElem_of_mem hv
  have := h i hi
  unfold vAt at this
  rw [List.getD_eq_getElem?_getD, List.getElem?_eq_getElem hi] at this
  exact this
def FoundP (w w' : World) (e : Ending) (b : Bool) : Prop := ∃ r : Int, e = .returned (.int .i64 r) ∧ decide (0 ≤ r) = !b ∧ Chg (fun _ => False) w w'
set_option maxHeartbeats 2000000 in
theorem index_any (w : World) (A : Option Addr) (vs : List V) (k : Nat) (hA : Vs w A vs) (hn : vs.length ≤ 1000) :
    Calls Try.prog 45 #[.slice A vs.length k, .func (.func 33) #[] #[]] w fun e w' => FoundP w w' e (vs.all vok) := by
  have hA := hid hA
  go_enter Try.func45, Try.ntmps45
  go_wp2
  go_loopw [8] (fun i wr => ∃ j : Nat, j ≤ vs.length ∧ i = .int .i64 j ∧ Hid (Chg (fun _ => False) w wr) ∧ Hid (∀ i : Nat, i < j → vok (vAt vs i) = true)) (fun i _ => vs.length - (intOf i).toNat)
  case atStart => exact ⟨0, Nat.zero_le _, rfl, hid (Chg.refl _ w), hid fun i hi => absurd hi (by omega)⟩
  case round =>
    obtain ⟨j, hj, rfl, hC, hE⟩ := hrel
    by_cases hlt : j < vs.length
    · obtain ⟨b, o, rfl, hb, x0, x1, x2, x3, x4⟩ := Vs.at_ (Rd.chg hA.out hC.out fun _ _ _ h => h) hlt
      obtain ⟨b1, hb1⟩ : ∃ b1, Hid (vok (vAt vs j) = b1) := ⟨_, hid rfl⟩
      cases b1
      · have hall := hid (all_split hlt hb1.out)
        go_wp2_with (go_at_call 33; refine (wrong_any _ (vAt vs j) hb1.out).mono ?_; rintro e w1 ⟨rfl, hc⟩; have hC1 := hid (hC.out.trans_same hc); clear hc)
        go_ret
        exact ⟨j, rfl, by rw [hall.out]; simp, hC1.out⟩
      · have hE' : Hid (∀ i : Nat, i < j + 1 → vok (vAt vs i) = true) := hid fun i hi => by
          by_cases e : i = j
          · subst e; exact hb1.out
          · exact hE.out i (by omega)
        go_wp2_with (go_at_call 33; refine (wrong_any _ (vAt vs j) hb1.out).mono ?_; rintro e w1 ⟨rfl, hc⟩; have hC1 := hid (hC.out.trans_same hc); clear hc)
        go_roundw
        case rel => exact ⟨j + 1, by omega, by go_num, hC1, hE'⟩
        case measure => simp [intOf]; omega
    · obtain rfl : j = vs.length := by omega
      have hall := hid (all_full fun i hi => hE.out i hi)
      go_wp2
      go_ret
      exact ⟨-1, rfl, by rw [hall.out]; simp, hC.out⟩
theorem contains_any (w : World) (A : Option Addr) (vs : List V) (k : Nat) (hA : Vs w A vs) (hn : vs.length ≤ 1000) {b : Bool} (hb : vs.all vok = b) :
    Calls Try.prog 35 #[.slice A vs.length k, .func (.func 33) #[] #[]] w fun e w' => e = .returned (.bool (!b)) ∧ Chg (fun _ => False) w w' := by
  have hb := hid hb
  cases b
  all_goals
    go_enter Try.func35, Try.ntmps35
    go_wp2_with (go_at_call 45; refine (index_any _ A vs k hA hn).mono ?_; rintro e w1 ⟨r, rfl, hr, hc⟩; rw [hb.out] at hr; have hC := hid hc; clear hc)
    go_ret
    exact ⟨rfl, hC.out⟩
end Go.Proofs.Ytkkocoalildgnaa
