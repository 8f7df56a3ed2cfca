/-
  The lists of both in memory; the walks of what only looks, and of New.
-/
import Derived.Test.YtpfopidmdnkkeaaModel
import Derived.Test.YtpfopidmdnkkeaaVld2
import Derived.Test.YtpfopidmdnkkeaaVld3
import Derived.Test.YtpfopidmdnkkeaaAcc
import Derived.Maps.OwnSet
import Derived.Maps.OwnOps
import Derived.Maps.Views
namespace Go.Proofs.Ytpfopidmdnkkeaa
open Go.RowKit Go.Maps

/-- The error in flight of the program: a list of at most one failure, its trace the slice tv. -/
def FaRep (w : World) (vf tv : Value) : Option Fl → Prop
  | none => vf = .slice none 0 0 ∧ tv = .slice none 0 0
  | some f => ∃ bf, vf = .slice (some ⟨bf, 0, none⟩) 1 1 ∧ Bk w bf 30 [.int .i64 f.v.k, .int .i64 f.v.p, .int .i64 f.v.q, .string f.v.s, .int .i64 f.v.r, tv] ∧ w.ownsRow 0 64 3 tv f.tr.length (f.tr.flatMap Pl.cs)
/-- Block c is the program's list. -/
structure OwnL (w : World) (c : Nat) (ve : Value) (bm : Nat) (vf tv : Value) (n : Nat) (D : DataW Unit) (es : List En) (fl : Option Fl) : Prop where
  blk : Bk w c 71 [ve, .map (some bm), vf]
  ent : w.ownsRow 0 73 6 ve es.length (es.flatMap En.cs)
  mp : w.ownsMap Try.prog 3 (plainElem Try.prog 3) bm n D
  ix : ∀ i, i < es.length → D.atKey (.int .i64 (enAt es i).r) (.lit (.int .i64 0)) = .lit (.int .i64 ((i : Int) + 1))
  up : Up es
  fa : FaRep w vf tv fl
def ownF (c : Nat) (ve : Value) (bm : Nat) (vf tv : Value) (k : Nat) : Prop := k = c ∨ ve.ownBlock = some k ∨ k = bm ∨ vf.ownBlock = some k ∨ tv.ownBlock = some k
/-- Block c is the document's list. -/
structure DocL (w : World) (c : Nat) (vr vv tv : Value) (es : List En) (fl : Option Fl) : Prop where
  blk : Bk w c 56 [vr, vv, .int .i64 ((failV fl)).k, .int .i64 ((failV fl)).p, .int .i64 ((failV fl)).q, .string ((failV fl)).s, .int .i64 ((failV fl)).r, tv, .bool fl.isSome]
  reg : w.ownsRow 0 3 1 vr es.length (es.map fun e => .int .i64 e.r)
  val : w.ownsRow 0 25 5 vv es.length ((valsOf es).flatMap V.cs)
  tra : w.ownsRow 0 64 3 tv (fl.getD Fl.zero).tr.length ((fl.getD Fl.zero).tr.flatMap Pl.cs)
def docF (c : Nat) (vr vv tv : Value) (k : Nat) : Prop := k = c ∨ vr.ownBlock = some k ∨ vv.ownBlock = some k ∨ tv.ownBlock = some k

theorem int_law : Keyed Try.prog 3 := int_keyed Try.underlying3

/-! ### The small walks -/
set_option maxHeartbeats 1000000 in
theorem own_true (w : World) (v : V) {b : Bool} (hb : trueV v = b) : Calls Try.prog 33 #[(.agg #[.int .i64 v.k, .int .i64 v.p, .int .i64 v.q, .string v.s, .int .i64 v.r])] w fun e w' => e = .returned (.bool b) ∧ Chg (fun _ => False) w w' := by
  subst hb
  obtain ⟨k, p, q, s, r⟩ := v
  by_cases hk0 : k = 0
  · subst hk0
    go_enter Try.func33, Try.ntmps33
    go_wp2
    go_ret
    exact ⟨rfl, (Chg.refl _ w).alloc _⟩
  have k0 : (k != 0) = true := by simpa using hk0
  by_cases hk1 : k = 1
  · subst hk1
    by_cases hr : r = 0
    · subst hr
      go_enter Try.func33, Try.ntmps33
      go_wp2
      go_ret
      exact ⟨rfl, (Chg.refl _ w).alloc _⟩
    · have r0 : (r == 0) = false := by simpa using hr
      have r1 : (r != 0) = true := by simpa using hr
      have hv : trueV ⟨1, p, q, s, r⟩ = true := by simp [trueV, hr]
      rw [hv]
      clear hr hk0 hv
      go_enter Try.func33, Try.ntmps33
      go_wp2
      go_ret
      exact ⟨rfl, (Chg.refl _ w).alloc _⟩
  · have k1 : (k == 1) = false := by simpa using hk1
    have k2 : (k != 1) = true := by simpa using hk1
    have hv : trueV ⟨k, p, q, s, r⟩ = true := by simp [trueV, hk0, hk1]
    rw [hv]
    clear hk0 hk1 hv
    go_enter Try.func33, Try.ntmps33
    go_wp2
    go_ret
    exact ⟨rfl, (Chg.refl _ w).alloc _⟩
set_option maxHeartbeats 1000000 in
theorem doc_true (w : World) (v : V) {b : Bool} (hb : trueV v = b) : Calls Try.prog 27 #[(.agg #[.int .i64 v.k, .int .i64 v.p, .int .i64 v.q, .string v.s, .int .i64 v.r])] w fun e w' => e = .returned (.bool b) ∧ Chg (fun _ => False) w w' := by
  subst hb
  obtain ⟨k, p, q, s, r⟩ := v
  by_cases hk0 : k = 0
  · subst hk0
    go_enter Try.func27, Try.ntmps27
    go_wp2
    go_ret
    exact ⟨rfl, (Chg.refl _ w).alloc _⟩
  have k0 : (k != 0) = true := by simpa using hk0
  by_cases hk1 : k = 1
  · subst hk1
    by_cases hr : r = 0
    · subst hr
      go_enter Try.func27, Try.ntmps27
      go_wp2
      go_ret
      exact ⟨rfl, (Chg.refl _ w).alloc _⟩
    · have r0 : (r == 0) = false := by simpa using hr
      have r1 : (r != 0) = true := by simpa using hr
      have hv : trueV ⟨1, p, q, s, r⟩ = true := by simp [trueV, hr]
      rw [hv]
      clear hr hk0 hv
      go_enter Try.func27, Try.ntmps27
      go_wp2
      go_ret
      exact ⟨rfl, (Chg.refl _ w).alloc _⟩
  · have k1 : (k == 1) = false := by simpa using hk1
    have k2 : (k != 1) = true := by simpa using hk1
    have hv : trueV ⟨k, p, q, s, r⟩ = true := by simp [trueV, hk0, hk1]
    rw [hv]
    clear hk0 hk1 hv
    go_enter Try.func27, Try.ntmps27
    go_wp2
    go_ret
    exact ⟨rfl, (Chg.refl _ w).alloc _⟩
theorem num_any (w : World) (n : Int) : Calls Try.prog 28 #[.int .i64 n] w fun e w' => e = .returned (.agg #[.int .i64 ((⟨2, n, 1, ⟨#[]⟩, 0⟩ : V)).k, .int .i64 ((⟨2, n, 1, ⟨#[]⟩, 0⟩ : V)).p, .int .i64 ((⟨2, n, 1, ⟨#[]⟩, 0⟩ : V)).q, .string ((⟨2, n, 1, ⟨#[]⟩, 0⟩ : V)).s, .int .i64 ((⟨2, n, 1, ⟨#[]⟩, 0⟩ : V)).r]) ∧ Chg (fun _ => False) w w' := by
  go_enter Try.func28, Try.ntmps28
  go_wp2
  exact bodyPost_ret (v := (.agg #[.int .i64 ((⟨2, n, 1, ⟨#[]⟩, 0⟩ : V)).k, .int .i64 ((⟨2, n, 1, ⟨#[]⟩, 0⟩ : V)).p, .int .i64 ((⟨2, n, 1, ⟨#[]⟩, 0⟩ : V)).q, .string ((⟨2, n, 1, ⟨#[]⟩, 0⟩ : V)).s, .int .i64 ((⟨2, n, 1, ⟨#[]⟩, 0⟩ : V)).r])) (by simp [results, Try.results28, go_sem]) rfl ⟨rfl, (Chg.refl _ w).alloc _⟩
theorem large_any (w : World) (A : Option Addr) (n k : Nat) {b : Bool} (hb : decide (300 < n) = b) : Calls Try.prog 20 #[.slice A n k] w fun e w' => e = .returned (.bool b) ∧ w = w' := by
  cases b
  · have h : decide ((300 : Int) < n) = false := by simp at hb ⊢; omega
    clear hb
    go_enter Try.func20, Try.ntmps20
    go_wp2
    go_ret
    exact ⟨rfl, rfl⟩
  · have h : decide ((300 : Int) < n) = true := by simp at hb ⊢; omega
    clear hb
    go_enter Try.func20, Try.ntmps20
    go_wp2
    go_ret
    exact ⟨rfl, rfl⟩
theorem own_len {w : World} {c bm n : Nat} {ve vf tv : Value} {D : DataW Unit} {es : List En} {fl : Option Fl} (h : OwnL w c ve bm vf tv n D es fl) : Calls Try.prog 14 #[.pointer (some ⟨c, 0, none⟩)] w fun e w' => e = .returned (.int .i64 es.length) ∧ w = w' := by
  obtain ⟨A, cap, rfl, _⟩ := own_form h.ent
  have c0 := h.blk.cell 0
  simp at c0
  go_enter Try.func14, Try.ntmps14
  go_wp2
  go_ret
  exact ⟨rfl, rfl⟩
theorem doc_len {w : World} {c : Nat} {vr vv tv : Value} {es : List En} {fl : Option Fl} (h : DocL w c vr vv tv es fl) : Calls Try.prog 23 #[.pointer (some ⟨c, 0, none⟩)] w fun e w' => e = .returned (.int .i64 es.length) ∧ w = w' := by
  obtain ⟨A, cap, rfl, _⟩ := own_form h.val
  have c0 := h.blk.cell 1
  simp at c0
  go_enter Try.func23, Try.ntmps23
  go_wp2
  go_ret
  exact ⟨rfl, rfl⟩
set_option maxHeartbeats 1000000 in
theorem last_entry (w : World) (A : Option Addr) (es : List En) (k : Nat) (h : Rd w 6 A es.length (es.flatMap En.cs)) (hn : es.length ≤ 1000) :
    Calls Try.prog 30 #[.slice A es.length k] w fun e w' => e = .returned (.tuple #[.agg #[.int .i64 (lastE es).r, .int .i64 ((lastE es).v).k, .int .i64 ((lastE es).v).p, .int .i64 ((lastE es).v).q, .string ((lastE es).v).s, .int .i64 ((lastE es).v).r], .bool (decide (0 < es.length))]) ∧ Chg (fun _ => False) w w' := by
  rcases Nat.eq_zero_or_pos es.length with h0 | h0
  · have he : es = [] := List.eq_nil_of_length_eq_zero h0
    subst he
    go_enter Try.func30, Try.ntmps30
    go_wp2
    exact bodyPost_ret (v := .tuple #[.agg #[.int .i64 0, .int .i64 V.zero.k, .int .i64 V.zero.p, .int .i64 V.zero.q, .string V.zero.s, .int .i64 V.zero.r], .bool false]) (by simp [results, Try.results30, go_sem, V.zero]) rfl ⟨rfl, ((Chg.refl _ w).alloc _).alloc _⟩
  · obtain ⟨b, o, rfl, hb, hc⟩ := h.2 h0
    obtain ⟨n, hn'⟩ : ∃ n, es.length = n + 1 := ⟨es.length - 1, by omega⟩
    have hl : lastE es = enAt es n := by unfold lastE; rw [hn', Nat.add_sub_cancel]
    rw [hl, show decide (0 < es.length) = true by simpa using h0]
    have g : ∀ j, j < 6 → w.cell? ⟨b, o + (n * 6 + j), none⟩ = (enAt es n).cs[j]? := fun j hj => by
      rw [hc _ (by omega), flat_at _ 6 En.cs_len _ _ _ hj, enAt_get _ _ (by omega)]; rfl
    have x0 : w.cell? ⟨b, o + n * 6, none⟩ = some (.int .i64 (enAt es n).r) := g 0 (by omega)
    have x1 : w.cell? ⟨b, o + n * 6 + 1, none⟩ = some (.int .i64 (enAt es n).v.k) := g 1 (by omega)
    have x2 : w.cell? ⟨b, o + n * 6 + 2, none⟩ = some (.int .i64 (enAt es n).v.p) := g 2 (by omega)
    have x3 : w.cell? ⟨b, o + n * 6 + 3, none⟩ = some (.int .i64 (enAt es n).v.q) := g 3 (by omega)
    have x4 : w.cell? ⟨b, o + n * 6 + 4, none⟩ = some (.string (enAt es n).v.s) := g 4 (by omega)
    have x5 : w.cell? ⟨b, o + n * 6 + 5, none⟩ = some (.int .i64 (enAt es n).v.r) := g 5 (by omega)
    rw [hn']
    have hnl : n + 1 ≤ 1000 := by omega
    generalize enAt es n = x at x0 x1 x2 x3 x4 x5
    clear hc g h hn' hl h0 hn
    have z0 : (((n + 1 : Nat) : Int) == 0) = false := by rw [beq_eq_false_iff_ne]; omega
    go_enter Try.func30, Try.ntmps30
    go_wp2
    exact bodyPost_ret (v := .tuple #[.agg #[.int .i64 x.r, .int .i64 x.v.k, .int .i64 x.v.p, .int .i64 x.v.q, .string x.v.s, .int .i64 x.v.r], .bool true]) (by simp [results, Try.results30, go_sem]) rfl ⟨rfl, ((Chg.refl _ w).alloc _).alloc _⟩
end Go.Proofs.Ytpfopidmdnkkeaa
