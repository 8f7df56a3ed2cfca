/-
  The program's cells and the document's side by side: each call on one keeps the other.
-/
import Derived.Test.YtjlefkohokcohaaWGet
import Derived.Test.YtjlefkohokcohaaWClose2
namespace Go.Proofs.Ytjlefkohokcohaa
open Go.RowKit

structure PairAt (w : World) (B o r : Nat) (Lo Lr : List Cl) (va vo vb : Value) : Prop where
  up : UpRep w o va vo Lo
  rf : RfRep w r vb Lr
  lo : ∀ k, upF o va vo k ∨ rfF r vb k → B ≤ k
def Pair (w : World) (B o r : Nat) (Lo Lr : List Cl) : Prop := ∃ va vo vb, PairAt w B o r Lo Lr va vo vb
/-- A row of registers of the law's own. -/
def Row (w : World) (B : Nat) (v : Value) (rs : List V) : Prop := w.ownsRow 0 33 5 v rs.length (rs.flatMap V.cs) ∧ ∀ k, v.ownBlock = some k → B ≤ k

section
variable {w w' : World} {B o r : Nat} {Lo Lr : List Cl} {T : List Nat}
theorem UpRep.tc {c : Nat} {va vo : Value} {L : List Cl} {B' : Nat} (h : UpRep w c va vo L) (hc : TC T B' w w') (h1 : 63 ∉ T) (h2 : 68 ∉ T) (h3 : 3 ∉ T) : UpRep w' c va vo L :=
  ⟨h.blk.tc hc h1, own_tc h.all hc h2, own_tc h.opn hc h3, h.inv⟩
theorem RfRep.tc {c : Nat} {va : Value} {L : List Cl} {B' : Nat} (h : RfRep w c va L) (hc : TC T B' w w') (h1 : 66 ∉ T) (h2 : 72 ∉ T) : RfRep w' c va L := ⟨h.blk.tc hc h1, own_tc h.all hc h2, h.inv⟩
theorem Row.tc {v : Value} {rs : List V} {B' : Nat} (h : Row w B v rs) (hc : TC T B' w w') (h1 : 33 ∉ T) : Row w' B v rs := ⟨own_tc h.1 hc h1, h.2⟩
theorem Row.vs {A : Option Addr} {n cap : Nat} {rs : List V} (h : Row w B (.slice A n cap) rs) : n = rs.length ∧ Vs w A rs := by
  obtain ⟨A', cap', e, _⟩ := own_form h.1
  injection e with e1 e2 e3
  subst e1; subst e2; subst e3
  exact ⟨rfl, Rd.of_own h.1⟩
theorem Row.form {v : Value} {rs : List V} (h : Row w B v rs) : ∃ A cap, v = .slice A rs.length cap := by
  obtain ⟨A', cap', e, _⟩ := own_form h.1
  exact ⟨A', cap', e⟩
theorem Pair.none_ (h : Pair w B o r Lo Lr) (hc : Chg (fun _ => False) w w') : Pair w' B o r Lo Lr := by
  obtain ⟨va, vo, vb, h⟩ := h
  exact ⟨va, vo, vb, h.up.tc (TC.of_none (T := []) (B := 0) hc) (by simp) (by simp) (by simp), h.rf.tc (TC.of_none (T := []) (B := 0) hc) (by simp) (by simp), h.lo⟩
theorem Pair.alloc_ (h : Pair w B o r Lo Lr) (ob : Obj) : Pair (w.alloc ob) B o r Lo Lr := h.none_ ((Chg.refl _ w).alloc ob)
theorem Pair.other (h : Pair w B o r Lo Lr) (hc : TC [33] B w w') : Pair w' B o r Lo Lr := by
  obtain ⟨va, vo, vb, h⟩ := h
  exact ⟨va, vo, vb, h.up.tc hc (by simp) (by simp) (by simp), h.rf.tc hc (by simp) (by simp), h.lo⟩
theorem PairAt.up_post {va vo vb : Value} {L' : List Cl} (h : PairAt w B o r Lo Lr va vo vb) (hB : B ≤ w.heap.size) (hp : UpPost w w' o va vo L') : Pair w' B o r L' Lr ∧ TC [63, 68, 3] B w w' := by
  obtain ⟨va', vo', h1, h2, h3⟩ := hp
  have hc : TC [63, 68, 3] B w w' := h2.mono fun k _ hk => ⟨h.lo k (.inl hk), by
    rcases hk with rfl | hk | hk
    · exact h.up.blk.ofT (by simp)
    · exact own_ofT h.up.all (by simp) hk
    · exact own_ofT h.up.opn (by simp) hk⟩
  refine ⟨⟨va', vo', vb, h1, h.rf.tc hc (by simp) (by simp), fun k hk => ?_⟩, hc⟩
  rcases hk with hk | hk
  · rcases h3 k hk with hk | hk
    · exact h.lo k (.inl hk)
    · omega
  · exact h.lo k (.inr hk)
theorem PairAt.rf_post {va vo vb : Value} {L' : List Cl} (h : PairAt w B o r Lo Lr va vo vb) (hB : B ≤ w.heap.size) (hp : RfPost w w' r vb L') : Pair w' B o r Lo L' ∧ TC [66, 72] B w w' := by
  obtain ⟨vb', h1, h2, h3⟩ := hp
  have hc : TC [66, 72] B w w' := h2.mono fun k _ hk => ⟨h.lo k (.inr hk), by
    rcases hk with rfl | hk
    · exact h.rf.blk.ofT (by simp)
    · exact own_ofT h.rf.all (by simp) hk⟩
  refine ⟨⟨va, vo, vb', h.up.tc hc (by simp) (by simp) (by simp), h1, fun k hk => ?_⟩, hc⟩
  rcases hk with hk | hk
  · exact h.lo k (.inl hk)
  · rcases h3 k hk with hk | hk
    · exact h.lo k (.inr hk)
    · omega
theorem Row.away {v : Value} {rs : List V} {A : Option Addr} {n cap : Nat} (h : Row w B v rs) (hv : v = .slice A n cap) {va vo vb : Value} (hp : PairAt w B o r Lo Lr va vo vb) :
    (∀ b k, A = some ⟨b, k, none⟩ → ¬ upF o va vo b) ∧ ∀ b k, A = some ⟨b, k, none⟩ → ¬ rfF r vb b := by
  subst hv
  refine ⟨fun b k e hf => ?_, fun b k e hf => ?_⟩ <;> subst e
  · rcases hf with rfl | hf | hf
    · exact hp.up.blk.ne_row h.1 (by decide) rfl
    · exact own_ne h.1 hp.up.all (by decide) (k := b) rfl hf
    · exact own_ne h.1 hp.up.opn (by decide) (k := b) rfl hf
  · rcases hf with rfl | hf
    · exact hp.rf.blk.ne_row h.1 (by decide) rfl
    · exact own_ne h.1 hp.rf.all (by decide) (k := b) rfl hf

theorem p_open (h : Pair w B o r Lo Lr) (hB : B ≤ w.heap.size) (hl : Lo.length ≤ 1000) (reg : Int) :
    Calls Try.prog 16 #[.pointer (some ⟨o, 0, none⟩), .int .i64 reg] w fun e w' => e = .returned (.tuple #[.int .i64 (opn Lo reg).1, .int .i64 (opn Lo reg).2.1]) ∧ Pair w' B o r (opn Lo reg).2.2 Lr ∧ TC [63, 68, 3] B w w' := by
  obtain ⟨va, vo, vb, h⟩ := h
  by_cases hr : reg < 0 ∨ 65536 ≤ reg
  · have hf : opn Lo reg = (0, 6, Lo) := by unfold opn; rw [if_pos hr]
    rw [hf]
    exact (open_out o reg w hr).mono fun e w' ⟨h1, h2⟩ => by subst h2; exact ⟨h1, ⟨va, vo, vb, h⟩, TC.refl _ _ _⟩
  · exact (open_in o va vo Lo reg w h.up hl (by omega) (by omega)).mono fun e w' ⟨h1, h2⟩ => ⟨h2, h.up_post hB h1⟩
theorem q_open (h : Pair w B o r Lo Lr) (hB : B ≤ w.heap.size) (hl : Lr.length ≤ 1000) (reg : Int) :
    Calls Try.prog 22 #[.pointer (some ⟨r, 0, none⟩), .int .i64 reg] w fun e w' => e = .returned (.tuple #[.int .i64 (opn Lr reg).1, .int .i64 (opn Lr reg).2.1]) ∧ Pair w' B o r Lo (opn Lr reg).2.2 ∧ TC [66, 72] B w w' := by
  obtain ⟨va, vo, vb, h⟩ := h
  by_cases hr : reg < 0 ∨ 65536 ≤ reg
  · have hf : opn Lr reg = (0, 6, Lr) := by unfold opn; rw [if_pos hr]
    rw [hf]
    exact (rf_open_out r reg w hr).mono fun e w' ⟨h1, h2⟩ => by subst h2; exact ⟨h1, ⟨va, vo, vb, h⟩, TC.refl _ _ _⟩
  · exact (rf_open_in r vb Lr reg w h.rf hl (by omega) (by omega)).mono fun e w' ⟨h1, h2⟩ => ⟨h2, h.rf_post hB h1⟩
theorem p_get (h : Pair w B o r Lo Lr) {A : Option Addr} {rs : List V} (hA : Vs w A rs) (k : Nat) (n : Int) :
    Calls Try.prog 19 #[.pointer (some ⟨o, 0, none⟩), .int .i64 n, .slice A rs.length k] w fun e w' => e = .returned (.tuple #[(.agg #[.int .i64 (getV Lo n rs).k, .int .i64 (getV Lo n rs).p, .int .i64 (getV Lo n rs).q, .string (getV Lo n rs).s, .int .i64 (getV Lo n rs).r]), .int .i64 (chk Lo n rs.length)]) ∧ Chg (fun _ => False) w w' := by
  obtain ⟨va, vo, vb, h⟩ := h
  exact up_get w o va Lo n A rs k (h.up.blk.cell 0) h.up.blk.lt h.up.all h.up.inv hA
theorem q_get (h : Pair w B o r Lo Lr) {A : Option Addr} {rs : List V} (hA : Vs w A rs) (k : Nat) (n : Int) :
    Calls Try.prog 23 #[.pointer (some ⟨r, 0, none⟩), .int .i64 n, .slice A rs.length k] w fun e w' => e = .returned (.tuple #[(.agg #[.int .i64 (getV Lr n rs).k, .int .i64 (getV Lr n rs).p, .int .i64 (getV Lr n rs).q, .string (getV Lr n rs).s, .int .i64 (getV Lr n rs).r]), .int .i64 (chk Lr n rs.length)]) ∧ Chg (fun _ => False) w w' := by
  obtain ⟨va, vo, vb, h⟩ := h
  exact rf_get w r vb Lr n A rs k (h.rf.blk.cell 0) h.rf.blk.lt h.rf.all h.rf.inv hA
theorem p_register (h : Pair w B o r Lo Lr) (n : Int) :
    Calls Try.prog 17 #[.pointer (some ⟨o, 0, none⟩), .int .i64 n] w fun e w' => e = .returned (.tuple #[.int .i64 (regOf Lo n), .bool (isOpen Lo n)]) ∧ w = w' := by
  obtain ⟨va, vo, vb, h⟩ := h
  exact up_register w o va Lo n (h.up.blk.cell 0) h.up.all
theorem q_register (h : Pair w B o r Lo Lr) (n : Int) :
    Calls Try.prog 26 #[.pointer (some ⟨r, 0, none⟩), .int .i64 n] w fun e w' => e = .returned (.tuple #[.int .i64 (regOf Lr n), .bool (isOpen Lr n)]) ∧ w = w' := by
  obtain ⟨va, vo, vb, h⟩ := h
  exact rf_register w r vb Lr n (h.rf.blk.cell 0) h.rf.all
theorem p_count (h : Pair w B o r Lo Lr) : Calls Try.prog 15 #[.pointer (some ⟨o, 0, none⟩)] w fun e w' => e = .returned (.int .i64 Lo.length) ∧ w = w' := by
  obtain ⟨va, vo, vb, h⟩ := h
  obtain ⟨A, cap, rfl, _⟩ := own_form h.up.all
  exact up_count w o A Lo.length cap (h.up.blk.cell 0)
theorem q_count (h : Pair w B o r Lo Lr) : Calls Try.prog 27 #[.pointer (some ⟨r, 0, none⟩)] w fun e w' => e = .returned (.int .i64 Lr.length) ∧ w = w' := by
  obtain ⟨va, vo, vb, h⟩ := h
  obtain ⟨A, cap, rfl, _⟩ := own_form h.rf.all
  exact rf_count w r A Lr.length cap (h.rf.blk.cell 0)
theorem p_close (h : Pair w B o r Lo Lr) (hB : B ≤ w.heap.size) (hl : Lo.length ≤ 1000) {A : Option Addr} {rs : List V} {k : Nat} (hA : Row w B (.slice A rs.length k) rs) (fr : Int) :
    Calls Try.prog 18 #[.pointer (some ⟨o, 0, none⟩), .int .i64 fr, .slice A rs.length k] w fun e w' => e = .returned (.int .i64 (cnt Lo fr)) ∧ Pair w' B o r (clo Lo fr rs) Lr ∧ TC [63, 68, 3] B w w' := by
  obtain ⟨va, vo, vb, h⟩ := h
  exact (up_close o va vo Lo fr A rs k w h.up hl hA.vs.2 (hA.away rfl h).1).mono fun e w' ⟨h1, h2⟩ => ⟨h2, h.up_post hB h1⟩
theorem q_close (h : Pair w B o r Lo Lr) (hB : B ≤ w.heap.size) (hl : Lr.length ≤ 1000) {A : Option Addr} {rs : List V} {k : Nat} (hA : Row w B (.slice A rs.length k) rs) (fr : Int) :
    Calls Try.prog 25 #[.pointer (some ⟨r, 0, none⟩), .int .i64 fr, .slice A rs.length k] w fun e w' => e = .returned (.int .i64 (cnt Lr fr)) ∧ Pair w' B o r Lo (clo Lr fr rs) ∧ TC [66, 72] B w w' := by
  obtain ⟨va, vo, vb, h⟩ := h
  exact (rf_close r vb Lr fr A rs k w h.rf hl hA.vs.2 (hA.away rfl h).2).mono fun e w' ⟨h1, h2⟩ => ⟨h2, h.rf_post hB h1⟩

theorem chk_in {L : List Cl} {n : Int} {m : Nat} (h : chk L n m = 0) : 0 ≤ n ∧ n < L.length := by
  unfold chk at h
  split at h
  · cases h
  · omega
/-- What Set leaves on both sides. -/
theorem p_set_bad (h : Pair w B o r Lo Lr) (n : Int) (v : V) (A : Option Addr) (m k : Nat) (h0 : chk Lo n m ≠ 0) :
    Calls Try.prog 20 #[.pointer (some ⟨o, 0, none⟩), .int .i64 n, (.agg #[.int .i64 v.k, .int .i64 v.p, .int .i64 v.q, .string v.s, .int .i64 v.r]), .slice A m k] w fun e w' => e = .returned (.tuple #[.slice none 0 0, .int .i64 (chk Lo n m)]) ∧ Chg (fun _ => False) w w' := by
  obtain ⟨va, vo, vb, h⟩ := h
  exact up_set_bad w o va Lo n v A m k (h.up.blk.cell 0) h.up.blk.lt h.up.all h0
theorem q_set_bad (h : Pair w B o r Lo Lr) (n : Int) (v : V) (A : Option Addr) (m k : Nat) (h0 : chk Lr n m ≠ 0) :
    Calls Try.prog 24 #[.pointer (some ⟨r, 0, none⟩), .int .i64 n, (.agg #[.int .i64 v.k, .int .i64 v.p, .int .i64 v.q, .string v.s, .int .i64 v.r]), .slice A m k] w fun e w' => e = .returned (.tuple #[.slice none 0 0, .int .i64 (chk Lr n m)]) ∧ Chg (fun _ => False) w w' := by
  obtain ⟨va, vo, vb, h⟩ := h
  exact rf_set_bad w r vb Lr n v A m k (h.rf.blk.cell 0) h.rf.blk.lt h.rf.all h0
theorem p_set_ok (h : Pair w B o r Lo Lr) (hB : B ≤ w.heap.size) (i : Nat) (v : V) {A : Option Addr} {rs : List V} (hA : Vs w A rs) (hl : rs.length ≤ 1000000) (k : Nat) (h0 : chk Lo i rs.length = 0) :
    Calls Try.prog 20 #[.pointer (some ⟨o, 0, none⟩), .int .i64 i, (.agg #[.int .i64 v.k, .int .i64 v.p, .int .i64 v.q, .string v.s, .int .i64 v.r]), .slice A rs.length k] w fun e w' => ∃ A' cap', e = .returned (.tuple #[.slice A' rs.length cap', .int .i64 0]) ∧
      Pair w' B o r (setCl Lo i v) Lr ∧ Row w' B (.slice A' rs.length cap') (setRs Lo i v rs) ∧ TC [68] B w w' := by
  obtain ⟨va, vo, vb, h⟩ := h
  have hi : i < Lo.length := by have := chk_in h0; omega
  refine (up_set_ok w o va Lo i v A rs k (h.up.blk.cell 0) h.up.blk.lt h.up.all h.up.inv hA hl h0 hi (h.up.blk.ne_row h.up.all (by decide))).mono fun e w' ⟨A', cap', h1, h2, h3, h4, h5, h6⟩ => ?_
  have hc : TC [68] B w w' := h6.mono fun b _ hb => ⟨h.lo b (.inl (.inr (.inl hb))), own_ofT h.up.all (by simp) hb⟩
  refine ⟨A', cap', h1, ⟨va, vo, vb, ⟨h.up.blk.tc hc (by simp), h3, ?_, h.up.inv.setCl i v hi⟩, h.rf.tc hc (by simp) (by simp), h.lo⟩, ⟨h4, fun b hb => Nat.le_trans hB (h5 b hb)⟩, hc⟩
  rw [opens_setCl Lo i v hi]
  exact own_tc h.up.opn hc (by simp)
theorem q_set_ok (h : Pair w B o r Lo Lr) (hB : B ≤ w.heap.size) (i : Nat) (v : V) {A : Option Addr} {rs : List V} (hA : Vs w A rs) (hl : rs.length ≤ 1000000) (k : Nat) (h0 : chk Lr i rs.length = 0) :
    Calls Try.prog 24 #[.pointer (some ⟨r, 0, none⟩), .int .i64 i, (.agg #[.int .i64 v.k, .int .i64 v.p, .int .i64 v.q, .string v.s, .int .i64 v.r]), .slice A rs.length k] w fun e w' => ∃ A' cap', e = .returned (.tuple #[.slice A' rs.length cap', .int .i64 0]) ∧
      Pair w' B o r Lo (setCl Lr i v) ∧ Row w' B (.slice A' rs.length cap') (setRs Lr i v rs) ∧ TC [72] B w w' := by
  obtain ⟨va, vo, vb, h⟩ := h
  have hi : i < Lr.length := by have := chk_in h0; omega
  refine (rf_set_ok w r vb Lr i v A rs k (h.rf.blk.cell 0) h.rf.blk.lt h.rf.all h.rf.inv hA hl h0 hi (h.rf.blk.ne_row h.rf.all (by decide))).mono fun e w' ⟨A', cap', h1, h2, h3, h4, h5, h6⟩ => ?_
  have hc : TC [72] B w w' := h6.mono fun b _ hb => ⟨h.lo b (.inr (.inr hb)), own_ofT h.rf.all (by simp) hb⟩
  exact ⟨A', cap', h1, ⟨va, vo, vb, h.up.tc hc (by simp) (by simp) (by simp), ⟨h.rf.blk.tc hc (by simp), h3, h.rf.inv.setCl i v hi⟩, h.lo⟩, ⟨h4, fun b hb => Nat.le_trans hB (h5 b hb)⟩, hc⟩
end
end Go.Proofs.Ytjlefkohokcohaa
