/-
  Get and Set upon the cells of a law, whatever row of registers they are given.
-/
import Derived.Test.YtjlefkohokcohaaMade
namespace Go.Proofs.Ytjlefkohokcohaa
open Go.RowKit
section
variable {w wc w' : World} {B o r : Nat} {L L' Lr : List Cl} {s : Value} {rs : List V}
theorem PAt.get (h : PAt w wc B o r L Lr s rs) {B' : Nat} {A : Option Addr} {m k : Nat} {rs' : List V} (hA : Row wc B' (.slice A m k) rs') {n : Int} {v : V} {c : Int} (h1 : getV L n rs' = v) (h2 : chk L n m = c) :
    Calls Try.prog 19 #[.pointer (some ⟨o, 0, none⟩), .int .i64 n, .slice A m k] wc fun e w' => e = .returned (.tuple #[(.agg #[.int .i64 v.k, .int .i64 v.p, .int .i64 v.q, .string v.s, .int .i64 v.r]), .int .i64 c]) ∧ Chg (fun _ => False) wc w' := by
  obtain ⟨rfl, h3⟩ := hA.vs
  subst h1; subst h2
  exact p_get h.pair h3 k n
theorem PAt.set_bad (h : PAt w wc B o r L Lr s rs) {A : Option Addr} {m k : Nat} {n : Int} {v : V} {c : Int} (h2 : chk L n m = c) (h0 : c ≠ 0) :
    Calls Try.prog 20 #[.pointer (some ⟨o, 0, none⟩), .int .i64 n, (.agg #[.int .i64 v.k, .int .i64 v.p, .int .i64 v.q, .string v.s, .int .i64 v.r]), .slice A m k] wc fun e w' => e = .returned (.tuple #[.slice none 0 0, .int .i64 c]) ∧ Chg (fun _ => False) wc w' := by
  subst h2
  exact p_set_bad h.pair n v A m k h0
theorem PAt.set_ok (h : PAt w wc B o r L Lr s rs) {B' : Nat} {A : Option Addr} {m k : Nat} {rs' : List V} (hA : Row wc B' (.slice A m k) rs') (hm : m ≤ 1000000) {i : Nat} (v : V) (h0 : chk L i m = 0) :
    Calls Try.prog 20 #[.pointer (some ⟨o, 0, none⟩), .int .i64 i, (.agg #[.int .i64 v.k, .int .i64 v.p, .int .i64 v.q, .string v.s, .int .i64 v.r]), .slice A m k] wc fun e w' => ∃ A' k', e = .returned (.tuple #[.slice A' m k', .int .i64 0]) ∧
      PAt w w' B o r (setCl L i v) Lr s rs ∧ Row w' B (.slice A' m k') (setRs L i v rs') ∧ TC [68] B wc w' := by
  obtain ⟨rfl, h3⟩ := hA.vs
  exact (p_set_ok h.pair h.hB i v h3 hm k h0).mono fun e w' ⟨A', k', h1, h2, h4, h5⟩ => ⟨A', k', h1, h.tc h2 h5 (by simp), h4, h5⟩
end

/-- Set hands back a row of its own, in a new block. -/
theorem PAt.set_new {w wc : World} {B o r : Nat} {L Lr : List Cl} {s : Value} {rs : List V} (h : PAt w wc B o r L Lr s rs) {B' : Nat} {A : Option Addr} {m k : Nat} {rs' : List V} (hA : Row wc B' (.slice A m k) rs') (hm : m ≤ 1000000) {i : Nat} (v : V) (h0 : chk L i m = 0) :
    Calls Try.prog 20 #[.pointer (some ⟨o, 0, none⟩), .int .i64 i, (.agg #[.int .i64 v.k, .int .i64 v.p, .int .i64 v.q, .string v.s, .int .i64 v.r]), .slice A m k] wc fun e w' => ∃ A' k', e = .returned (.tuple #[.slice A' m k', .int .i64 0]) ∧
      PAt w w' B o r (setCl L i v) Lr s rs ∧ Row w' B (.slice A' m k') (setRs L i v rs') ∧ TC [68] B wc w' ∧ ∀ b, (Value.slice A' m k').ownBlock = some b → wc.heap.size ≤ b := by
  obtain ⟨rfl, hA'⟩ := hA.vs
  obtain ⟨va, vo, vb, p⟩ := h.pair
  have hi : i < L.length := by have := chk_in h0; omega
  refine (up_set_ok wc o va L i v A rs' k (p.up.blk.cell 0) p.up.blk.lt p.up.all p.up.inv hA' hm h0 hi (p.up.blk.ne_row p.up.all (by decide))).mono fun e w' ⟨A', cap', h1, h2, h3, h4, h5, h6⟩ => ?_
  have hc : TC [68] B wc w' := h6.mono fun b _ hb => ⟨p.lo b (.inl (.inr (.inl hb))), own_ofT p.up.all (by simp) hb⟩
  refine ⟨A', cap', h1, h.tc ⟨va, vo, vb, ⟨p.up.blk.tc hc (by simp), h3, ?_, p.up.inv.setCl i v hi⟩, p.rf.tc hc (by simp) (by simp), p.lo⟩ hc (by simp), ⟨h4, fun b hb => Nat.le_trans h.hB (h5 b hb)⟩, hc, h5⟩
  rw [opens_setCl L i v hi]
  exact own_tc p.up.opn hc (by simp)

theorem chk_open {L : List Cl} {i m : Nat} (hi : i < L.length) (ho : (at_ L i).o = true) : chk L i m = if (m : Int) ≤ (at_ L i).reg then 19 else 0 := by
  unfold chk
  rw [if_neg (by omega), Int.toNat_natCast]
  simp [ho]
theorem getV_open {L : List Cl} {i g : Nat} {rs : List V} (hi : i < L.length) (ho : (at_ L i).o = true) (hr : (at_ L i).reg = (g : Nat)) (hg : g < rs.length) : getV L i rs = vAt rs g := by
  unfold getV
  have hc : chk L i rs.length = 0 := by rw [chk_open hi ho, hr, if_neg (by omega)]
  rw [if_pos hc, Int.toNat_natCast, if_pos ho, hr, Int.toNat_natCast]
theorem setRs_open {L : List Cl} {i g : Nat} {rs : List V} {v : V} (ho : (at_ L i).o = true) (hr : (at_ L i).reg = (g : Nat)) : setRs L i v rs = rs.set g v := by
  unfold setRs
  rw [if_pos ho, hr, Int.toNat_natCast]
theorem setCl_open {L : List Cl} {i : Nat} {v : V} (ho : (at_ L i).o = true) : setCl L i v = L := by
  unfold setCl
  rw [if_pos ho]
theorem vAt_set {rs : List V} {g : Nat} {v : V} (hg : g < rs.length) : vAt (rs.set g v) g = v := by
  unfold vAt
  rw [List.getD_eq_getElem?_getD, List.getElem?_set_self hg]
  rfl
/-- The cells as a law makes them, its memory from B on. -/
theorem made_at (w : World) (A : Option Addr) (l : List OpV) (k n m : Nat) (hm : n % 40 = m) (hn : n ≤ 255) (hl : Rd w 8 A l.length (l.flatMap OpV.cs)) (hs : l.length ≤ 200) :
    Calls Try.prog 14 #[.slice A l.length k, .int .u8 n] w fun e w' => ∃ B o r L rs A1 k1, e = .returned (.tuple #[.pointer (some ⟨o, 0, none⟩), .slice A1 m k1, .bool true]) ∧ rs.length = m ∧ L.length ≤ 200 ∧ w.heap.size ≤ B ∧
      PAt w w' B o r L L (.slice A1 m k1) rs := by
  subst hm
  refine (made_true w A l k n hn hl hs).mono fun e w' ⟨r, s, h1, h2⟩ => ?_
  obtain ⟨L, rs, A1, k1, rfl, h3, h4, h5⟩ := h2.at_
  exact ⟨_, _, r, L, rs, A1, k1, h1, h3, by omega, Nat.le_refl _, h5⟩
theorem PAt.bk {w wc : World} {B o r : Nat} {L Lr : List Cl} {s : Value} {rs : List V} (h : PAt w wc B o r L Lr s rs) {b : Nat} {t : TypeId} {cs : List Value} (hb : Bk w b t cs) (hB : w.heap.size ≤ B) : Bk wc b t cs :=
  (h.below.block b (Nat.lt_of_lt_of_le hb.lt hB)).trans hb
theorem Row.rd {w : World} {B m : Nat} {A : Option Addr} {k : Nat} {rs : List V} (h : Row w B (.slice A m k) rs) : Rd w 5 A m (rs.flatMap V.cs) := by
  obtain ⟨rfl, h1⟩ := h.vs
  exact h1
/-- A cell of a row. -/
theorem Row.at_ {w : World} {B m g : Nat} {A : Option Addr} {k : Nat} {rs : List V} (h : Row w B (.slice A m k) rs) (hg : g < m) : ∃ b, A = some ⟨b, 0, none⟩ ∧ b < w.heap.size ∧ B ≤ b ∧ (∀ j, w.frozen? ⟨b, j, none⟩ = false) ∧
    w.cell? ⟨b, g * 5, none⟩ = some (.int .i64 (vAt rs g).k) ∧ w.cell? ⟨b, g * 5 + 1, none⟩ = some (.int .i64 (vAt rs g).p) ∧ w.cell? ⟨b, g * 5 + 2, none⟩ = some (.int .i64 (vAt rs g).q) ∧
      w.cell? ⟨b, g * 5 + 3, none⟩ = some (.string (vAt rs g).s) ∧ w.cell? ⟨b, g * 5 + 4, none⟩ = some (.int .i64 (vAt rs g).r) := by
  obtain ⟨rfl, _⟩ := h.vs
  obtain ⟨A', cap, e, _, _, hB, -⟩ := own_form h.1
  injection e with e1 _ e3
  subst e1; subst e3
  obtain ⟨b, rfl⟩ := hB (by omega)
  obtain ⟨b', o', e, _, x⟩ := Vs.at_ (Rd.of_own h.1) hg
  injection e with e
  injection e with e1 e2
  subst e1; subst e2
  exact ⟨b, rfl, own_lt h.1 (k := b) rfl, h.2 b rfl, fun j => h.1.frozenAt j, by simpa using x⟩
/-- A register of a row of the law's own is set. -/
theorem Row.put {w : World} {B m g b k : Nat} {rs : List V} (h : Row w B (.slice (some ⟨b, 0, none⟩) m k) rs) (hg : g < m) (v : V) : Row (put5 w b (g * 5) v) B (.slice (some ⟨b, 0, none⟩) m k) (rs.set g v) := by
  obtain ⟨rfl, _⟩ := h.vs
  have R4 := own_put5 h.1 (g * 5) v
  rw [list5_V rs g v hg] at R4
  exact ⟨by simpa using R4, h.2⟩
end Go.Proofs.Ytjlefkohokcohaa
