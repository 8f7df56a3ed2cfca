/-
  The cells after any calls, as the laws make them; the calls upon them.
-/
import Derived.Test.YtjlefkohokcohaaPlay
namespace Go.Proofs.Ytjlefkohokcohaa
open Go.RowKit

set_option maxRecDepth 100000 in
set_option maxHeartbeats 4000000 in
theorem made_true (w : World) (A : Option Addr) (l : List OpV) (k n : Nat) (hn : n ≤ 255) (hl : Rd w 8 A l.length (l.flatMap OpV.cs)) (hs : l.length ≤ 200) :
    Calls Try.prog 14 #[.slice A l.length k, .int .u8 n] w fun e w' => ∃ r s, e = .returned (.tuple #[.pointer (some ⟨w.heap.size, 0, none⟩), s, .bool true]) ∧ Live w w' w.heap.size r l.length (n % 40) s := by
  obtain ⟨i33, hi33, hz33, hs33, hb33⟩ := info_parts Try.info33
  have hmk : ∀ W : World, (Instr.makeSlice 27 (.int .i64 ((n : Int) % 40)) (.int .i64 ((n : Int) % 40))).run Try.prog W = .ok (.slice (some ⟨W.heap.size, 0, none⟩) (n % 40) (n % 40)) (W.alloc (.cells (zs (n % 40)) 33)) := fun W => by
    have e : ((n : Int) % 40) = ((n % 40 : Nat) : Int) := by omega
    rw [e]
    exact run_make_n (P := Try.prog) 27 33 i33 _ 5 48 Try.underlying27 hi33 hz33 hs33 hb33 (n % 40) (by omega) (by omega) W
  have hl := hid hl
  go_enter Try.func14, Try.ntmps14
  go_wp2_with (first
    | (go_at_call 9; refine (solo0 _).mono ?_; rintro e w1 ⟨rfl, hs1', hb1', hz1⟩; have hs1 := hid hs1'; have hb1 := hid hb1'; clear hs1' hb1')
    | (go_at_call 10; refine (p_new hs1.out hz1).mono ?_; rintro e w2 ⟨rfl, hP2', hc2⟩; have hP2 := hid hP2'; have hb2 := hid (hb1.out.trans (hc2.below hz1 (fun _ _ h => h))); have hz2 : w.heap.size ≤ w2.heap.size := Nat.le_trans hz1 hc2.size; clear hP2' hc2 hs1 hb1))
  have hm40 : n % 40 ≤ 40 := by omega
  have hstart := hid (show Live w (w2.alloc (.cells (zs (n % 40)) 33)) w.heap.size w1.heap.size 0 (n % 40) (.slice (some ⟨w2.heap.size, 0, none⟩) (n % 40) (n % 40)) from
    ⟨[], _, _, _, rfl, List.length_replicate, Nat.le_refl _, hP2.out.alloc_ _, row_new w2 _ _ hz2 (by omega), Nat.le_trans hz2 (by simp), hb2.out.alloc hz2 _⟩)
  generalize hm0 : n % 40 = m at hstart hm40
  have hm1 := hid hm0
  clear hm0
  clear hmk hi33 hz33 hs33 hb33 hP2 hb2
  go_loopw [9, 10] (fun s i wr => ∃ j : Nat, j ≤ l.length ∧ i = .int .i64 j ∧ Hid (Live w wr w.heap.size w1.heap.size j m s)) (fun _ i _ => l.length - (intOf i).toNat)
  case atStart => exact ⟨0, Nat.zero_le _, rfl, hstart⟩
  case round =>
    obtain ⟨j, hj, rfl, hLive⟩ := hrel
    by_cases hlt : j < l.length
    · obtain ⟨L, rs, A1, k1, rfl, hlen', hLl, hP', hR', hBj, hb'⟩ := hLive.out
      have hlen := hid hlen'
      have hPj := hid hP'
      have hRj := hid hR'
      have hbj := hid hb'
      clear hP' hR' hb' hlen' hLive hstart
      obtain ⟨b, o', rfl, hb, c0, c1, c2, c3, c4, c5, c6, c7⟩ := op_at (Rd.below hl.out hbj.out (Nat.le_refl _)) hlt ⟨0, 0, 0, V.zero⟩
      generalize l.getD j ⟨0, 0, 0, V.zero⟩ = x at c0 c1 c2 c3 c4 c5 c6 c7
      go_wp2_with (go_at_call 11; refine (step_at hBj hPj.out hRj.out hlen.out (by omega) (by omega) x).mono ?_; rintro e w3 ⟨L', rs', A', k', rfl, g1, g2, g3, g4, g5, g6⟩; have fin := hid (show Live w w3 w.heap.size w1.heap.size (j + 1) m (.slice A' m k') from ⟨L', rs', A', k', rfl, g1, by omega, g3, g4, g5, hbj.out.trans g6⟩); clear g1 g2 g3 g4 g6)
      go_roundw
      case rel => exact ⟨j + 1, by omega, by go_num, fin⟩
      case measure => simp [intOf]; omega
    · obtain rfl : j = l.length := by omega
      go_wp2
      go_ret3
      exact ⟨_, _, rfl, by rw [hm1.out]; exact hLive.out⟩

/-- The program's cells in a law, beside the document's, with the registers. -/
structure PAt (w wc : World) (B o r : Nat) (L Lr : List Cl) (s : Value) (rs : List V) : Prop where
  pair : Pair wc B o r L Lr
  row : Row wc B s rs
  hB : B ≤ wc.heap.size
  below : Below B w wc
section
variable {w wc w' : World} {B o r : Nat} {L L' Lr : List Cl} {s : Value} {rs : List V}
theorem PAt.tc {T : List Nat} (h : PAt w wc B o r L Lr s rs) (hp : Pair w' B o r L' Lr) (hc : TC T B wc w') (h1 : 33 ∉ T) : PAt w w' B o r L' Lr s rs :=
  ⟨hp, h.row.tc hc h1, Nat.le_trans h.hB hc.size, h.below.trans (hc.below h.hB)⟩
theorem PAt.none_ (h : PAt w wc B o r L Lr s rs) (hc : Chg (fun _ => False) wc w') : PAt w w' B o r L Lr s rs := h.tc (h.pair.none_ hc) (TC.of_none (T := []) hc) (by simp)
theorem PAt.open (h : PAt w wc B o r L Lr s rs) (hl : L.length ≤ 1000) {reg a b : Int} (he : opn L reg = (a, b, L')) :
    Calls Try.prog 16 #[.pointer (some ⟨o, 0, none⟩), .int .i64 reg] wc fun e w' => e = .returned (.tuple #[.int .i64 a, .int .i64 b]) ∧ PAt w w' B o r L' Lr s rs :=
  (p_open h.pair h.hB hl reg).mono fun e w' ⟨h1, h2, h3⟩ => by
    rw [he] at h1 h2
    exact ⟨h1, h.tc h2 h3 (by simp)⟩
theorem PAt.count (h : PAt w wc B o r L Lr s rs) : Calls Try.prog 15 #[.pointer (some ⟨o, 0, none⟩)] wc fun e w' => e = .returned (.int .i64 L.length) ∧ wc = w' := p_count h.pair
theorem PAt.register (h : PAt w wc B o r L Lr s rs) {n a : Int} {b : Bool} (h1 : regOf L n = a) (h2 : isOpen L n = b) :
    Calls Try.prog 17 #[.pointer (some ⟨o, 0, none⟩), .int .i64 n] wc fun e w' => e = .returned (.tuple #[.int .i64 a, .bool b]) ∧ wc = w' := by
  subst h1; subst h2
  exact p_register h.pair n
theorem PAt.close {A : Option Addr} {m k : Nat} (h : PAt w wc B o r L Lr (.slice A m k) rs) (hl : L.length ≤ 1000) (fr : Int) :
    Calls Try.prog 18 #[.pointer (some ⟨o, 0, none⟩), .int .i64 fr, .slice A m k] wc fun e w' => e = .returned (.int .i64 (cnt L fr)) ∧ PAt w w' B o r (clo L fr rs) Lr (.slice A m k) rs := by
  obtain ⟨rfl, _⟩ := h.row.vs
  exact (p_close h.pair h.hB hl h.row fr).mono fun e w' ⟨h1, h2, h3⟩ => ⟨h1, h.tc h2 h3 (by simp)⟩
theorem PAt.inv (h : PAt w wc B o r L Lr s rs) : Inv L := by
  obtain ⟨va, vo, vb, h⟩ := h.pair
  exact h.up.inv
theorem Live.at_ {j m : Nat} (h : Live w wc o r j m s) : ∃ L rs A k, s = .slice A m k ∧ rs.length = m ∧ L.length ≤ j ∧ PAt w wc w.heap.size o r L L (.slice A m k) rs := by
  obtain ⟨L, rs, A, k, h1, h2, h3, h4, h5, h6, h7⟩ := h
  exact ⟨L, rs, A, k, h1, h2, h3, h4, h5, h6, h7⟩
end

/-! ### The plain laws of Open -/
theorem opn_in {L : List Cl} (I : Inv L) {reg : Int} (h0 : 0 ≤ reg) (h1 : reg < 65536) : ∃ (i : Nat) (L1 : List Cl), opn L reg = ((i : Int), 0, L1) ∧ i < L1.length ∧ i ≤ L.length ∧ L1.length ≤ L.length + 1 ∧ Inv L1 ∧
    (at_ L1 i).o = true ∧ (at_ L1 i).reg = reg ∧ ∀ j, j < L.length → at_ L1 j = at_ L j := by
  unfold opn
  rw [if_neg (by omega)]
  cases h : findReg L reg with
  | some i =>
    obtain ⟨a, b, c⟩ := findReg_some h
    exact ⟨i, L, rfl, a, by omega, by omega, I, b, c, fun _ _ => rfl⟩
  | none => exact ⟨L.length, L ++ [Cl.new reg], rfl, by simp, Nat.le_refl _, by simp, I.app h h0 h1, by rw [at_app_eq]; rfl, by rw [at_app_eq]; rfl, fun j hj => at_app_lt hj⟩
theorem opn_again {L : List Cl} (I : Inv L) {reg : Int} (h0 : 0 ≤ reg) (h1 : reg < 65536) {i : Nat} (hi : i < L.length) (ho : (at_ L i).o = true) (hr : (at_ L i).reg = reg) : opn L reg = ((i : Int), 0, L) := by
  unfold opn
  rw [if_neg (by omega), findReg_of I hi ho hr]
theorem cnt_pos {L : List Cl} {reg : Int} {i : Nat} (hi : i < L.length) (ho : (at_ L i).o = true) (hr : reg ≤ (at_ L i).reg) : 1 ≤ cnt L reg :=
  List.length_pos_of_mem (List.mem_filter.2 ⟨List.mem_of_getElem? (at_get L i hi), by simp [ho, hr]⟩)
/-- Closed, and opened again: another cell. -/
theorem opn_other {L : List Cl} (I : Inv L) {reg : Int} (h0 : 0 ≤ reg) (h1 : reg < 65536) {i : Nat} (hi : i < L.length) (ho : (at_ L i).o = true) (hr : (at_ L i).reg = reg) (rs : List V) :
    ∃ (c : Nat) (L3 : List Cl), opn (clo L reg rs) reg = ((c : Int), 0, L3) ∧ c ≠ i ∧ isOpen L3 i = false := by
  have hi2 : i < (clo L reg rs).length := by rw [clo_len]; exact hi
  have hc : (at_ (clo L reg rs) i).o = false := by
    rw [at_clo L reg rs i hi]
    unfold cloF
    rw [if_pos ⟨ho, by omega⟩]
    rfl
  obtain ⟨c, L3, e, hc3, _, _, _, ho3, _, same⟩ := opn_in (I.clo reg rs) h0 h1
  have h3 : (at_ L3 i).o = false := by rw [same i hi2]; exact hc
  refine ⟨c, L3, e, (fun hci => by rw [hci, h3] at ho3; cases ho3), ?_⟩
  unfold isOpen
  split
  · rfl
  · rw [Int.toNat_natCast]; exact h3
end Go.Proofs.Ytjlefkohokcohaa
