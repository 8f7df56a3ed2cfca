/-
  The law's step: one call with both, from cells that are alike to cells that are alike.
-/
import Derived.Test.YtjlefkohokcohaaL1
import Derived.Test.YtjlefkohokcohaaRegion
import Derived.Test.YtjlefkohokcohaaMem
import Derived.Deep.DeepCutAuto
namespace Go.Proofs.Ytjlefkohokcohaa
open Go.RowKit

structure OpV where
  kd : Int
  n : Int
  rg : Int
  v : V
def OpV.cs (x : OpV) : List Value := [.int .i64 x.kd, .int .i64 x.n, .int .i64 x.rg, .int .i64 x.v.k, .int .i64 x.v.p, .int .i64 x.v.q, .string x.v.s, .int .i64 x.v.r]
theorem OpV.box {w : World} {b : Nat} {t : TypeId} {x : OpV} (h : Bk w b t x.cs) : w.cell? ⟨b, 0, none⟩ = some (.int .i64 x.kd) ∧ w.cell? ⟨b, 1, none⟩ = some (.int .i64 x.n) ∧ w.cell? ⟨b, 2, none⟩ = some (.int .i64 x.rg) ∧
    w.cell? ⟨b, 3, none⟩ = some (.int .i64 x.v.k) ∧ w.cell? ⟨b, 4, none⟩ = some (.int .i64 x.v.p) ∧ w.cell? ⟨b, 5, none⟩ = some (.int .i64 x.v.q) ∧ w.cell? ⟨b, 6, none⟩ = some (.string x.v.s) ∧ w.cell? ⟨b, 7, none⟩ = some (.int .i64 x.v.r) :=
  ⟨h.cell 0, h.cell 1, h.cell 2, h.cell 3, h.cell 4, h.cell 5, h.cell 6, h.cell 7⟩

/-- The registers that the call sees. -/
def rsN (x : OpV) (rs : List V) : List V := if 0 ≤ x.rg ∧ x.rg < rs.length then rs.set x.rg.toNat x.v else rs
theorem rsN_len (x : OpV) (rs : List V) : (rsN x rs).length = rs.length := by unfold rsN; split <;> simp

theorem values_rows {w : World} {B B' : Nat} {A A' : Option Addr} {n k k' : Nat} {rs : List V} (hA : Row w B (.slice A n k) rs) (hA' : Row w B' (.slice A' n k') rs) (hl : n ≤ 1000000) :
    Calls Try.prog 21 #[.slice A n k, .slice A' n k'] w fun e w' => e = .returned (.bool true) ∧ Chg (fun _ => False) w w' := by
  obtain ⟨rfl, h1⟩ := hA.vs
  exact values_same w A A' rs k k' h1 hA'.vs.2 hl

/-- What holds while a step goes on: the cells alike, the registers, the call in its box; nothing below B has changed. -/
structure At (w wc : World) (B o r b : Nat) (L L' : List Cl) (x : OpV) (s : Value) (rs : List V) : Prop where
  pair : Pair wc B o r L L'
  row : Row wc B s rs
  box : Bk wc b 35 x.cs
  hB : B ≤ wc.heap.size
  below : Below B w wc
theorem At.tc {w wc w' : World} {B o r b : Nat} {L L' M M' : List Cl} {x : OpV} {s : Value} {rs : List V} {T : List Nat} (h : At w wc B o r b L L' x s rs) (hp : Pair w' B o r M M') (hc : TC T B wc w') (h1 : 33 ∉ T) (h2 : 35 ∉ T) :
    At w w' B o r b M M' x s rs := ⟨hp, h.row.tc hc h1, h.box.tc hc h2, Nat.le_trans h.hB hc.size, h.below.trans (hc.below h.hB)⟩
theorem At.none_ {w wc w' : World} {B o r b : Nat} {L L' : List Cl} {x : OpV} {s : Value} {rs : List V} (h : At w wc B o r b L L' x s rs) (hc : Chg (fun _ => False) wc w') : At w w' B o r b L L' x s rs :=
  h.tc (h.pair.none_ hc) (TC.of_none (T := []) hc) (by simp) (by simp)

/-- What a step hands back. -/
def StepPost (w w' : World) (B o r : Nat) (m n : Nat) (e : Ending) : Prop :=
  ∃ L' rs' A' k', e = .returned (.tuple #[.slice A' n k', .bool true]) ∧ rs'.length = n ∧ L'.length ≤ m + 1 ∧ Pair w' B o r L' L' ∧ Row w' B (.slice A' n k') rs' ∧ B ≤ w'.heap.size ∧ Below B w w'
theorem At.post {w wc : World} {B o r b m n k : Nat} {L : List Cl} {x : OpV} {A : Option Addr} {rs : List V} (h : At w wc B o r b L L x (.slice A n k) rs) (hn : rs.length = n) (hm : L.length ≤ m + 1) :
    StepPost w wc B o r m n (.returned (.tuple #[.slice A n k, .bool true])) := ⟨L, rs, A, k, rfl, hn, hm, h.pair, h.row, h.hB, h.below⟩

theorem own_V_at {w : World} {g cap i : Nat} {rs : List V} (h : w.ownsRow 0 33 5 (.slice (some ⟨g, 0, none⟩) rs.length cap) rs.length (rs.flatMap V.cs)) (hi : i < rs.length) :
    w.cell? ⟨g, i * 5, none⟩ = some (.int .i64 (vAt rs i).k) ∧ w.cell? ⟨g, i * 5 + 1, none⟩ = some (.int .i64 (vAt rs i).p) ∧ w.cell? ⟨g, i * 5 + 2, none⟩ = some (.int .i64 (vAt rs i).q) ∧
      w.cell? ⟨g, i * 5 + 3, none⟩ = some (.string (vAt rs i).s) ∧ w.cell? ⟨g, i * 5 + 4, none⟩ = some (.int .i64 (vAt rs i).r) := by
  obtain ⟨b, o, e, _, x⟩ := Vs.at_ (Rd.of_own h) hi
  injection e with e
  injection e with e1 e2
  subst e1; subst e2
  simpa using x
theorem opn_len (L : List Cl) (reg : Int) : (opn L reg).2.2.length ≤ L.length + 1 := by
  unfold opn
  split
  · simp
  · split <;> simp
theorem at_first {w : World} {B o r : Nat} {L : List Cl} {x : OpV} {rs : List V} {s : Value} (hB : B ≤ w.heap.size) (hP : Pair w B o r L L) (hA : Row w B s rs) (hn : ¬ (0 ≤ x.rg ∧ x.rg < rs.length)) :
    At w (w.alloc (.cells x.cs.toArray 35)) B o r w.heap.size L L x s (rsN x rs) := by
  have e : rsN x rs = rs := by unfold rsN; rw [if_neg hn]
  rw [e]
  have hc : Chg (fun _ => False) w (w.alloc (.cells x.cs.toArray 35)) := (Chg.refl _ w).alloc _
  exact ⟨hP.none_ hc, hA.tc (TC.of_none (T := []) (B := B) hc) (by simp), Bk.new _ _ _, Nat.le_trans hB hc.size, hc.below hB fun _ _ h => h⟩
theorem copied_at {w w3 : World} {B o r g cap i : Nat} {L : List Cl} {x : OpV} {rs : List V} (hB : B ≤ w.heap.size) (hP : Pair w B o r L L) (C3 : Chg (fun _ => False) w w3) (X3 : Bk w3 w.heap.size 35 x.cs)
    (R3 : w3.ownsRow 0 33 5 (.slice (some ⟨g, 0, none⟩) rs.length cap) rs.length (rs.flatMap V.cs)) (hg : w.heap.size < g) (hi : x.rg = (i : Nat)) (hlt : i < rs.length) :
    At w (put5 w3 g (i * 5) x.v) B o r w.heap.size L L x (.slice (some ⟨g, 0, none⟩) rs.length cap) (rsN x rs) := by
  have e : rsN x rs = rs.set i x.v := by unfold rsN; rw [if_pos (by omega), hi, Int.toNat_natCast]
  rw [e]
  have hc : Chg (fun _ => False) w (put5 w3 g (i * 5) x.v) := C3.put5 (fun h => absurd h (by omega)) _ _
  have R4 := own_put5 R3 (i * 5) x.v
  rw [list5_V rs i x.v hlt] at R4
  refine ⟨hP.none_ hc, ⟨by simpa using R4, fun k hk => ?_⟩, X3.chg (put5_chg w3 g _ _) (by omega), Nat.le_trans hB hc.size, hc.below hB fun _ _ h => h⟩
  simp [Value.ownBlock] at hk
  omega

set_option maxRecDepth 100000 in
set_option maxHeartbeats 4000000 in
theorem step_true (w : World) (B o r : Nat) (L : List Cl) (A : Option Addr) (rs : List V) (k : Nat) (x : OpV) (hB : B ≤ w.heap.size) (hP : Pair w B o r L L) (hA : Row w B (.slice A rs.length k) rs) (hl : L.length ≤ 1000) (hr : rs.length ≤ 1000) :
    Calls Try.prog 11 #[.pointer (some ⟨o, 0, none⟩), .pointer (some ⟨r, 0, none⟩), .agg #[.int .i64 x.kd, .int .i64 x.n, .int .i64 x.rg, .int .i64 x.v.k, .int .i64 x.v.p, .int .i64 x.v.q, .string x.v.s, .int .i64 x.v.r], .slice A rs.length k] w fun e w' => StepPost w w' B o r L.length rs.length e := by
  have hX := hid (Bk.new w 35 x.cs)
  have hP := hid hP
  have hA := hid hA
  go_enter Try.func11, Try.ntmps11
  go_upto_region 1 with fail
  go_cut [35] (fun s35 wc => ∃ q : Bool, s35 = .bool q ∧ Hid (q = true ↔ 0 ≤ x.rg ∧ x.rg < rs.length) ∧ wc = w.alloc (.cells x.cs.toArray 35))
  case first =>
    by_cases h1 : 0 ≤ x.rg
    · by_cases h2 : x.rg < rs.length
      · go_wp2_with fail
        go_meet
        case rel => exact ⟨true, rfl, hid (by simp [h1, h2]), rfl⟩
      · go_wp2_with fail
        go_meet
        case rel => exact ⟨false, rfl, hid (by simp; omega), rfl⟩
    · go_wp2_with fail
      go_meet
      case rel => exact ⟨false, rfl, hid (by simp; omega), rfl⟩
  case rest =>
  obtain ⟨q, rfl, hq, rfl⟩ := hcut
  go_upto_if 35 with fail
  go_cut [3] (fun s3 wc => ∃ A1 k1, s3 = .slice A1 (rsN x rs).length k1 ∧ Hid (At w wc B o r w.heap.size L L x (.slice A1 (rsN x rs).length k1) (rsN x rs)))
  case first =>
    cases q with
    | true =>
      have hin := hq.out.1 rfl
      obtain ⟨i, hi⟩ := Int.eq_ofNat_of_zero_le hin.1
      have hlt : i < rs.length := by omega
      have hi' := hid hi
      have hones := hid (V.ones rs)
      obtain ⟨i33, hi33, hz33, hs33, hb33⟩ := info_parts Try.info33
      clear hin hi
      go_wp2_with ((with_reducible show wpList _ _ _ ((⟨some 38, _, _, _, _, _⟩ : Oper) :: _) _ _); refine wpList_append_rd (o := ⟨some 38, _, _, _, _, _⟩) rfl (.tmp 36) (.tmp 37) 27 rfl 33 i33 _ 5 48 Try.underlying27 hi33 hz33 hs33 hb33 rfl (by omega) (.slice (some ⟨w.heap.size + 1, 0, none⟩) 0 0) 0 [] rfl (by have := World.ownsRow_made (base := 0) (e := 33) (size := 5) (w.alloc (.cells x.cs.toArray 35)) #[] 0 (Nat.zero_le _) (Nat.zero_le _) rfl; simpa using this) A rs.length k (rs.flatMap V.cs) rfl ((Rd.alloc hA.out.vs.2 _).alloc _) hones.out (by unfold maxLen; omega) (by omega) (w.heap.size + 2) (by simp) ?_; intro A3 cap3 w3 hown3 hg3 hat3; rw [Nat.zero_add, List.nil_append] at hown3; rw [Nat.zero_add] at hat3; obtain ⟨A4, cap4, e4, -, -, hB4, -⟩ := own_form hown3; injection e4 with e5 _ e6; subst e5; subst e6; obtain ⟨g3, rfl⟩ := hB4 (by omega); have hgg : w.heap.size < g3 := (hat3 g3 rfl).elim (fun h => by simp [Value.ownBlock] at h; omega) (fun h => by omega); have C3 := hid (((((Chg.refl (fun k => k = w.heap.size + 1) w).alloc _).alloc _).grown hg3 (by simp [Value.ownBlock])).mono (T := fun _ => False) (fun k hk e => by omega)); have X3 := hid (((Bk.new w 35 x.cs).alloc _).grown hg3 (by simp [Value.ownBlock])); obtain ⟨x0, x1, x2, x3, x4, x5, x6, x7⟩ := OpV.box X3.out; rw [hi'.out] at x2; have hgl : g3 < w3.heap.size := own_lt hown3 (k := g3) rfl; have hx3 : w.heap.size < w3.heap.size := X3.out.lt; have hfz : ∀ j, w3.frozen? ⟨g3, j, none⟩ = false := fun j => hown3.frozenAt j; obtain ⟨z0, z1, z2, z3, z4⟩ := own_V_at hown3 hlt; have R3 := hid hown3; clear hown3 hg3 hat3 hB4 hX)
      have fin := hid (copied_at hB hP.out C3.out X3.out R3.out hgg hi'.out hlt)
      go_meet
      case rel => exact ⟨_, _, by rw [rsN_len], by rw [rsN_len]; exact fin⟩
    | false =>
      have fin := hid (at_first hB hP.out hA.out (fun h => by have := hq.out.2 h; cases this))
      go_wp2_with fail
      go_meet
      case rel => exact ⟨A, k, by rw [rsN_len], by rw [rsN_len]; exact fin⟩
  case rest =>
  obtain ⟨A1, k1, rfl, hAt⟩ := hcut
  have hlen := hid (rsN_len x rs)
  generalize rsN x rs = rs1 at hAt hlen ⊢
  obtain ⟨y0, y1, y2, y3, y4, y5, y6, y7⟩ := OpV.box hAt.out.box
  have hlx := hAt.out.box.lt
  have hr1 : rs1.length ≤ 1000 := by have := hlen.out; omega
  clear hX hP hA hq hr
  by_cases h0 : x.kd = 0
  · rw [h0] at y0
    clear h0
    go_wp2_with (first
      | (go_at_call 16; refine (p_open hAt.out.pair hAt.out.hB hl x.n).mono ?_; rintro e w2 ⟨rfl, hP2, hc2⟩; have hA2 := hid (hAt.out.tc hP2 hc2 (by simp) (by simp)); obtain ⟨z0, z1, z2, z3, z4, z5, z6, z7⟩ := OpV.box hA2.out.box; have hlz := hA2.out.box.lt; clear hP2 hc2 hAt y0 y1 y2 y3 y4 y5 y6 y7)
      | (go_at_call 22; refine (q_open hA2.out.pair hA2.out.hB hl x.n).mono ?_; rintro e w3 ⟨rfl, hP3, hc3⟩; have hA3 := hid (hA2.out.tc hP3 hc3 (by simp) (by simp)); clear hP3 hc3 hA2 z0 z1 z2 z3 z4 z5 z6 z7))
    go_ret2
    rw [← hlen.out]
    exact hA3.out.post rfl (opn_len L x.n)
  have e0 : (x.kd == 0) = false := by simpa using h0
  by_cases h1 : x.kd = 1
  · rw [h1] at y0
    clear h0 h1 e0
    go_wp2_with (first
      | (go_at_call 19; refine (p_get hAt.out.pair hAt.out.row.vs.2 _ _).mono ?_; rintro e w2 ⟨rfl, hc2⟩; have hA2 := hid (hAt.out.none_ hc2); obtain ⟨z0, z1, z2, z3, z4, z5, z6, z7⟩ := OpV.box hA2.out.box; have hlz := hA2.out.box.lt; clear hc2 hAt y0 y1 y2 y3 y4 y5 y6 y7)
      | (go_at_call 23; refine (q_get (hA2.out.none_ ((Chg.refl _ w2).alloc _)).pair (hA2.out.none_ ((Chg.refl _ w2).alloc _)).row.vs.2 _ _).mono ?_; rintro e w3 ⟨rfl, hc3⟩; have hA3 := hid ((hA2.out.none_ ((Chg.refl _ w2).alloc _)).none_ hc3); have hx : w2.heap.size < w3.heap.size := (by have := hc3.size; simp at this; omega); obtain ⟨x0, x1, x2, x3, x4⟩ := V.box ((Bk.new w2 33 (getV L x.n rs1).cs).chg hc3 (fun h => h)); clear hc3 hA2 z0 z1 z2 z3 z4 z5 z6 z7))
    go_ret2
    rw [← hlen.out]
    exact (hA3.out.none_ ((Chg.refl _ w3).alloc _)).post rfl (by omega)
  have e1 : (x.kd == 1) = false := by simpa using h1
  by_cases h2 : x.kd = 2
  · rw [h2] at y0
    clear h0 h1 e0 e1 h2
    by_cases hc : chk L x.n rs1.length = 0
    · obtain ⟨i, hi⟩ := Int.eq_ofNat_of_zero_le (chk_in hc).1
      rw [hi] at y1 hc
      have hc' := hid hc
      have hi' := hid hi
      clear hi hc
      go_wp2_with (first
        | (go_at_call 20; refine (p_set_ok hAt.out.pair hAt.out.hB i x.v hAt.out.row.vs.2 (by omega) k1 hc'.out).mono ?_; rintro e w2 ⟨A2, k2, rfl, hP2, hR2', hc2⟩; have hA2 := hid (hAt.out.tc hP2 hc2 (by simp) (by simp)); have hR2 := hid hR2'; obtain ⟨z0, z1, z2, z3, z4, z5, z6, z7⟩ := OpV.box hA2.out.box; rw [hi'.out] at z1; have hlz := hA2.out.box.lt; clear hP2 hc2 hAt hR2' y0 y1 y2 y3 y4 y5 y6 y7)
        | (go_at_call 24; refine (q_set_ok hA2.out.pair hA2.out.hB i x.v hA2.out.row.vs.2 (by omega) k1 hc'.out).mono ?_; rintro e w3 ⟨A3, k3, rfl, hP3, hR3', hc3⟩; have hA3 := hid (hA2.out.tc hP3 hc3 (by simp) (by simp)); have hR4 := hid (hR2.out.tc hc3 (by simp)); have hR3 := hid hR3'; clear hP3 hc3 hA2 hR2 hR3' z0 z1 z2 z3 z4 z5 z6 z7)
        | (go_at_call 21; refine (values_rows hR4.out hR3.out (by omega)).mono ?_; rintro e w4 ⟨rfl, hc4⟩; have hA4 := hid (hA3.out.none_ hc4); have hR5 := hid (hR3.out.tc (TC.of_none (T := []) (B := B) hc4) (by simp)); clear hc4 hA3 hR3 hR4))
      go_ret2
      rw [← hlen.out]
      exact ⟨_, _, _, _, rfl, setRs_len L i x.v rs1, by rw [setCl_len]; omega, hA4.out.pair, hR5.out, hA4.out.hB, hA4.out.below⟩
    · have hb : (chk L x.n rs1.length != 0) = true := by simpa using hc
      have hc' := hid hc
      clear hc
      go_wp2_with (first
        | (go_at_call 20; refine (p_set_bad hAt.out.pair _ _ _ _ _ hc'.out).mono ?_; rintro e w2 ⟨rfl, hc2⟩; have hA2 := hid (hAt.out.none_ hc2); obtain ⟨z0, z1, z2, z3, z4, z5, z6, z7⟩ := OpV.box hA2.out.box; have hlz := hA2.out.box.lt; clear hc2 hAt y0 y1 y2 y3 y4 y5 y6 y7)
        | (go_at_call 24; refine (q_set_bad hA2.out.pair _ _ _ _ _ hc'.out).mono ?_; rintro e w3 ⟨rfl, hc3⟩; have hA3 := hid (hA2.out.none_ hc3); clear hc3 hA2 z0 z1 z2 z3 z4 z5 z6 z7)
        | (go_at_call 21; refine (values_same w3 none none [] 0 0 ⟨rfl, fun h => absurd h (by simp)⟩ ⟨rfl, fun h => absurd h (by simp)⟩ (by simp)).mono ?_; rintro e w4 ⟨rfl, hc4⟩; have hA4 := hid (hA3.out.none_ hc4); clear hc4 hA3))
      go_ret2
      rw [← hlen.out]
      exact hA4.out.post rfl (by omega)
  have e2 : (x.kd == 2) = false := by simpa using h2
  by_cases h3 : x.kd = 3
  · rw [h3] at y0
    clear h0 h1 e0 e1 h2 e2 h3
    have hA0 := hid (hAt.out.none_ ((Chg.refl _ wc).drew))
    go_wp2
    refine wp_region_rc (id := 22) [.wl [0], .rd [1, 2, 3, 4, 6, 7, 8, 9], .act 5] [10] [11, 12, 13] (fun w' => w'.cell? ⟨w.heap.size, 1, none⟩ = some (.int .i64 x.n)) (by kernel_rfl) 172 rfl (by kernel_rfl) (fun _ _ _ _ _ h => h) y1 ?_
    refine steps_wl ?_
    apply Exists.intro
    refine ⟨fun w' => ?_, ?_⟩
    · iterate 1 (refine stI_step rfl (fun K hK => ?_); go_simp; refine hK _ ?_; clear hK K)
      exact stI_nil rfl
    refine steps_rd ?_
    apply Exists.intro
    refine ⟨fun w' hS => ?_, ?_⟩
    · iterate 8 (refine stI_step rfl (fun K hK => ?_); go_simp; refine hK _ ?_; clear hK K)
      exact stI_nil rfl
    refine steps_act (o := ⟨_, _, _, _, _, _⟩) rfl (fun K2 hK2 => ?_)
    go_wp2_with (go_at_call 18; refine (p_close hA0.out.pair hA0.out.hB hl hA0.out.row _).mono ?_; rintro e w2 ⟨rfl, hP2, hc2⟩; have hA2 := hid (hA0.out.tc hP2 hc2 (by simp) (by simp)); obtain ⟨z0, z1, z2, z3, z4, z5, z6, z7⟩ := OpV.box hA2.out.box; clear hP2 hc2 hA0 hAt y0 y1 y2 y3 y4 y5 y6 y7)
    refine hK2 _ _ z1 rfl ?_
    clear hK2 K2
    refine steps_nil (l := [⟨_, _, _, _, _, _⟩]) rfl (fun K2 hK2 => ?_)
    go_wp2_with (go_at_call 25; refine (q_close hA2.out.pair hA2.out.hB hl hA2.out.row _).mono ?_; rintro e w3 ⟨rfl, hP3, hc3⟩; have hA3 := hid (hA2.out.tc hP3 hc3 (by simp) (by simp)); clear hP3 hc3 hA2 z0 z1 z2 z3 z4 z5 z6 z7)
    refine hK2 _ _ rfl ?_
    clear hK2 K2
    iterate 3 (refine stI_step rfl (fun K hK => ?_); go_simp; refine hK _ ?_; clear hK K)
    refine stI_nil ?_
    go_wp2
    go_ret2
    rw [← hlen.out]
    exact hA3.out.post rfl (by rw [clo_len]; omega)
  have e3 : (x.kd == 3) = false := by simpa using h3
  go_wp2_with (first
    | (go_at_call 17; refine (p_register hAt.out.pair _).mono ?_; rintro e w2 ⟨rfl, rfl⟩)
    | (go_at_call 26; refine (q_register hAt.out.pair _).mono ?_; rintro e w2 ⟨rfl, rfl⟩))
  go_ret2
  rw [← hlen.out]
  exact hAt.out.post rfl (by omega)
end Go.Proofs.Ytjlefkohokcohaa
