/-
  The law's own helpers: values, shown, lives.
-/
import Derived.Test.YtjlefkohokcohaaPair
namespace Go.Proofs.Ytjlefkohokcohaa
open Go.RowKit

set_option maxHeartbeats 1000000 in
theorem values_same (w : World) (A A' : Option Addr) (rs : List V) (k k' : Nat) (hA : Vs w A rs) (hA' : Vs w A' rs) (hl : rs.length ≤ 1000000) :
    Calls Try.prog 21 #[.slice A rs.length k, .slice A' rs.length k'] w fun e w' => e = .returned (.bool true) ∧ Chg (fun _ => False) w w' := by
  have hA := hid hA
  have hA' := hid hA'
  go_enter Try.func21, Try.ntmps21
  go_wp2
  go_loopw [5] (fun i wr => ∃ j : Nat, j ≤ rs.length ∧ i = .int .i64 j ∧ Hid (Chg (fun _ => False) w wr)) (fun i _ => rs.length - (intOf i).toNat)
  case atStart => exact ⟨0, Nat.zero_le _, rfl, Chg.refl _ w⟩
  case round =>
    obtain ⟨j, hj, rfl, hC⟩ := hrel
    by_cases hlt : j < rs.length
    · obtain ⟨b, o, rfl, hb, x0, x1, x2, x3, x4⟩ := Vs.at_ (Rd.chg hA.out hC.out fun _ _ _ h => h) hlt
      obtain ⟨b', o', rfl, hb', y0, y1, y2, y3, y4⟩ := Vs.at_ (Rd.chg hA'.out hC.out fun _ _ _ h => h) hlt
      go_wp2
      (refine wp_region_rc (id := 6) [.rd [0, 1, 2, 3, 4, 5, 6, 7, 8]] [] [] (fun w' => w' = _) (by kernel_rfl) 26 rfl (by kernel_rfl) (fun _ _ _ _ _ h => h) rfl ?_; refine steps_rd ?_; apply Exists.intro; refine ⟨?_, ?_⟩; (focus (rintro w' rfl; (iterate 9 (refine stI_step rfl (fun K hK => ?_); go_simp; refine hK _ ?_; clear hK K)); exact stI_nil rfl)); refine steps_end rfl ?_)
      go_wp2
      go_roundw
      case rel => exact ⟨j + 1, by omega, by go_num, hC.out.drew⟩
      case measure => simp [intOf]; omega
    · go_wp2
      go_ret
      exact ⟨rfl, hC.out⟩

set_option maxRecDepth 100000 in
set_option maxHeartbeats 1000000 in
theorem shown_true (w : World) (B o r : Nat) (L : List Cl) (A : Option Addr) (rs : List V) (k : Nat) (hP : Pair w B o r L L) (hA : Row w B (.slice A rs.length k) rs) (hl : L.length ≤ 1000) :
    Calls Try.prog 12 #[.pointer (some ⟨o, 0, none⟩), .pointer (some ⟨r, 0, none⟩), .slice A rs.length k] w fun e w' => e = .returned (.bool true) ∧ Chg (fun _ => False) w w' := by
  have hP := hid hP
  have hA := hid hA.vs.2
  go_enter Try.func12, Try.ntmps12
  go_wp2_with (first
    | (go_at_call 15; refine (p_count hP.out).mono ?_; rintro e w' ⟨rfl, rfl⟩)
    | (go_at_call 27; refine (q_count hP.out).mono ?_; rintro e w' ⟨rfl, rfl⟩))
  go_loopw [7] (fun i wr => ∃ j : Nat, j ≤ L.length ∧ i = .int .i64 j ∧ Hid (Chg (fun _ => False) w wr)) (fun i _ => L.length - (intOf i).toNat)
  case atStart => exact ⟨0, Nat.zero_le _, rfl, Chg.refl _ w⟩
  case round =>
    obtain ⟨j, hj, rfl, hC⟩ := hrel
    have hP1 := hid (hP.out.none_ hC.out)
    have hA1 := hid (Rd.chg hA.out hC.out fun _ _ _ h => h)
    by_cases hlt : j < L.length
    · go_wp2_with (first
        | (go_at_call 27; refine (q_count hP1.out).mono ?_; rintro e w' ⟨rfl, rfl⟩)
        | (go_at_call 19; refine (p_get hP1.out hA1.out _ _).mono ?_; rintro e w1 ⟨rfl, hc1⟩; have hC1 := hid (hC.out.trans_same hc1); have hP2 := hid (hP1.out.none_ hc1); have hA2 := hid (Rd.chg hA1.out hc1 fun _ _ _ h => h); clear hc1))
      go_at_call 23
      refine (q_get (hP2.out.none_ ((Chg.refl _ w1).alloc _)) (Rd.alloc hA2.out _) _ _).mono ?_
      rintro e w2 ⟨rfl, hc2⟩
      have hC2 := hid ((hC1.out.alloc _).trans_same hc2)
      have hP3 := hid ((hP2.out.none_ ((Chg.refl _ w1).alloc _)).none_ hc2)
      have hx : w1.heap.size < w2.heap.size := by (have := hc2.size; simp at this; omega)
      obtain ⟨x0, x1, x2, x3, x4⟩ := V.box ((Bk.new w1 33 (getV L j rs).cs).chg hc2 (fun h => h))
      clear hc2
      go_wp2_with (first
        | (go_at_call 27; refine (q_count hP3.out).mono ?_; rintro e w' ⟨rfl, rfl⟩)
        | (go_at_call 17; refine (p_register (hP3.out.alloc_ _) _).mono ?_; rintro e w' ⟨rfl, rfl⟩)
        | (go_at_call 26; refine (q_register (hP3.out.alloc_ _) _).mono ?_; rintro e w' ⟨rfl, rfl⟩))
      go_roundw
      case rel => exact ⟨j + 1, by omega, by go_num, hC2.out.alloc _⟩
      case measure => simp [intOf]; omega
    · go_wp2_with (go_at_call 27; refine (q_count hP1.out).mono ?_; rintro e w' ⟨rfl, rfl⟩)
      go_ret
      exact ⟨rfl, hC.out⟩

/-- What a new set of the program's cells is, alone. -/
def Solo (w : World) (B o : Nat) (L : List Cl) : Prop := ∃ va vo, UpRep w o va vo L ∧ ∀ k, upF o va vo k → B ≤ k
theorem Solo.open {w : World} {B o : Nat} {L : List Cl} (h : Solo w B o L) (hB : B ≤ w.heap.size) (hl : L.length ≤ 1000) (reg : Int) :
    Calls Try.prog 16 #[.pointer (some ⟨o, 0, none⟩), .int .i64 reg] w fun e w' => e = .returned (.tuple #[.int .i64 (opn L reg).1, .int .i64 (opn L reg).2.1]) ∧ Solo w' B o (opn L reg).2.2 ∧ TC [63, 68, 3] B w w' := by
  obtain ⟨va, vo, h, hlo⟩ := h
  by_cases hr : reg < 0 ∨ 65536 ≤ reg
  · have hf : opn L reg = (0, 6, L) := by unfold opn; rw [if_pos hr]
    rw [hf]
    exact (open_out o reg w hr).mono fun e w' ⟨h1, h2⟩ => by subst h2; exact ⟨h1, ⟨va, vo, h, hlo⟩, TC.refl _ _ _⟩
  · refine (open_in o va vo L reg w h hl (by omega) (by omega)).mono fun e w' ⟨⟨va', vo', h1, h2, h3⟩, h4⟩ => ⟨h4, ⟨va', vo', h1, fun k hk => ?_⟩, ?_⟩
    · rcases h3 k hk with hk | hk
      · exact hlo k hk
      · omega
    · exact h2.mono fun k _ hk => ⟨hlo k hk, by
        rcases hk with rfl | hk | hk
        · exact h.blk.ofT (by simp)
        · exact own_ofT h.all (by simp) hk
        · exact own_ofT h.opn (by simp) hk⟩
theorem Solo.count {w : World} {B o : Nat} {L : List Cl} (h : Solo w B o L) : Calls Try.prog 15 #[.pointer (some ⟨o, 0, none⟩)] w fun e w' => e = .returned (.int .i64 L.length) ∧ w = w' := by
  obtain ⟨va, vo, h, _⟩ := h
  obtain ⟨A, cap, rfl, _⟩ := own_form h.all
  exact up_count w o A L.length cap (h.blk.cell 0)
theorem Solo.new (w : World) : Calls Try.prog 9 #[] w fun e w' => e = .returned (.pointer (some ⟨w.heap.size, 0, none⟩)) ∧ Solo w' w.heap.size w.heap.size [] ∧ Chg (fun _ => False) w w' :=
  (up_new w).mono fun e w' ⟨h1, h2, h3⟩ => ⟨h1, ⟨_, _, h2, fun k hk => by rcases hk with rfl | hk | hk <;> first | exact Nat.le_refl _ | simp [Value.ownBlock] at hk⟩, h3⟩

theorem opn3 : opn [] 3 = (0, 0, [Cl.new 3]) := rfl
theorem opn5 : opn [Cl.new 3] 5 = (1, 0, [Cl.new 3, Cl.new 5]) := rfl
theorem opn33 : opn [Cl.new 3, Cl.new 5] 3 = (0, 0, [Cl.new 3, Cl.new 5]) := rfl

theorem solo1 {w : World} {B o : Nat} (h : Solo w B o []) (hB : B ≤ w.heap.size) :
    Calls Try.prog 16 #[.pointer (some ⟨o, 0, none⟩), .int .i64 3] w fun e w' => e = .returned (.tuple #[.int .i64 0, .int .i64 0]) ∧ Solo w' B o [Cl.new 3] ∧ Below B w w' ∧ B ≤ w'.heap.size :=
  (h.open hB (by simp) 3).mono fun _ _ ⟨h1, h2, h3⟩ => ⟨by rw [h1, opn3], by rw [opn3] at h2; exact h2, h3.below hB, Nat.le_trans hB h3.size⟩
theorem solo2 {w : World} {B o : Nat} (h : Solo w B o [Cl.new 3]) (hB : B ≤ w.heap.size) :
    Calls Try.prog 16 #[.pointer (some ⟨o, 0, none⟩), .int .i64 5] w fun e w' => e = .returned (.tuple #[.int .i64 1, .int .i64 0]) ∧ Solo w' B o [Cl.new 3, Cl.new 5] ∧ Below B w w' ∧ B ≤ w'.heap.size :=
  (h.open hB (by simp) 5).mono fun _ _ ⟨h1, h2, h3⟩ => ⟨by rw [h1, opn5], by rw [opn5] at h2; exact h2, h3.below hB, Nat.le_trans hB h3.size⟩
theorem solo3 {w : World} {B o : Nat} (h : Solo w B o [Cl.new 3, Cl.new 5]) (hB : B ≤ w.heap.size) :
    Calls Try.prog 16 #[.pointer (some ⟨o, 0, none⟩), .int .i64 3] w fun e w' => e = .returned (.tuple #[.int .i64 0, .int .i64 0]) ∧ Solo w' B o [Cl.new 3, Cl.new 5] ∧ Below B w w' ∧ B ≤ w'.heap.size :=
  (h.open hB (by simp) 3).mono fun _ _ ⟨h1, h2, h3⟩ => ⟨by rw [h1, opn33], by rw [opn33] at h2; exact h2, h3.below hB, Nat.le_trans hB h3.size⟩
theorem solo4 {w : World} {B o : Nat} (h : Solo w B o [Cl.new 3, Cl.new 5]) : Calls Try.prog 15 #[.pointer (some ⟨o, 0, none⟩)] w fun e w' => e = .returned (.int .i64 2) ∧ w = w' :=
  h.count.mono fun _ _ ⟨h1, h2⟩ => ⟨by rw [h1]; rfl, h2⟩
theorem solo0 (w : World) : Calls Try.prog 9 #[] w fun e w' => e = .returned (.pointer (some ⟨w.heap.size, 0, none⟩)) ∧ Solo w' w.heap.size w.heap.size [] ∧ Below w.heap.size w w' ∧ w.heap.size ≤ w'.heap.size :=
  (Solo.new w).mono fun _ _ ⟨h1, h2, h3⟩ => ⟨h1, h2, h3.below (Nat.le_refl _) (fun _ _ h => h), h3.size⟩

/-- The chapter's small case. -/
theorem lives_true (w : World) : Calls Try.prog 13 #[] w fun e w' => e = .returned (.bool true) ∧ Below w.heap.size w w' := by
  go_enter Try.func13, Try.ntmps13
  go_wp2_with (first
    | (go_at_call 9; refine (solo0 _).mono ?_; rintro e w1 ⟨rfl, hs1', hb1', hz1⟩; have hs1 := hid hs1'; have hb1 := hid hb1'; clear hs1' hb1')
    | (go_at_call 16; refine (solo1 hs1.out hz1).mono ?_; rintro e w2 ⟨rfl, hs2', hb2', hz2⟩; clear hs1; have hs2 := hid hs2'; have hb2 := hid (hb1.out.trans hb2'); clear hs2' hb2'; clear hb1)
    | (go_at_call 16; refine (solo2 hs2.out hz2).mono ?_; rintro e w3 ⟨rfl, hs3', hb3', hz3⟩; clear hs2; have hs3 := hid hs3'; have hb3 := hid (hb2.out.trans hb3'); clear hs3' hb3'; clear hb2)
    | (go_at_call 16; refine (solo3 hs3.out hz3).mono ?_; rintro e w4 ⟨rfl, hs4', hb4', hz4⟩; clear hs3; have hs4 := hid hs4'; have hb4 := hid (hb3.out.trans hb4'); clear hs4' hb4'; clear hb3)
    | (go_at_call 15; refine (solo4 hs4.out).mono ?_; rintro e w5 ⟨rfl, rfl⟩))
  go_ret
  exact ⟨rfl, hb4.out⟩

set_option maxRecDepth 100000 in
set_option maxHeartbeats 2000000 in
theorem nil_true (w : World) (n : Int) (v : V) (A : Option Addr) (m k : Nat) : Calls Try.prog 8 #[.int .i64 n, (.agg #[.int .i64 v.k, .int .i64 v.p, .int .i64 v.q, .string v.s, .int .i64 v.r]), .slice A m k] w fun e w' => e = .returned (.bool true) ∧ Below w.heap.size w w' := by
  go_enter Try.func8, Try.ntmps8
  go_wp2_with (first
    | (go_at_call 16; refine (open_nil _ _).mono ?_; rintro e w' ⟨rfl, rfl⟩)
    | (go_at_call 17; refine (up_register_nil _ _).mono ?_; rintro e w' ⟨rfl, rfl⟩)
    | (go_at_call 18; refine (up_close_nil _ _ _ _ _).mono ?_; rintro e w' ⟨rfl, rfl⟩)
    | (go_at_call 15; refine (up_count_nil _).mono ?_; rintro e w' ⟨rfl, rfl⟩)
    | (go_at_call 19; refine (up_get_nil _ _ _ _ _).mono ?_; rintro e w1 ⟨rfl, hc1⟩; have hb1 := hid (((Below.refl _ w).alloc (Nat.le_refl _) _).trans (hc1.below (B := w.heap.size) (by simp) (fun _ _ h => h))); have hz1 : w.heap.size < w1.heap.size := (by have := hc1.size; simp at this; omega); obtain ⟨x0, x1, x2, x3, x4⟩ := V.box ((Bk.new w 33 v.cs).chg hc1 (fun h => h)); clear hc1)
    | (go_at_call 20; refine (up_set_nil _ _ _ _ _ _).mono ?_; rintro e w2 ⟨rfl, hc2⟩; have hb2 := hid (((hb1.out.alloc (Nat.le_of_lt hz1) _)).trans (hc2.below (B := w.heap.size) (by simp; omega) (fun _ _ h => h))); have hz2 : w1.heap.size < w2.heap.size := (by have := hc2.size; simp at this; omega); obtain ⟨y0, y1, y2, y3, y4⟩ := V.box ((Bk.new w1 33 V.zero.cs).chg hc2 (fun h => h)); simp only [V.zero] at y0 y1 y2 y3 y4; clear hc2 x0 x1 x2 x3 x4)
    | (go_at_call 13; refine (lives_true _).mono ?_; rintro e w3 ⟨rfl, hb3⟩; have hb3 := hid (hb2.out.trans (hb3.mono (by omega)))))
  go_ret
  exact ⟨rfl, hb3.out⟩
end Go.Proofs.Ytjlefkohokcohaa
