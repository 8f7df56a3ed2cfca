/-
  A table in memory; the functions that only look, New and shrink.
-/
import Derived.Test.YtoelgnjnbelokaaTModel
import Derived.Test.YtoelgnjnbelokaaLRow
import Derived.Test.YtoelgnjnbelokaaWNext
import Derived.Test.YtoelgnjnbelokaaRegion
namespace Go.Proofs.Ytoelgnjnbelokaa
open Go.RowKit Go.Maps

theorem val_valid_eq2 {w : World} {v : V} {b : Bool} (hb : vok v = b) : Calls Try.prog 29 #[(.agg #[.int .i64 v.k, .int .i64 v.p, .int .i64 v.q, .string v.s, .int .i64 v.r])] w fun e w' => e = .returned (.bool b) ∧ Chg (fun _ => False) w w' := by subst hb; exact val_valid w v
theorem ofInt_any (w : World) (n : Int) (h1 : -2147483647 ≤ n) (h2 : n ≤ 2147483647) : Calls Try.prog 33 #[.int .i64 n] w fun e w' => e = .returned (.agg #[.int .i64 ((kI n)).k, .int .i64 ((kI n)).p, .int .i64 ((kI n)).q, .string ((kI n)).s, .int .i64 ((kI n)).r]) ∧ Chg (fun _ => False) w w' := by
  have t1 : decide (n < -2147483647) = false := by simp; omega
  have t2 : decide (2147483647 < n) = false := by simp; omega
  have hB := hid (Bk.new w 26 (kI n).cs)
  have hC := hid ((Chg.refl (fun _ => False) w).alloc (.cells (kI n).cs.toArray 26))
  clear h1 h2
  go_enter Try.func33, Try.ntmps33
  go_wp2_with fail
  exact ret_val (t := 2) (b := w.heap.size) (x := kI n) rfl rfl rfl hB.out ⟨rfl, hC.out⟩
set_option maxRecDepth 100000 in
set_option maxHeartbeats 4000000 in
theorem integer_any (w : World) (k : V) : Calls Try.prog 26 #[(.agg #[.int .i64 k.k, .int .i64 k.p, .int .i64 k.q, .string k.s, .int .i64 k.r])] w fun e w' => e = .returned (.tuple #[.int .i64 k.p, .bool (isI k)]) ∧ Chg (fun _ => False) w w' := by
  have hB := hid ((Bk.new w 26 k.cs).drew)
  have hC := hid (((Chg.refl (fun _ => False) w).alloc (.cells k.cs.toArray 26)).drew)
  obtain ⟨bv, hbv⟩ : ∃ b, Hid (vok k = b) := ⟨_, hid rfl⟩
  refine (Classical.em (k.k = 2)).elim ?k2 ?kn
  case' k2 =>
    intro h2
    refine (Classical.em (k.q = 1)).elim ?q1 ?qn
    case' q1 =>
      intro h1
      have e0 : (k.k == 2) = true := by simpa using h2
      have e1 : (k.q == 1) = true := by simpa using h1
      have hI : Hid (isI k = bv) := hid (by unfold isI; rw [hbv.out]; simp [h1, h2])
      clear h1 h2
    case' qn =>
      intro h1
      have e0 : (k.k == 2) = true := by simpa using h2
      have e1 : (k.q == 1) = false := by simpa using h1
      have hI : Hid (isI k = false) := hid (by unfold isI; simp [h1])
      clear h1 h2
  case' kn =>
    intro h2
    have e0 : (k.k == 2) = false := by simpa using h2
    have hI : Hid (isI k = false) := hid (by unfold isI; simp [h2])
    clear h2
  all_goals
    go_enter Try.func26, Try.ntmps26
    go_wp2_with fail
    refine wp_region_rc (id := 1) [.rd [0, 1, 2, 3, 4, 5, 6, 7, 8, 9, 10, 11, 12, 13], .act 14, .wl [15, 16, 17]] [] [] (fun w' => Bk w' w.heap.size 26 k.cs) (by kernel_rfl) 20 rfl (by kernel_rfl) (fun _ _ _ _ _ h => h) hB.out ?_
    refine steps_rdW ?_
    apply Exists.intro
    refine ⟨?_, ?_⟩
    focus
      intro w' hS
      obtain ⟨x0, x1, x2, x3, x4⟩ := V.box hS
      clear hS
      iterate 14 (refine stW_step rfl (fun K hK => ?_); go_simp; refine hK _ ?_; clear hK K)
      exact stW_nil rfl
    refine steps_act (o := ⟨_, _, _, _, _, _⟩) rfl (fun K2 hK2 => ?_)
    go_wp2_with fail
  rotate_left
  · refine hK2 _ _ hB.out rfl ?_
    clear hK2 K2
    refine steps_wlW ?_
    apply Exists.intro
    refine ⟨?_, ?_⟩
    focus
      intro w'
      iterate 3 (refine stW_step rfl (fun K hK => ?_); go_simp; refine hK _ ?_; clear hK K)
      exact stW_nil rfl
    refine steps_nil (l := []) rfl (fun K2 hK2 => ?_)
    go_wp2_with fail
    refine hK2 _ _ rfl ?_
    clear hK2 K2
    refine stI_nil ?_
    go_wp2_with fail
    go_ret2
    exact ⟨by rw [hI.out]; rfl, hC.out⟩
  · refine (val_valid_eq2 hbv.out).mono ?_
    rintro e w2 ⟨rfl, hc⟩
    have hB2 := hid (hB.out.none_ hc)
    have hC2 := hid (hC.out.trans_same hc)
    clear hc
    go_wp2_with fail
    refine hK2 _ _ hB2.out rfl ?_
    clear hK2 K2
    refine steps_wlW ?_
    apply Exists.intro
    refine ⟨?_, ?_⟩
    focus
      intro w'
      iterate 3 (refine stW_step rfl (fun K hK => ?_); go_simp; refine hK _ ?_; clear hK K)
      exact stW_nil rfl
    refine steps_nil (l := []) rfl (fun K2 hK2 => ?_)
    go_wp2_with fail
    refine hK2 _ _ rfl ?_
    clear hK2 K2
    refine stI_nil ?_
    go_wp2_with fail
    go_ret2
    exact ⟨by rw [hI.out]; rfl, hC2.out⟩
  · refine hK2 _ _ hB.out rfl ?_
    clear hK2 K2
    refine steps_wlW ?_
    apply Exists.intro
    refine ⟨?_, ?_⟩
    focus
      intro w'
      iterate 3 (refine stW_step rfl (fun K hK => ?_); go_simp; refine hK _ ?_; clear hK K)
      exact stW_nil rfl
    refine steps_nil (l := []) rfl (fun K2 hK2 => ?_)
    go_wp2_with fail
    refine hK2 _ _ rfl ?_
    clear hK2 K2
    refine stI_nil ?_
    go_wp2_with fail
    go_ret2
    exact ⟨by rw [hI.out]; rfl, hC.out⟩
/-- The program's table in memory. -/
structure TabM (w : World) (o : Nat) (av : Value) (c : Nat) (vs : Value) (bm n : Nat) (D : DataW Unit) (a : List V) (m : List Sl) : Prop where
  blk : Bk w o 60 [av, .pointer (some ⟨c, 0, none⟩)]
  arr : LRow w av a
  mp : OwnM w c vs bm n D m
def tabF (o : Nat) (av : Value) (c : Nat) (vs : Value) (bm k : Nat) : Prop := k = o ∨ av.ownBlock = some k ∨ ownF c vs bm k
section
variable {w w' : World} {S : Nat → Prop} {N o c bm n M : Nat} {av vs : Value} {D : DataW Unit} {a : List V} {m : List Sl}
theorem TabM.chg {T : Nat → Prop} (h : TabM w o av c vs bm n D a m) (hc : Chg T w w') (hn : ∀ k, tabF o av c vs bm k → ¬ T k) : TabM w' o av c vs bm n D a m :=
  ⟨h.blk.chg hc (hn _ (.inl rfl)), h.arr.chg hc fun k hk => hn k (.inr (.inl hk)), h.mp.chg hc fun k hk => hn k (.inr (.inr hk))⟩
theorem TabM.none_ (h : TabM w o av c vs bm n D a m) (hc : Chg (fun _ => False) w w') : TabM w' o av c vs bm n D a m := h.chg hc fun _ _ h => h
theorem TabM.lt (h : TabM w o av c vs bm n D a m) {k : Nat} (hk : tabF o av c vs bm k) : k < w.heap.size := by
  rcases hk with rfl | hk | hk
  · exact h.blk.lt
  · exact h.arr.lt hk
  · exact h.mp.lt hk
/-- The table's own block and its row are none of the map's blocks. -/
theorem TabM.sep (h : TabM w o av c vs bm n D a m) : ¬ ownF c vs bm o ∧ av.ownBlock ≠ some o ∧ ∀ k, av.ownBlock = some k → ¬ ownF c vs bm k := by
  refine ⟨?_, h.arr.block_ne h.blk (by decide), fun k hk => ?_⟩
  · rintro (e | e | e)
    · exact h.blk.ne h.mp.blk (by decide) e
    · exact h.blk.ne_row h.mp.row (by decide) e
    · exact map_not_row h.mp.mp h.blk e.symm
  · rcases h.arr with ⟨rfl, _⟩ | ⟨g, cap, cur, rfl, hb, _⟩
    · simp [Value.ownBlock] at hk
    · obtain rfl : g = k := by simpa [Value.ownBlock] using hk
      rintro (e | e | e)
      · exact hb.ne h.mp.blk (by decide) e
      · exact hb.ne_row h.mp.row (by decide) e
      · exact map_not_row h.mp.mp hb e.symm
/-- The program's table in blocks of S or from N on. -/
def Tab (w : World) (S : Nat → Prop) (N o M : Nat) (a : List V) (m : List Sl) : Prop := ∃ av c vs bm n D, TabM w o av c vs bm n D a m ∧ (∀ k, tabF o av c vs bm k → S k ∨ N ≤ k) ∧ n ≤ M
theorem Tab.none_ (h : Tab w S N o M a m) (hc : Chg (fun _ => False) w w') : Tab w' S N o M a m := by
  obtain ⟨av, c, vs, bm, n, D, h1, h2, h3⟩ := h
  exact ⟨av, c, vs, bm, n, D, h1.none_ hc, h2, h3⟩
theorem Tab.chg {T : Nat → Prop} (h : Tab w S N o M a m) (hc : Chg T w w') (hT : ∀ k, k < w.heap.size → S k ∨ N ≤ k → ¬ T k) : Tab w' S N o M a m := by
  obtain ⟨av, c, vs, bm, n, D, h1, h2, h3⟩ := h
  exact ⟨av, c, vs, bm, n, D, h1.chg hc fun k hk => hT k (h1.lt hk) (h2 k hk), h2, h3⟩
theorem Tab.mono {M' : Nat} (h : Tab w S N o M a m) (hM : M ≤ M') : Tab w S N o M' a m := by
  obtain ⟨av, c, vs, bm, n, D, h1, h2, h3⟩ := h
  exact ⟨av, c, vs, bm, n, D, h1, h2, Nat.le_trans h3 hM⟩
theorem Tab.weaken {S' : Nat → Prop} {N' : Nat} (h : Tab w S' N' o M a m) (hS : ∀ k, S' k → S k ∨ N ≤ k) (hN : N ≤ N') : Tab w S N o M a m := by
  obtain ⟨av, c, vs, bm, n, D, h1, h2, h3⟩ := h
  exact ⟨av, c, vs, bm, n, D, h1, fun k hk => (h2 k hk).elim (hS k) fun h => .inr (by omega), h3⟩
theorem Tab.fix (h : Tab w S N o M a m) : ∃ S', (∀ k, S' k → k < w.heap.size ∧ (S k ∨ N ≤ k)) ∧ ∀ w2 N2, Chg (fun _ => False) w w2 → Tab w2 S' N2 o M a m := by
  obtain ⟨av, c, vs, bm, n, D, h1, h2, h3⟩ := h
  exact ⟨tabF o av c vs bm, fun k hk => ⟨h1.lt hk, h2 k hk⟩, fun w2 N2 hc => ⟨av, c, vs, bm, n, D, h1.none_ hc, fun k hk => .inl hk, h3⟩⟩
theorem Tab.inv (h : Tab w S N o M a m) : Inv m := by
  obtain ⟨av, c, vs, bm, n, D, h1, h2, h3⟩ := h
  exact h1.mp.inv
theorem Tab.wf (h : Tab w S N o M a m) : ∀ i, i < m.length → (slAt m i).k.wf := by
  obtain ⟨av, c, vs, bm, n, D, h1, h2, h3⟩ := h
  exact h1.mp.wf
theorem Tab.lt (h : Tab w S N o M a m) : o < w.heap.size := by
  obtain ⟨av, c, vs, bm, n, D, h1, h2, h3⟩ := h
  exact h1.blk.lt
/-- The table's cells. -/
theorem Tab.cells (h : Tab w S N o M a m) {q : Nat} (hq : a.length = q) : ∃ A cap c, w.cell? ⟨o, 0, none⟩ = some (.slice A q cap) ∧ w.cell? ⟨o, 1, none⟩ = some (.pointer (some ⟨c, 0, none⟩)) ∧ Vs w A a ∧ One w S N c M m ∧ q ≤ cap ∧ cap ≤ maxLen ∧ (0 < q → ∃ g, A = some ⟨g, 0, none⟩) := by
  subst hq
  obtain ⟨av, c, vs, bm, n, D, h1, h2, h3⟩ := h
  obtain ⟨A, cap, rfl, h4, h5, h6, h7, h8⟩ := h1.arr.form
  exact ⟨A, cap, c, h1.blk.cell 0, h1.blk.cell 1, h6, ⟨vs, bm, n, D, h1.mp, fun k hk => h2 k (.inr (.inr hk)), h3⟩, h4, h5, h7⟩
theorem t_new (w : World) : Calls Try.prog 21 #[] w fun e w' => ∃ o, e = .returned (.pointer (some ⟨o, 0, none⟩)) ∧ Tab w' (fun _ => False) w.heap.size o 0 [] [] ∧ Chg (fun _ => False) w w' := by
  go_enter Try.func21, Try.ntmps21
  go_wp2_with fail
  refine (o_new w).mono ?_
  rintro e w1 ⟨c, rfl, hO', hc1⟩
  have hO := hid hO'
  have hC := hid hc1
  have fin : Hid (Tab (w1.alloc (.cells #[.slice none 0 0, .pointer (some ⟨c, 0, none⟩)] 60)) (fun _ => False) w.heap.size w1.heap.size 0 [] []) := hid (by
    obtain ⟨vs, bm, n, D, h1, h2, h3⟩ := hO'
    refine ⟨_, c, vs, bm, n, D, ⟨Bk.new w1 60 [.slice none 0 0, .pointer (some ⟨c, 0, none⟩)], LRow.nil _, h1.none_ ((Chg.refl _ w1).alloc _)⟩, fun k hk => ?_, h3⟩
    rcases hk with rfl | hk | hk
    · exact .inr hc1.size
    · simp [Value.ownBlock] at hk
    · exact h2 k hk)
  clear hO' hc1
  go_wp2_with fail
  go_ret
  exact ⟨_, rfl, fin.out, hC.out.alloc _⟩
theorem t_array (h : Tab w S N o M a m) {q : Nat} (hq : a.length = q) : Calls Try.prog 17 #[.pointer (some ⟨o, 0, none⟩)] w fun e w' => e = .returned (.int .i64 q) ∧ w = w' := by
  obtain ⟨A, cap, c, c0, -⟩ := h.cells hq
  have hl := h.lt
  clear h hq
  go_enter Try.func17, Try.ntmps17
  go_wp2
  go_ret
  exact ⟨rfl, rfl⟩
theorem t_len (h : Tab w S N o M a m) {q : Nat} (hq : a.length = q) : Calls Try.prog 16 #[.pointer (some ⟨o, 0, none⟩)] w fun e w' => e = .returned (.int .i64 q) ∧ w = w' := by
  have hT := hid h
  have hqh := hid hq
  clear h hq
  go_enter Try.func16, Try.ntmps16
  go_wp2_with fail
  refine (t_array hT.out hqh.out).mono ?_
  rintro e w' ⟨rfl, rfl⟩
  go_wp2
  go_ret
  exact ⟨rfl, rfl⟩
set_option maxRecDepth 100000 in
set_option maxHeartbeats 4000000 in
theorem t_size (h : Tab w S N o M a m) {q s : Nat} (hq : a.length = q) (hs : m.length = s) (hb : q ≤ 1000000 ∧ s ≤ 1000000) : Calls Try.prog 19 #[.pointer (some ⟨o, 0, none⟩)] w fun e w' => e = .returned (.int .i64 ((4 + 2 * q + 4 * s : Nat) : Int)) ∧ Chg (fun _ => False) w w' := by
  obtain ⟨A, cap, c, c0, c1, -, hO', -⟩ := h.cells hq
  have hl := h.lt
  have hO := hid (hO'.none_ ((Chg.refl (fun _ => False) w).drew))
  have hsh := hid hs
  have hw1 : IntKind.i64.wrap (2 * (q : Int)) = 2 * (q : Int) := by rw [IntKind.wrap_i64]; omega
  have hw2 : IntKind.i64.wrap (4 + 2 * (q : Int)) = 4 + 2 * (q : Int) := by rw [IntKind.wrap_i64]; omega
  have hw3 : IntKind.i64.wrap (4 * (s : Int)) = 4 * (s : Int) := by rw [IntKind.wrap_i64]; omega
  have hw4 : IntKind.i64.wrap (4 + 2 * (q : Int) + 4 * (s : Int)) = 4 + 2 * (q : Int) + 4 * (s : Int) := by rw [IntKind.wrap_i64]; omega
  have hS0 := hid (And.intro c0 c1)
  clear h hq hs hO' c0 c1
  go_enter Try.func19, Try.ntmps19
  go_wp2_with fail
  refine wp_region_rc (id := 3) [.rd [0, 1, 2, 3, 4, 5, 6, 7, 8, 9, 10], .act 11, .wl [12, 13, 14]] [] [] (fun w' => w'.cell? ⟨o, 0, none⟩ = some (.slice A q cap) ∧ w'.cell? ⟨o, 1, none⟩ = some (.pointer (some ⟨c, 0, none⟩))) (by kernel_rfl) 19 rfl (by kernel_rfl) (fun _ _ _ _ _ h => h) hS0.out ?_
  refine steps_rdW ?_
  apply Exists.intro
  refine ⟨?_, ?_⟩
  focus
    rintro w' ⟨c0, c1⟩
    iterate 11 (refine stW_step rfl (fun K hK => ?_); go_simp; refine hK _ ?_; clear hK K)
    exact stW_nil rfl
  refine steps_act (o := ⟨_, _, _, _, _, _⟩) rfl (fun K2 hK2 => ?_)
  go_wp2_with fail
  refine (o_slots hO.out hsh.out).mono ?_
  rintro e w2 ⟨rfl, hw⟩
  subst hw
  go_wp2_with fail
  refine hK2 _ _ hS0.out rfl ?_
  clear hK2 K2
  refine steps_wlW ?_
  apply Exists.intro
  refine ⟨?_, ?_⟩
  focus
    intro w'
    iterate 3 (refine stW_step rfl (fun K hK => ?_); go_simp; refine hK _ ?_; clear hK K)
    exact stW_nil rfl
  refine steps_nil (l := []) rfl (fun K2 hK2 => ?_)
  go_wp2_with fail
  refine hK2 _ _ rfl ?_
  clear hK2 K2
  refine stI_nil ?_
  go_wp2_with fail
  go_ret
  exact ⟨by simp, (Chg.refl _ w).drew⟩
end
end Go.Proofs.Ytoelgnjnbelokaa
