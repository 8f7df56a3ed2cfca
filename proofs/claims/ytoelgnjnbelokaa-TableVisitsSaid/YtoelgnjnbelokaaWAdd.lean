/-
  add of a table: a value more, and those of the keys that follow.
-/
import Derived.Deep.DeepCutAuto
import Derived.Deep.CutBlock
import Derived.Deep.LoopGhost
import Derived.Test.YtoelgnjnbelokaaWTNext
import Derived.Test.YtoelgnjnbelokaaTModel
namespace Go.Proofs.Ytoelgnjnbelokaa
open Go.RowKit Go.Maps

theorem kI_wf {n : Int} (h1 : -2147483647 ≤ n) (h2 : n ≤ 2147483647) : (kI n).wf :=
  ⟨show (Lit.int .i64 2).wf = true by decide, WalkArith.wf_i64 (by unfold kI; simp only; omega), show (Lit.int .i64 1).wf = true by decide, show (0 : Nat) ≤ maxLen by unfold maxLen; omega, show (Lit.int .i64 0).wf = true by decide⟩
section
variable {P : Program} {ops : Array Oper} {Q : Exit → Act → World → Prop} {a : Act} {w : World} {rest : List Oper} {o : Oper}
theorem wpList_append_ln (hgd : o.guard = none) (s x : Operand) (t : TypeId) (ho : o.op = .call { callee := .builtin .append, args := #[s, x], argTypes := #[t, t] })
    (i : TypeInfo) (z : Value) (ht : P.underlying t = some (.slice 26)) (hi : P.info? 26 = some i) (hz : i.zero = some z) (hsize : i.size = 5) (hby : i.bytes = 48) (hzs : z.cells.size = 5)
    (v : Value) (rs : List V) (hs : a.eval s = v) (hl : LRow w v rs) (b c : Nat) (y : V) (hx : a.eval x = .slice (some ⟨b, 0, none⟩) 1 c) (hr : Rd w 5 (some ⟨b, 0, none⟩) 1 y.cs) (hn : rs.length ≤ 1000000) (H : Nat) (hH : w.heap.size = H) (q : Nat) (hq : rs.length + 1 = q)
    (h : ∀ A' cap' w', LRow w' (.slice A' q cap') (rs ++ [y]) → w.grownBy w' v.ownBlock → (∀ k, (Value.slice A' q cap').ownBlock = some k → v.ownBlock = some k ∨ k = H) → wpList P ops Q rest (a.put o.dst (.slice A' q cap')) w') : wpList P ops Q (o :: rest) a w := by
  subst hq
  exact wpList_append_l hgd s x t ho i z ht hi hz hsize hby hzs v rs hs hl b c y hx hr hn H hH h
end
section
variable {w w' : World} {S : Nat → Prop} {N o M : Nat} {a : List V} {m : List Sl}
/-- The array part with a value more. -/
theorem TabM.appended {av : Value} {c bm n : Nat} {vs : Value} {D : DataW Unit} {W w7 : World} {a2 : List V} {v2 : Value} {H : Nat} (h : TabM w o av c vs bm n D a m) (hc : Chg (fun _ => False) w W) (hl : LRow w7 v2 a2) (hg : W.grownBy w7 av.ownBlock) (hat : ∀ k, v2.ownBlock = some k → av.ownBlock = some k ∨ k = H) (hH : w.heap.size ≤ H) :
    TabM (w7.setCell ⟨o, 0, none⟩ v2) o v2 c vs bm n D a2 m ∧ Chg (fun k => k = o ∨ av.ownBlock = some k) w (w7.setCell ⟨o, 0, none⟩ v2) ∧ ∀ k, tabF o v2 c vs bm k → tabF o av c vs bm k ∨ w.heap.size ≤ k := by
  obtain ⟨s1, s2, s3⟩ := h.sep
  have c7 : Chg (fun k => av.ownBlock = some k) w w7 := (hc.mono (T := fun k => av.ownBlock = some k) fun _ _ e => e.elim).grown hg fun k hk _ => hk
  have hb7 := h.blk.chg c7 s2
  have c8 : Chg (fun k => k = o) w7 (w7.setCell ⟨o, 0, none⟩ v2) := (Chg.refl (fun k => k = o) w7).setCell (p := ⟨o, 0, none⟩) (fun _ => rfl) _
  refine ⟨⟨hb7.set_ 0 _, hl.chg c8 fun k hk e => hl.block_ne hb7 (by decide) (by rw [← e]; exact hk), (h.mp.chg c7 fun k hk e => s3 k e hk).chg c8 fun k hk e => s1 (by rw [← e]; exact hk)⟩, (c7.mono (T := fun k => k = o ∨ av.ownBlock = some k) fun _ _ e => .inr e).trans_same (c8.mono (T := fun k => k = o ∨ av.ownBlock = some k) fun _ _ e => .inl e), fun k hk => ?_⟩
  rcases hk with e | e | e
  · exact .inl (.inl e)
  · rcases hat k e with e2 | e2
    · exact .inl (.inr (.inl e2))
    · exact .inr (by omega)
  · exact .inl (.inr (.inr e))
/-- What stands at the head of add's loop. -/
structure AddSt (w0 wr : World) (S : Nat → Prop) (N o h M B : Nat) (m : List Sl) (a : List V) (v : V) (a1 : List V) (v1 : V) (st : Bool) : Prop where
  tab : Tab wr S N o M a1 m
  box : Bk wr h 26 v1.cs
  way : AddW m a v a1 v1
  stale : st = staleB m (a.length + 1) a1.length
  len : a1.length ≤ B
  left : v1.k ≠ 0 → a1.length + 1 + cntI m (a1.length + 1) ≤ B
  chg : Chg (fun k => S k ∨ N ≤ k) w0 wr
  size : N ≤ wr.heap.size
/-- What stands in region 4. -/
structure AddPk (w0 w : World) (o q cap c : Nat) (A : Option Addr) (S : Nat → Prop) (N M : Nat) (m : List Sl) : Prop where
  st : w.cell? ⟨o, 0, none⟩ = some (.slice A q cap) ∧ w.cell? ⟨o, 1, none⟩ = some (.pointer (some ⟨c, 0, none⟩))
  ol : o < w.heap.size
  one : One w S N c M m
  chg : Chg (fun _ => False) w0 w
theorem AddPk.none_ {w0 w w' : World} {q cap c : Nat} {A : Option Addr} (h : AddPk w0 w o q cap c A S N M m) (hc : Chg (fun _ => False) w w') : AddPk w0 w' o q cap c A S N M m :=
  ⟨⟨(hc.cell (p := ⟨o, 0, none⟩) h.ol id).trans h.st.1, (hc.cell (p := ⟨o, 1, none⟩) h.ol id).trans h.st.2⟩, Nat.lt_of_lt_of_le h.ol hc.size, h.one.none_ hc, h.chg.trans_same hc⟩
theorem keysM_vAt {L : List Sl} {j : Nat} (hj : j < nOf L) : vAt (keysM L) j = (slAt (liveL L) j).k := by
  have hl : j < (liveL L).length := hj
  unfold vAt keysM
  rw [List.getD_eq_getElem?_getD, List.getElem?_map, slAt_get _ _ hl]
  rfl
theorem Tab.live_wf (h : Tab w S N o M a m) {j : Nat} (hj : j < nOf m) : (slAt (liveL m) j).k.wf := by
  obtain ⟨i, a1, a2, a3, a4⟩ := liveL_all (L := m) hj
  rw [a4]
  exact h.wf i a1
/-- A key of the row. -/
theorem row_at {w0 w : World} {A : Option Addr} {n k : Nat} {rs : List V} (h : OwnR w0 w 26 5 (.slice A n k) n (rs.flatMap V.cs)) (hn : rs.length = n) {j : Nat} (hj : j < n) :
    ∃ b, A = some ⟨b, 0, none⟩ ∧ b < w.heap.size ∧ w0.heap.size ≤ b ∧ w.cell? ⟨b, j * 5, none⟩ = some (.int .i64 (vAt rs j).k) ∧ w.cell? ⟨b, j * 5 + 1, none⟩ = some (.int .i64 (vAt rs j).p) ∧ w.cell? ⟨b, j * 5 + 2, none⟩ = some (.int .i64 (vAt rs j).q) ∧
      w.cell? ⟨b, j * 5 + 3, none⟩ = some (.string (vAt rs j).s) ∧ w.cell? ⟨b, j * 5 + 4, none⟩ = some (.int .i64 (vAt rs j).r) := by
  subst hn
  obtain ⟨A', cap', e1, _, _, hA, -⟩ := own_form h.own
  injection e1 with e1 _ e3
  subst e1; subst e3
  obtain ⟨b, rfl⟩ := hA (by omega)
  have hr : Vs w (some ⟨b, 0, none⟩) rs := Rd.of_own h.own
  obtain ⟨b', o', e2, hb, x⟩ := hr.at_ hj
  injection e2 with e2
  injection e2 with e2 e3
  subst e2; subst e3
  exact ⟨b, rfl, hb, h.lo b rfl, by simpa using x⟩
/-- The new map on the way. -/
structure RebSt (w6 w7 : World) (S9 : Nat → Prop) (c9 : Nat) (L : List Sl) (j : Nat) : Prop where
  one : ∃ M', One w7 S9 w6.heap.size c9 M' L ∧ M' ≤ j * 1000
  chg : Chg S9 w6 w7
  size : w6.heap.size ≤ w7.heap.size
theorem RebSt.none_ {w6 w7 w8 : World} {S9 : Nat → Prop} {c9 : Nat} {L : List Sl} {j : Nat} (h : RebSt w6 w7 S9 c9 L j) (hc : Chg (fun _ => False) w7 w8) : RebSt w6 w8 S9 c9 L j := by
  obtain ⟨M', h1, h2⟩ := h.one
  exact ⟨⟨M', h1.none_ hc, h2⟩, h.chg.trans hc fun _ _ e => e.elim, Nat.le_trans h.size hc.size⟩
/-- The table with another map. -/
theorem Tab.newmap {S2 S9 : Nat → Prop} {N2 N9 c9 M9 M2 : Nat} {m9 : List Sl} (h : Tab w S2 N2 o M2 a m) (h9 : One w S9 N9 c9 M9 m9) (h1 : ∀ k, k < w.heap.size → S2 k ∨ N2 ≤ k → S k ∨ N ≤ k) (h2 : ∀ k, S9 k ∨ N9 ≤ k → S k ∨ N ≤ k) (hM : M9 ≤ M) :
    Tab (w.setCell ⟨o, 1, none⟩ (.pointer (some ⟨c9, 0, none⟩))) S N o M a m9 ∧ Chg (fun k => S k ∨ N ≤ k) w (w.setCell ⟨o, 1, none⟩ (.pointer (some ⟨c9, 0, none⟩))) := by
  obtain ⟨av, c, vs, bm, n, D, hm, hlo, -⟩ := h
  obtain ⟨vs9, bm9, n9, D9, g1, g2, g3⟩ := h9
  have hc : Chg (fun k => k = o) w (w.setCell ⟨o, 1, none⟩ (.pointer (some ⟨c9, 0, none⟩))) := (Chg.refl (fun k => k = o) w).setCell (p := ⟨o, 1, none⟩) (fun _ => rfl) _
  have hno : ¬ ownF c9 vs9 bm9 o := by
    rintro (e | e | e)
    · exact hm.blk.ne g1.blk (by decide) e
    · exact hm.blk.ne_row g1.row (by decide) e
    · exact map_not_row g1.mp hm.blk e.symm
  refine ⟨⟨av, c9, vs9, bm9, n9, D9, ⟨hm.blk.set_ 1 _, hm.arr.chg hc fun k hk e => hm.sep.2.1 (by rw [← e]; exact hk), g1.chg hc fun k hk e => hno (by rw [← e]; exact hk)⟩, fun k hk => ?_, by omega⟩, hc.mono fun k hk e => h1 k hk (hlo k (.inl e))⟩
  rcases hk with e | e | e
  · exact h1 k (hm.lt (.inl e)) (hlo k (.inl e))
  · exact h1 k (hm.lt (.inr (.inl e))) (hlo k (.inr (.inl e)))
  · exact h2 k (g2 k e)
set_option maxRecDepth 100000 in
set_option maxHeartbeats 32000000 in
theorem t_add (h : Tab w S N o M a m) (hN : N ≤ w.heap.size) {v : V} (hv : v.k ≠ 0) (hb : a.length + m.length ≤ 900) (hm3 : m.length ≤ 300) :
    Calls Try.prog 31 #[.pointer (some ⟨o, 0, none⟩), (.agg #[.int .i64 v.k, .int .i64 v.p, .int .i64 v.q, .string v.s, .int .i64 v.r])] w fun e w' => e = .returned (.tuple #[]) ∧ (∃ a' m', AddR m a v a' m' ∧ Tab w' S N o (M + 400000) a' m') ∧ Chg (fun k => S k ∨ N ≤ k) w w' := by
  obtain ⟨i26, hi26, hz26, hs26, hb26⟩ := info_parts Try.info26
  obtain ⟨S', hS', hfix⟩ := h.fix
  have hnS : Hid (¬ S' w.heap.size) := hid fun e => by have := (hS' _ e).1; omega
  have hSS : Hid (∀ k, S' k → k < w.heap.size ∧ (S k ∨ N ≤ k)) := hid hS'
  have hNh := hid hN
  have hvh := hid hv
  have hbm : Hid (m.length ≤ 1000000) := hid (by omega)
  obtain ⟨B, hB⟩ : ∃ B, Hid (a.length + 1 + m.length = B) := ⟨_, hid rfl⟩
  have hB9 : B ≤ 901 := by rw [← hB.out]; omega
  have hst0 : Hid (AddSt w (w.alloc (.cells v.cs.toArray 26)) S' (w.heap.size + 1) o w.heap.size M B m a v a v false) := hid ⟨hfix _ _ ((Chg.refl _ w).alloc _), Bk.new w 26 v.cs, .inl ⟨rfl, rfl⟩, (staleB_none (by omega)).symm, by rw [← hB.out]; omega, fun _ => by have := cntI_le m (a.length + 1); rw [← hB.out]; omega, (Chg.refl _ w).alloc _, by simp⟩
  have hk0 : Hid (v.k ≠ 0 → 1 + cntI m (a.length + 1) ≤ m.length + 1) := hid fun _ => by have := cntI_le m (a.length + 1); omega
  have hsz0 : Hid ((w.alloc (.cells v.cs.toArray 26)).heap.size = w.heap.size + 1) := hid (by simp)
  have hC0 := hid ((Chg.refl (fun _ => False) w).alloc (.cells v.cs.toArray 26))
  have hm3h := hid hm3
  clear h hN hS' hfix hv hb hm3
  go_enter Try.func31, Try.ntmps31
  go_wp2_with fail
  go_loopg [4] (m.length + 1) (fun gk st wr => ∃ b a1 v1, st = .bool b ∧ Hid (AddSt w wr S' (w.heap.size + 1) o w.heap.size M B m a v a1 v1 b) ∧ Hid (v1.k ≠ 0 → 1 + cntI m (a1.length + 1) ≤ gk))
  case atStart => exact ⟨false, a, v, rfl, hst0, hk0⟩
  case round =>
    obtain ⟨b, a1, v1, rfl, hst, hgk⟩ := hrel
    clear hst0 hk0
    obtain ⟨q1, hq1⟩ : ∃ q, Hid (a1.length = q) := ⟨_, hid rfl⟩
    have hq9 : q1 ≤ 901 := by have := hst.out.len; have := hq1.out; omega
    obtain ⟨x0, x1, x2, x3, x4⟩ := V.box hst.out.box
    have hxl := hst.out.box.lt
    have hol := hst.out.tab.lt
    obtain ⟨bz, hbz⟩ : ∃ b, (v1.k != 0) = b := ⟨_, rfl⟩
    cases bz
    case' true =>
      have hv1 : Hid (v1.k ≠ 0) := hid (by simpa using hbz)
      obtain ⟨av, c, vs, bm, n, D, hM', hlo', hn'⟩ := hst.out.tab
      obtain ⟨A, cap, rfl, -, -, -, -, -⟩ := hM'.arr.form
      rw [hq1.out] at hM' hlo'
      have hM := hid hM'
      have hlo := hid hlo'
      have hnM := hid hn'
      obtain ⟨q2, hq2⟩ : ∃ q, Hid (q1 + 1 = q) := ⟨_, hid rfl⟩
      have hq29 : q2 ≤ 902 := by have := hq2.out; omega
      have hS3 : Hid (wr.drew.cell? ⟨o, 0, none⟩ = some (.slice A q1 cap) ∧ Bk wr.drew w.heap.size 26 v1.cs) := hid ⟨hM'.blk.cell 0, hst.out.box.drew⟩
      have hS4 : Hid ((wr.alloc (.cells v1.cs.toArray 26)).drew.cell? ⟨o, 0, none⟩ = some (.slice A q1 cap) ∧ Bk (wr.alloc (.cells v1.cs.toArray 26)).drew w.heap.size 26 v1.cs) := hid ⟨(hM'.blk.alloc _).drew.cell 0, (hst.out.box.alloc _).drew⟩
      have hl6 : Hid (LRow (wr.alloc (.cells v1.cs.toArray 26)).drew (.slice A q1 cap) a1) := hid (hM'.arr.none_ (((Chg.refl _ wr).alloc _).drew))
      have hr6 : Hid (Rd (wr.alloc (.cells v1.cs.toArray 26)).drew 5 (some ⟨wr.heap.size, 0, none⟩) 1 v1.cs) := hid (Rd.one wr 26 5 v1.cs rfl wr.heap.size rfl).drew
      clear hM' hlo' hn'
      go_wp2_with fail
      refine wp_region_rc (id := 3) [.wl [0], .rd [1, 2, 3, 4, 5], .act 6] [7, 8, 9, 10] [] (fun w' => w'.cell? ⟨o, 0, none⟩ = some (.slice A q1 cap) ∧ Bk w' w.heap.size 26 v1.cs) (by kernel_rfl) 107 rfl (by kernel_rfl) (fun _ _ _ _ _ h => h) hS3.out ?_
      refine steps_wlW ?_
      apply Exists.intro
      refine ⟨?_, ?_⟩
      focus
        intro w'
        iterate 1 (refine stW_step rfl (fun K hK => ?_); go_simp; refine hK _ ?_; clear hK K)
        exact stW_nil rfl
      refine steps_rdW ?_
      apply Exists.intro
      refine ⟨?_, ?_⟩
      focus
        rintro w' ⟨c0, hSb⟩
        obtain ⟨y0, y1, y2, y3, y4⟩ := V.box hSb
        clear hSb
        iterate 5 (refine stW_step rfl (fun K hK => ?_); go_simp; refine hK _ ?_; clear hK K)
        exact stW_nil rfl
      refine steps_act (o := ⟨_, _, _, _, _, _⟩) rfl (fun K2 hK2 => ?_)
      go_wp2_with fail
      refine hK2 _ _ hS4.out rfl ?_
      clear hK2 K2 x0 x1 x2 x3 x4 hxl
      refine steps_nil (l := [⟨_, _, _, _, _, _⟩, ⟨_, _, _, _, _, _⟩, ⟨_, _, _, _, _, _⟩, ⟨_, _, _, _, _, _⟩]) rfl (fun K2 hK2 => ?_)
      go_wp2_with ((with_reducible show wpList _ _ _ ((⟨some 24, _, _, _, _, _⟩ : Oper) :: _) _ _); refine wpList_append_ln (o := ⟨some 24, _, _, _, _, _⟩) rfl (.tmp 21) (.tmp 23) 52 rfl i26 _ Try.underlying52 hi26 hz26 hs26 hb26 rfl (.slice A q1 cap) a1 rfl hl6.out wr.heap.size 1 v1 rfl hr6.out (by have := hq1.out; omega) (wr.heap.size + 1) (by simp) q2 (by have := hq1.out; have := hq2.out; omega) ?_; intro A7 c7 w7 hl7 hg7 hat7; have hap := hid (hM.out.appended (((Chg.refl (fun _ => False) wr).alloc (.cells v1.cs.toArray 26)).drew) hl7 hg7 hat7 (Nat.le_succ _)); have hb7 := hid (hM.out.blk.chg ((((Chg.refl (fun k => (Value.slice A q1 cap).ownBlock = some k) wr).alloc (.cells v1.cs.toArray 26)).drew).grown hg7 fun k hk _ => hk) hM.out.sep.2.1); have k0 : w7.cell? ⟨o, 0, none⟩ = some (.slice A q1 cap) := hb7.out.cell 0; have kf := hb7.out.frozen 0; have kl := hb7.out.lt; clear hl7 hg7 hat7)
      refine hK2 _ _ rfl ?_
      clear hK2 K2
      refine stI_nil ?_
      go_upto_region 4 with fail
      have hT8 : Hid (Tab (w7.setCell ⟨o, 0, none⟩ (.slice A7 q2 c7)) S' (w.heap.size + 1) o M (a1 ++ [v1]) m) := hid ⟨_, c, vs, bm, n, D, hap.out.1, fun k hk => (hap.out.2.2 k hk).elim (hlo.out k) fun e => .inr (by have := hst.out.size; omega), hnM.out⟩
      have hC8 : Hid (Chg (fun k => S' k ∨ w.heap.size + 1 ≤ k) wr (w7.setCell ⟨o, 0, none⟩ (.slice A7 q2 c7))) := hid (hap.out.2.1.mono fun k _ e => hlo.out k (e.elim .inl fun e => .inr (.inl e)))
      clear k0 kf kl hap hb7 hl6 hr6 hS3 hS4 hM hlo hnM
      generalize w7.setCell ⟨o, 0, none⟩ (.slice A7 q2 c7) = w8 at hT8 hC8 ⊢
      have hbx8 : Hid (Bk w8 w.heap.size 26 v1.cs) := hid (hst.out.box.chg hC8.out fun e => e.elim hnS.out fun e => by omega)
      have hl8 : Hid ((a1 ++ [v1]).length = q2) := hid (by rw [List.length_append, List.length_singleton, hq1.out]; exact hq2.out)
      have hQ8 := hid (hst.out.way.step hv1.out)
      have hcnt8 := hid (hst.out.left hv1.out)
      have hg8 := hid (hgk.out hv1.out)
      have hst8 := hid hst.out.stale
      have hC08 : Hid (Chg (fun k => S' k ∨ w.heap.size + 1 ≤ k) w w8) := hid (hst.out.chg.trans_same hC8.out)
      have hs8 : Hid (w.heap.size + 1 ≤ w8.heap.size) := hid (Nat.le_trans hst.out.size hC8.out.size)
      clear hst hgk hC8
      obtain ⟨A8, cap8, c8, c0, c1, -, hO8', -⟩ := hT8.out.cells hl8.out
      have hol8 := hT8.out.lt
      have hPb : Hid (AddPk w8 w8 o q2 cap8 c8 A8 S' (w.heap.size + 1) M m) := hid ⟨⟨c0, c1⟩, hol8, hO8', Chg.refl _ w8⟩
      have hP0 := hid (hPb.out.none_ ((Chg.refl (fun _ => False) w8).drew))
      obtain ⟨x1, x2, bb8, e8, hx⟩ : ∃ x1 x2 bb e, Hid (nextM m (kI (q2 : Int)) = (x1, x2, bb, e)) := ⟨_, _, _, _, hid rfl⟩
      clear c0 c1 hO8'
      go_cut [8] (fun t wx => t = .int .i64 e8 ∧ Hid (Chg (fun _ => False) w8 wx))
      case first =>
          refine wp_region_tree (id := 4) (.rd [0, 1, 2, 3, 4, 5, 6, 7, 8] (.three 9 16 17 (.three 10 16 17 (.wl [11, 12, 13, 14, 15] (.two 16 17 (.one 17 .done) (.one 16 .done))) (.two 10 17 (.wl [11, 12, 13, 14, 15] (.one 17 .done)) (.one 10 (.wl [11, 12, 13, 14, 15] .done))) (.two 10 16 (.wl [11, 12, 13, 14, 15] (.one 16 .done)) (.one 10 (.wl [11, 12, 13, 14, 15] .done)))) (.two 9 17 (.two 10 17 (.wl [11, 12, 13, 14, 15] (.one 17 .done)) (.one 10 (.wl [11, 12, 13, 14, 15] .done))) (.one 9 (.one 10 (.wl [11, 12, 13, 14, 15] .done)))) (.two 9 16 (.two 10 16 (.wl [11, 12, 13, 14, 15] (.one 16 .done)) (.one 10 (.wl [11, 12, 13, 14, 15] .done))) (.one 9 (.one 10 (.wl [11, 12, 13, 14, 15] .done)))))) #[true, true, true, true, true, true, true, true, true, true, true, true, true, true, true, true, true, true, false, false, false, false] [18, 19, 20, 21] [] (fun w' => w'.cell? ⟨o, 0, none⟩ = some (.slice A8 q2 cap8) ∧ w'.cell? ⟨o, 1, none⟩ = some (.pointer (some ⟨c8, 0, none⟩))) (by kernel_rfl) 107 rfl (by kernel_rfl) (fun _ _ _ _ _ h => h) hP0.out.st ?_
          refine tree_rd ?_
          apply Exists.intro
          refine ⟨?_, ?_⟩
          focus
            rintro w' ⟨c0, c1⟩
            iterate 9 (refine stW_step rfl (fun K hK => ?_); go_simp; refine hK _ ?_; clear hK K)
            exact stW_nil rfl
          refine tree_three (o := ⟨_, _, _, _, _, _⟩) (o' := ⟨_, _, _, _, _, _⟩) (o'' := ⟨_, _, _, _, _, _⟩) rfl rfl rfl (fun K2 hK2 => ?_) (fun K2 hK2 => ?_) (fun K2 hK2 => ?_)
          · have hP1 := hid (hPb.out.none_ (Chg.refl (fun _ => False) w8).drew)
            go_wp2_with fail
            refine (ofInt_any w8.drew (q2 : Int) (by omega) (by omega)).mono ?_
            rintro e v1 ⟨rfl, hc⟩
            have hQ1 := hid (hP1.out.none_ hc)
            clear hc
            go_wp2_with fail
            refine hK2 _ _ hQ1.out.st rfl ?_
            clear hK2 K2
            refine tree_three (o := ⟨_, _, _, _, _, _⟩) (o' := ⟨_, _, _, _, _, _⟩) (o'' := ⟨_, _, _, _, _, _⟩) rfl rfl rfl (fun K2 hK2 => ?_) (fun K2 hK2 => ?_) (fun K2 hK2 => ?_)
            · have hP2 := hid (hQ1.out.none_ (Chg.refl (fun _ => False) v1))
              go_wp2_with fail
              refine (o_next hP2.out.one hbm.out (kI_wf (by omega) (by omega)) hx.out).mono ?_
              rintro e v2 ⟨rfl, hc⟩
              have hQ2 := hid (hP2.out.none_ hc)
              clear hc
              go_wp2_with fail
              refine hK2 _ _ hQ2.out.st rfl ?_
              clear hK2 K2
              refine tree_wl ?_
              apply Exists.intro
              refine ⟨?_, ?_⟩
              focus
                intro w'
                iterate 5 (refine stW_step rfl (fun K hK => ?_); go_simp; refine hK _ ?_; clear hK K)
                exact stW_nil rfl
              refine tree_two (o := ⟨_, _, _, _, _, _⟩) (o' := ⟨_, _, _, _, _, _⟩) rfl rfl (fun K2 hK2 => ?_) (fun K2 hK2 => ?_)
              · have hP3 := hid (hQ2.out.none_ ((Chg.refl (fun _ => False) v2).alloc (.cells #[.int .i64 0, .int .i64 0, .int .i64 0, .string ⟨#[]⟩, .int .i64 0] 26)))
                go_wp2_with fail
                refine hK2 _ _ hP3.out.st rfl ?_
                clear hK2 K2
                refine tree_one (o := ⟨_, _, _, _, _, _⟩) rfl (fun K2 hK2 => ?_)
                have hP4 := hid (hQ2.out.none_ (((Chg.refl (fun _ => False) v2).alloc (.cells #[.int .i64 0, .int .i64 0, .int .i64 0, .string ⟨#[]⟩, .int .i64 0] 26)).alloc (.cells #[.int .i64 0, .int .i64 0, .int .i64 0, .string ⟨#[]⟩, .int .i64 0] 26)))
                go_wp2_with fail
                refine hK2 _ _ hP4.out.st rfl ?_
                clear hK2 K2
                refine end_mk (l := [⟨_, _, _, _, _, _⟩, ⟨_, _, _, _, _, _⟩, ⟨_, _, _, _, _, _⟩, ⟨_, _, _, _, _, _⟩]) rfl (fun K2 hK2 => ?_)
                go_wp2_with fail
                refine hK2 _ _ rfl ?_
                clear hK2 K2
                refine stI_nil ?_
                go_wp2_with fail
                go_meet
                case rel => exact ⟨rfl, hid ((hQ2.out.chg.alloc (.cells x1.cs.toArray 26)).alloc (.cells x2.cs.toArray 26))⟩
              · have hP6 := hid (hQ2.out.none_ ((Chg.refl (fun _ => False) v2).alloc (.cells #[.int .i64 0, .int .i64 0, .int .i64 0, .string ⟨#[]⟩, .int .i64 0] 26)))
                go_wp2_with fail
                refine hK2 _ _ hP6.out.st rfl ?_
                clear hK2 K2
                refine tree_one (o := ⟨_, _, _, _, _, _⟩) rfl (fun K2 hK2 => ?_)
                have hP7 := hid (hQ2.out.none_ (((Chg.refl (fun _ => False) v2).alloc (.cells #[.int .i64 0, .int .i64 0, .int .i64 0, .string ⟨#[]⟩, .int .i64 0] 26)).alloc (.cells #[.int .i64 0, .int .i64 0, .int .i64 0, .string ⟨#[]⟩, .int .i64 0] 26)))
                go_wp2_with fail
                refine hK2 _ _ hP7.out.st rfl ?_
                clear hK2 K2
                refine end_mk (l := [⟨_, _, _, _, _, _⟩, ⟨_, _, _, _, _, _⟩, ⟨_, _, _, _, _, _⟩, ⟨_, _, _, _, _, _⟩]) rfl (fun K2 hK2 => ?_)
                go_wp2_with fail
                refine hK2 _ _ rfl ?_
                clear hK2 K2
                refine stI_nil ?_
                go_wp2_with fail
                go_meet
                case rel => exact ⟨rfl, hid ((hQ2.out.chg.alloc (.cells x2.cs.toArray 26)).alloc (.cells x1.cs.toArray 26))⟩
            · have hP9 := hid (hQ1.out.none_ ((Chg.refl (fun _ => False) v1).alloc (.cells #[.int .i64 0, .int .i64 0, .int .i64 0, .string ⟨#[]⟩, .int .i64 0] 26)))
              go_wp2_with fail
              refine hK2 _ _ hP9.out.st rfl ?_
              clear hK2 K2
              refine tree_two (o := ⟨_, _, _, _, _, _⟩) (o' := ⟨_, _, _, _, _, _⟩) rfl rfl (fun K2 hK2 => ?_) (fun K2 hK2 => ?_)
              · have hP10 := hid (hQ1.out.none_ ((Chg.refl (fun _ => False) v1).alloc (.cells #[.int .i64 0, .int .i64 0, .int .i64 0, .string ⟨#[]⟩, .int .i64 0] 26)))
                go_wp2_with fail
                refine (o_next hP10.out.one hbm.out (kI_wf (by omega) (by omega)) hx.out).mono ?_
                rintro e v10 ⟨rfl, hc⟩
                have hQ10 := hid (hP10.out.none_ hc)
                have hX10_16 := hid ((show Bk (v1.alloc (.cells #[.int .i64 0, .int .i64 0, .int .i64 0, .string ⟨#[]⟩, .int .i64 0] 26)) v1.heap.size 26 V.zero.cs from (Bk.new v1 26 V.zero.cs)).none_ hc)
                clear hc
                go_wp2_with fail
                refine hK2 _ _ hQ10.out.st rfl ?_
                clear hK2 K2
                refine tree_wl ?_
                apply Exists.intro
                refine ⟨?_, ?_⟩
                focus
                  intro w'
                  iterate 5 (refine stW_step rfl (fun K hK => ?_); go_simp; refine hK _ ?_; clear hK K)
                  exact stW_nil rfl
                refine tree_one (o := ⟨_, _, _, _, _, _⟩) rfl (fun K2 hK2 => ?_)
                have hP11 := hid (hQ10.out.none_ ((Chg.refl (fun _ => False) v10).alloc (.cells #[.int .i64 0, .int .i64 0, .int .i64 0, .string ⟨#[]⟩, .int .i64 0] 26)))
                go_wp2_with fail
                refine hK2 _ _ hP11.out.st rfl ?_
                clear hK2 K2
                obtain ⟨z16_0, z16_1, z16_2, z16_3, z16_4⟩ := V.box hX10_16.out
                have zl16 := hX10_16.out.lt
                have zf16 := fun j => hX10_16.out.frozen j
                simp only [V.zero] at z16_0 z16_1 z16_2 z16_3 z16_4
                refine end_mk (l := [⟨_, _, _, _, _, _⟩, ⟨_, _, _, _, _, _⟩, ⟨_, _, _, _, _, _⟩, ⟨_, _, _, _, _, _⟩]) rfl (fun K2 hK2 => ?_)
                go_wp2_with fail
                refine hK2 _ _ rfl ?_
                clear hK2 K2
                refine stI_nil ?_
                go_wp2_with fail
                go_meet
                case rel => exact ⟨rfl, hid ((hQ10.out.chg.trans (put5_chg _ v1.heap.size 0 x1) fun j hj e => by have := hQ1.out.chg.size; omega).alloc (.cells x2.cs.toArray 26))⟩
              · have hP13 := hid (hQ1.out.none_ (((Chg.refl (fun _ => False) v1).alloc (.cells #[.int .i64 0, .int .i64 0, .int .i64 0, .string ⟨#[]⟩, .int .i64 0] 26)).alloc (.cells #[.int .i64 0, .int .i64 0, .int .i64 0, .string ⟨#[]⟩, .int .i64 0] 26)))
                go_wp2_with fail
                refine hK2 _ _ hP13.out.st rfl ?_
                clear hK2 K2
                refine tree_one (o := ⟨_, _, _, _, _, _⟩) rfl (fun K2 hK2 => ?_)
                have hP14 := hid (hQ1.out.none_ (((Chg.refl (fun _ => False) v1).alloc (.cells #[.int .i64 0, .int .i64 0, .int .i64 0, .string ⟨#[]⟩, .int .i64 0] 26)).alloc (.cells #[.int .i64 0, .int .i64 0, .int .i64 0, .string ⟨#[]⟩, .int .i64 0] 26)))
                go_wp2_with fail
                refine (o_next hP14.out.one hbm.out (kI_wf (by omega) (by omega)) hx.out).mono ?_
                rintro e v14 ⟨rfl, hc⟩
                have hQ14 := hid (hP14.out.none_ hc)
                have hX14_16 := hid ((show Bk ((v1.alloc (.cells #[.int .i64 0, .int .i64 0, .int .i64 0, .string ⟨#[]⟩, .int .i64 0] 26)).alloc (.cells #[.int .i64 0, .int .i64 0, .int .i64 0, .string ⟨#[]⟩, .int .i64 0] 26)) v1.heap.size 26 V.zero.cs from ((Bk.new v1 26 V.zero.cs).alloc (.cells #[.int .i64 0, .int .i64 0, .int .i64 0, .string ⟨#[]⟩, .int .i64 0] 26))).none_ hc)
                have hX14_17 := hid ((show Bk ((v1.alloc (.cells #[.int .i64 0, .int .i64 0, .int .i64 0, .string ⟨#[]⟩, .int .i64 0] 26)).alloc (.cells #[.int .i64 0, .int .i64 0, .int .i64 0, .string ⟨#[]⟩, .int .i64 0] 26)) (v1.heap.size + 1) 26 V.zero.cs from (Bk.new_at (v1.alloc (.cells #[.int .i64 0, .int .i64 0, .int .i64 0, .string ⟨#[]⟩, .int .i64 0] 26)) 26 V.zero.cs.toArray (v1.heap.size + 1) (by simp))).none_ hc)
                clear hc
                go_wp2_with fail
                refine hK2 _ _ hQ14.out.st rfl ?_
                clear hK2 K2
                refine tree_wl ?_
                apply Exists.intro
                refine ⟨?_, ?_⟩
                focus
                  intro w'
                  iterate 5 (refine stW_step rfl (fun K hK => ?_); go_simp; refine hK _ ?_; clear hK K)
                  exact stW_nil rfl
                obtain ⟨z16_0, z16_1, z16_2, z16_3, z16_4⟩ := V.box hX14_16.out
                have zl16 := hX14_16.out.lt
                have zf16 := fun j => hX14_16.out.frozen j
                simp only [V.zero] at z16_0 z16_1 z16_2 z16_3 z16_4
                obtain ⟨z17_0, z17_1, z17_2, z17_3, z17_4⟩ := V.box hX14_17.out
                have zl17 := hX14_17.out.lt
                have zf17 := fun j => hX14_17.out.frozen j
                simp only [V.zero] at z17_0 z17_1 z17_2 z17_3 z17_4
                refine end_mk (l := [⟨_, _, _, _, _, _⟩, ⟨_, _, _, _, _, _⟩, ⟨_, _, _, _, _, _⟩, ⟨_, _, _, _, _, _⟩]) rfl (fun K2 hK2 => ?_)
                go_wp2_with fail
                refine hK2 _ _ rfl ?_
                clear hK2 K2
                refine stI_nil ?_
                go_wp2_with fail
                go_meet
                case rel => exact ⟨rfl, hid ((hQ14.out.chg.trans (put5_chg _ v1.heap.size 0 x1) fun j hj e => by have := hQ1.out.chg.size; omega).trans (put5_chg _ (v1.heap.size + 1) 0 x2) fun j hj e => by have := hQ1.out.chg.size; omega)⟩
            · have hP16 := hid (hQ1.out.none_ ((Chg.refl (fun _ => False) v1).alloc (.cells #[.int .i64 0, .int .i64 0, .int .i64 0, .string ⟨#[]⟩, .int .i64 0] 26)))
              go_wp2_with fail
              refine hK2 _ _ hP16.out.st rfl ?_
              clear hK2 K2
              refine tree_two (o := ⟨_, _, _, _, _, _⟩) (o' := ⟨_, _, _, _, _, _⟩) rfl rfl (fun K2 hK2 => ?_) (fun K2 hK2 => ?_)
              · have hP17 := hid (hQ1.out.none_ ((Chg.refl (fun _ => False) v1).alloc (.cells #[.int .i64 0, .int .i64 0, .int .i64 0, .string ⟨#[]⟩, .int .i64 0] 26)))
                go_wp2_with fail
                refine (o_next hP17.out.one hbm.out (kI_wf (by omega) (by omega)) hx.out).mono ?_
                rintro e v17 ⟨rfl, hc⟩
                have hQ17 := hid (hP17.out.none_ hc)
                have hX17_17 := hid ((show Bk (v1.alloc (.cells #[.int .i64 0, .int .i64 0, .int .i64 0, .string ⟨#[]⟩, .int .i64 0] 26)) v1.heap.size 26 V.zero.cs from (Bk.new v1 26 V.zero.cs)).none_ hc)
                clear hc
                go_wp2_with fail
                refine hK2 _ _ hQ17.out.st rfl ?_
                clear hK2 K2
                refine tree_wl ?_
                apply Exists.intro
                refine ⟨?_, ?_⟩
                focus
                  intro w'
                  iterate 5 (refine stW_step rfl (fun K hK => ?_); go_simp; refine hK _ ?_; clear hK K)
                  exact stW_nil rfl
                refine tree_one (o := ⟨_, _, _, _, _, _⟩) rfl (fun K2 hK2 => ?_)
                have hP18 := hid (hQ17.out.none_ ((Chg.refl (fun _ => False) v17).alloc (.cells #[.int .i64 0, .int .i64 0, .int .i64 0, .string ⟨#[]⟩, .int .i64 0] 26)))
                go_wp2_with fail
                refine hK2 _ _ hP18.out.st rfl ?_
                clear hK2 K2
                obtain ⟨z17_0, z17_1, z17_2, z17_3, z17_4⟩ := V.box hX17_17.out
                have zl17 := hX17_17.out.lt
                have zf17 := fun j => hX17_17.out.frozen j
                simp only [V.zero] at z17_0 z17_1 z17_2 z17_3 z17_4
                refine end_mk (l := [⟨_, _, _, _, _, _⟩, ⟨_, _, _, _, _, _⟩, ⟨_, _, _, _, _, _⟩, ⟨_, _, _, _, _, _⟩]) rfl (fun K2 hK2 => ?_)
                go_wp2_with fail
                refine hK2 _ _ rfl ?_
                clear hK2 K2
                refine stI_nil ?_
                go_wp2_with fail
                go_meet
                case rel => exact ⟨rfl, hid ((hQ17.out.chg.trans (put5_chg _ v1.heap.size 0 x2) fun j hj e => by have := hQ1.out.chg.size; omega).alloc (.cells x1.cs.toArray 26))⟩
              · have hP20 := hid (hQ1.out.none_ (((Chg.refl (fun _ => False) v1).alloc (.cells #[.int .i64 0, .int .i64 0, .int .i64 0, .string ⟨#[]⟩, .int .i64 0] 26)).alloc (.cells #[.int .i64 0, .int .i64 0, .int .i64 0, .string ⟨#[]⟩, .int .i64 0] 26)))
                go_wp2_with fail
                refine hK2 _ _ hP20.out.st rfl ?_
                clear hK2 K2
                refine tree_one (o := ⟨_, _, _, _, _, _⟩) rfl (fun K2 hK2 => ?_)
                have hP21 := hid (hQ1.out.none_ (((Chg.refl (fun _ => False) v1).alloc (.cells #[.int .i64 0, .int .i64 0, .int .i64 0, .string ⟨#[]⟩, .int .i64 0] 26)).alloc (.cells #[.int .i64 0, .int .i64 0, .int .i64 0, .string ⟨#[]⟩, .int .i64 0] 26)))
                go_wp2_with fail
                refine (o_next hP21.out.one hbm.out (kI_wf (by omega) (by omega)) hx.out).mono ?_
                rintro e v21 ⟨rfl, hc⟩
                have hQ21 := hid (hP21.out.none_ hc)
                have hX21_17 := hid ((show Bk ((v1.alloc (.cells #[.int .i64 0, .int .i64 0, .int .i64 0, .string ⟨#[]⟩, .int .i64 0] 26)).alloc (.cells #[.int .i64 0, .int .i64 0, .int .i64 0, .string ⟨#[]⟩, .int .i64 0] 26)) v1.heap.size 26 V.zero.cs from ((Bk.new v1 26 V.zero.cs).alloc (.cells #[.int .i64 0, .int .i64 0, .int .i64 0, .string ⟨#[]⟩, .int .i64 0] 26))).none_ hc)
                have hX21_16 := hid ((show Bk ((v1.alloc (.cells #[.int .i64 0, .int .i64 0, .int .i64 0, .string ⟨#[]⟩, .int .i64 0] 26)).alloc (.cells #[.int .i64 0, .int .i64 0, .int .i64 0, .string ⟨#[]⟩, .int .i64 0] 26)) (v1.heap.size + 1) 26 V.zero.cs from (Bk.new_at (v1.alloc (.cells #[.int .i64 0, .int .i64 0, .int .i64 0, .string ⟨#[]⟩, .int .i64 0] 26)) 26 V.zero.cs.toArray (v1.heap.size + 1) (by simp))).none_ hc)
                clear hc
                go_wp2_with fail
                refine hK2 _ _ hQ21.out.st rfl ?_
                clear hK2 K2
                refine tree_wl ?_
                apply Exists.intro
                refine ⟨?_, ?_⟩
                focus
                  intro w'
                  iterate 5 (refine stW_step rfl (fun K hK => ?_); go_simp; refine hK _ ?_; clear hK K)
                  exact stW_nil rfl
                obtain ⟨z16_0, z16_1, z16_2, z16_3, z16_4⟩ := V.box hX21_16.out
                have zl16 := hX21_16.out.lt
                have zf16 := fun j => hX21_16.out.frozen j
                simp only [V.zero] at z16_0 z16_1 z16_2 z16_3 z16_4
                obtain ⟨z17_0, z17_1, z17_2, z17_3, z17_4⟩ := V.box hX21_17.out
                have zl17 := hX21_17.out.lt
                have zf17 := fun j => hX21_17.out.frozen j
                simp only [V.zero] at z17_0 z17_1 z17_2 z17_3 z17_4
                refine end_mk (l := [⟨_, _, _, _, _, _⟩, ⟨_, _, _, _, _, _⟩, ⟨_, _, _, _, _, _⟩, ⟨_, _, _, _, _, _⟩]) rfl (fun K2 hK2 => ?_)
                go_wp2_with fail
                refine hK2 _ _ rfl ?_
                clear hK2 K2
                refine stI_nil ?_
                go_wp2_with fail
                go_meet
                case rel => exact ⟨rfl, hid ((hQ21.out.chg.trans (put5_chg _ (v1.heap.size + 1) 0 x1) fun j hj e => by have := hQ1.out.chg.size; omega).trans (put5_chg _ v1.heap.size 0 x2) fun j hj e => by have := hQ1.out.chg.size; omega)⟩
          · have hP23 := hid (hPb.out.none_ ((Chg.refl (fun _ => False) w8).alloc (.cells #[.int .i64 0, .int .i64 0, .int .i64 0, .string ⟨#[]⟩, .int .i64 0] 26)).drew)
            go_wp2_with fail
            refine hK2 _ _ hP23.out.st rfl ?_
            clear hK2 K2
            refine tree_two (o := ⟨_, _, _, _, _, _⟩) (o' := ⟨_, _, _, _, _, _⟩) rfl rfl (fun K2 hK2 => ?_) (fun K2 hK2 => ?_)
            · have hP24 := hid (hPb.out.none_ ((Chg.refl (fun _ => False) w8).alloc (.cells #[.int .i64 0, .int .i64 0, .int .i64 0, .string ⟨#[]⟩, .int .i64 0] 26)).drew)
              go_wp2_with fail
              refine (ofInt_any (w8.alloc (.cells #[.int .i64 0, .int .i64 0, .int .i64 0, .string ⟨#[]⟩, .int .i64 0] 26)).drew (q2 : Int) (by omega) (by omega)).mono ?_
              rintro e v24 ⟨rfl, hc⟩
              have hQ24 := hid (hP24.out.none_ hc)
              have hX24_16 := hid ((show Bk (w8.alloc (.cells #[.int .i64 0, .int .i64 0, .int .i64 0, .string ⟨#[]⟩, .int .i64 0] 26)).drew w8.heap.size 26 V.zero.cs from (Bk.new w8 26 V.zero.cs).drew).none_ hc)
              clear hc
              go_wp2_with fail
              refine hK2 _ _ hQ24.out.st rfl ?_
              clear hK2 K2
              refine tree_two (o := ⟨_, _, _, _, _, _⟩) (o' := ⟨_, _, _, _, _, _⟩) rfl rfl (fun K2 hK2 => ?_) (fun K2 hK2 => ?_)
              · have hP25 := hid (hQ24.out.none_ (Chg.refl (fun _ => False) v24))
                go_wp2_with fail
                refine (o_next hP25.out.one hbm.out (kI_wf (by omega) (by omega)) hx.out).mono ?_
                rintro e v25 ⟨rfl, hc⟩
                have hQ25 := hid (hP25.out.none_ hc)
                have hX25_16 := hid ((hX24_16.out.none_ (Chg.refl (fun _ => False) v24)).none_ hc)
                clear hc
                go_wp2_with fail
                refine hK2 _ _ hQ25.out.st rfl ?_
                clear hK2 K2
                refine tree_wl ?_
                apply Exists.intro
                refine ⟨?_, ?_⟩
                focus
                  intro w'
                  iterate 5 (refine stW_step rfl (fun K hK => ?_); go_simp; refine hK _ ?_; clear hK K)
                  exact stW_nil rfl
                refine tree_one (o := ⟨_, _, _, _, _, _⟩) rfl (fun K2 hK2 => ?_)
                have hP26 := hid (hQ25.out.none_ ((Chg.refl (fun _ => False) v25).alloc (.cells #[.int .i64 0, .int .i64 0, .int .i64 0, .string ⟨#[]⟩, .int .i64 0] 26)))
                go_wp2_with fail
                refine hK2 _ _ hP26.out.st rfl ?_
                clear hK2 K2
                obtain ⟨z16_0, z16_1, z16_2, z16_3, z16_4⟩ := V.box hX25_16.out
                have zl16 := hX25_16.out.lt
                have zf16 := fun j => hX25_16.out.frozen j
                simp only [V.zero] at z16_0 z16_1 z16_2 z16_3 z16_4
                refine end_mk (l := [⟨_, _, _, _, _, _⟩, ⟨_, _, _, _, _, _⟩, ⟨_, _, _, _, _, _⟩, ⟨_, _, _, _, _, _⟩]) rfl (fun K2 hK2 => ?_)
                go_wp2_with fail
                refine hK2 _ _ rfl ?_
                clear hK2 K2
                refine stI_nil ?_
                go_wp2_with fail
                go_meet
                case rel => exact ⟨rfl, hid ((hQ25.out.chg.trans (put5_chg _ w8.heap.size 0 x1) fun j hj e => by have := hPb.out.chg.size; omega).alloc (.cells x2.cs.toArray 26))⟩
              · have hP28 := hid (hQ24.out.none_ ((Chg.refl (fun _ => False) v24).alloc (.cells #[.int .i64 0, .int .i64 0, .int .i64 0, .string ⟨#[]⟩, .int .i64 0] 26)))
                go_wp2_with fail
                refine hK2 _ _ hP28.out.st rfl ?_
                clear hK2 K2
                refine tree_one (o := ⟨_, _, _, _, _, _⟩) rfl (fun K2 hK2 => ?_)
                have hP29 := hid (hQ24.out.none_ ((Chg.refl (fun _ => False) v24).alloc (.cells #[.int .i64 0, .int .i64 0, .int .i64 0, .string ⟨#[]⟩, .int .i64 0] 26)))
                go_wp2_with fail
                refine (o_next hP29.out.one hbm.out (kI_wf (by omega) (by omega)) hx.out).mono ?_
                rintro e v29 ⟨rfl, hc⟩
                have hQ29 := hid (hP29.out.none_ hc)
                have hX29_16 := hid ((hX24_16.out.none_ ((Chg.refl (fun _ => False) v24).alloc (.cells #[.int .i64 0, .int .i64 0, .int .i64 0, .string ⟨#[]⟩, .int .i64 0] 26))).none_ hc)
                have hX29_17 := hid ((show Bk (v24.alloc (.cells #[.int .i64 0, .int .i64 0, .int .i64 0, .string ⟨#[]⟩, .int .i64 0] 26)) v24.heap.size 26 V.zero.cs from (Bk.new v24 26 V.zero.cs)).none_ hc)
                clear hc
                go_wp2_with fail
                refine hK2 _ _ hQ29.out.st rfl ?_
                clear hK2 K2
                refine tree_wl ?_
                apply Exists.intro
                refine ⟨?_, ?_⟩
                focus
                  intro w'
                  iterate 5 (refine stW_step rfl (fun K hK => ?_); go_simp; refine hK _ ?_; clear hK K)
                  exact stW_nil rfl
                obtain ⟨z16_0, z16_1, z16_2, z16_3, z16_4⟩ := V.box hX29_16.out
                have zl16 := hX29_16.out.lt
                have zf16 := fun j => hX29_16.out.frozen j
                simp only [V.zero] at z16_0 z16_1 z16_2 z16_3 z16_4
                obtain ⟨z17_0, z17_1, z17_2, z17_3, z17_4⟩ := V.box hX29_17.out
                have zl17 := hX29_17.out.lt
                have zf17 := fun j => hX29_17.out.frozen j
                simp only [V.zero] at z17_0 z17_1 z17_2 z17_3 z17_4
                have zne : w8.heap.size < v24.heap.size := hX24_16.out.lt
                have zn1 : w8.heap.size ≠ v24.heap.size := Nat.ne_of_lt zne
                have zn2 : v24.heap.size ≠ w8.heap.size := Ne.symm zn1
                refine end_mk (l := [⟨_, _, _, _, _, _⟩, ⟨_, _, _, _, _, _⟩, ⟨_, _, _, _, _, _⟩, ⟨_, _, _, _, _, _⟩]) rfl (fun K2 hK2 => ?_)
                go_wp2_with fail
                refine hK2 _ _ rfl ?_
                clear hK2 K2
                refine stI_nil ?_
                go_wp2_with fail
                go_meet
                case rel => exact ⟨rfl, hid ((hQ29.out.chg.trans (put5_chg _ w8.heap.size 0 x1) fun j hj e => by have := hPb.out.chg.size; omega).trans (put5_chg _ v24.heap.size 0 x2) fun j hj e => by have := hQ24.out.chg.size; omega)⟩
            · have hP31 := hid (hPb.out.none_ (((Chg.refl (fun _ => False) w8).alloc (.cells #[.int .i64 0, .int .i64 0, .int .i64 0, .string ⟨#[]⟩, .int .i64 0] 26)).alloc (.cells #[.int .i64 0, .int .i64 0, .int .i64 0, .string ⟨#[]⟩, .int .i64 0] 26)).drew)
              go_wp2_with fail
              refine hK2 _ _ hP31.out.st rfl ?_
              clear hK2 K2
              refine tree_one (o := ⟨_, _, _, _, _, _⟩) rfl (fun K2 hK2 => ?_)
              have hP32 := hid (hPb.out.none_ (((Chg.refl (fun _ => False) w8).alloc (.cells #[.int .i64 0, .int .i64 0, .int .i64 0, .string ⟨#[]⟩, .int .i64 0] 26)).alloc (.cells #[.int .i64 0, .int .i64 0, .int .i64 0, .string ⟨#[]⟩, .int .i64 0] 26)).drew)
              go_wp2_with fail
              refine (ofInt_any ((w8.alloc (.cells #[.int .i64 0, .int .i64 0, .int .i64 0, .string ⟨#[]⟩, .int .i64 0] 26)).alloc (.cells #[.int .i64 0, .int .i64 0, .int .i64 0, .string ⟨#[]⟩, .int .i64 0] 26)).drew (q2 : Int) (by omega) (by omega)).mono ?_
              rintro e v32 ⟨rfl, hc⟩
              have hQ32 := hid (hP32.out.none_ hc)
              have hX32_16 := hid ((show Bk ((w8.alloc (.cells #[.int .i64 0, .int .i64 0, .int .i64 0, .string ⟨#[]⟩, .int .i64 0] 26)).alloc (.cells #[.int .i64 0, .int .i64 0, .int .i64 0, .string ⟨#[]⟩, .int .i64 0] 26)).drew w8.heap.size 26 V.zero.cs from ((Bk.new w8 26 V.zero.cs).alloc (.cells #[.int .i64 0, .int .i64 0, .int .i64 0, .string ⟨#[]⟩, .int .i64 0] 26)).drew).none_ hc)
              have hX32_17 := hid ((show Bk ((w8.alloc (.cells #[.int .i64 0, .int .i64 0, .int .i64 0, .string ⟨#[]⟩, .int .i64 0] 26)).alloc (.cells #[.int .i64 0, .int .i64 0, .int .i64 0, .string ⟨#[]⟩, .int .i64 0] 26)).drew (w8.heap.size + 1) 26 V.zero.cs from (Bk.new_at (w8.alloc (.cells #[.int .i64 0, .int .i64 0, .int .i64 0, .string ⟨#[]⟩, .int .i64 0] 26)) 26 V.zero.cs.toArray (w8.heap.size + 1) (by simp)).drew).none_ hc)
              clear hc
              go_wp2_with fail
              refine hK2 _ _ hQ32.out.st rfl ?_
              clear hK2 K2
              refine tree_one (o := ⟨_, _, _, _, _, _⟩) rfl (fun K2 hK2 => ?_)
              have hP33 := hid (hQ32.out.none_ (Chg.refl (fun _ => False) v32))
              go_wp2_with fail
              refine (o_next hP33.out.one hbm.out (kI_wf (by omega) (by omega)) hx.out).mono ?_
              rintro e v33 ⟨rfl, hc⟩
              have hQ33 := hid (hP33.out.none_ hc)
              have hX33_16 := hid ((hX32_16.out.none_ (Chg.refl (fun _ => False) v32)).none_ hc)
              have hX33_17 := hid ((hX32_17.out.none_ (Chg.refl (fun _ => False) v32)).none_ hc)
              clear hc
              go_wp2_with fail
              refine hK2 _ _ hQ33.out.st rfl ?_
              clear hK2 K2
              refine tree_wl ?_
              apply Exists.intro
              refine ⟨?_, ?_⟩
              focus
                intro w'
                iterate 5 (refine stW_step rfl (fun K hK => ?_); go_simp; refine hK _ ?_; clear hK K)
                exact stW_nil rfl
              obtain ⟨z16_0, z16_1, z16_2, z16_3, z16_4⟩ := V.box hX33_16.out
              have zl16 := hX33_16.out.lt
              have zf16 := fun j => hX33_16.out.frozen j
              simp only [V.zero] at z16_0 z16_1 z16_2 z16_3 z16_4
              obtain ⟨z17_0, z17_1, z17_2, z17_3, z17_4⟩ := V.box hX33_17.out
              have zl17 := hX33_17.out.lt
              have zf17 := fun j => hX33_17.out.frozen j
              simp only [V.zero] at z17_0 z17_1 z17_2 z17_3 z17_4
              refine end_mk (l := [⟨_, _, _, _, _, _⟩, ⟨_, _, _, _, _, _⟩, ⟨_, _, _, _, _, _⟩, ⟨_, _, _, _, _, _⟩]) rfl (fun K2 hK2 => ?_)
              go_wp2_with fail
              refine hK2 _ _ rfl ?_
              clear hK2 K2
              refine stI_nil ?_
              go_wp2_with fail
              go_meet
              case rel => exact ⟨rfl, hid ((hQ33.out.chg.trans (put5_chg _ w8.heap.size 0 x1) fun j hj e => by have := hPb.out.chg.size; omega).trans (put5_chg _ (w8.heap.size + 1) 0 x2) fun j hj e => by have := hPb.out.chg.size; omega)⟩
          · have hP35 := hid (hPb.out.none_ ((Chg.refl (fun _ => False) w8).alloc (.cells #[.int .i64 0, .int .i64 0, .int .i64 0, .string ⟨#[]⟩, .int .i64 0] 26)).drew)
            go_wp2_with fail
            refine hK2 _ _ hP35.out.st rfl ?_
            clear hK2 K2
            refine tree_two (o := ⟨_, _, _, _, _, _⟩) (o' := ⟨_, _, _, _, _, _⟩) rfl rfl (fun K2 hK2 => ?_) (fun K2 hK2 => ?_)
            · have hP36 := hid (hPb.out.none_ ((Chg.refl (fun _ => False) w8).alloc (.cells #[.int .i64 0, .int .i64 0, .int .i64 0, .string ⟨#[]⟩, .int .i64 0] 26)).drew)
              go_wp2_with fail
              refine (ofInt_any (w8.alloc (.cells #[.int .i64 0, .int .i64 0, .int .i64 0, .string ⟨#[]⟩, .int .i64 0] 26)).drew (q2 : Int) (by omega) (by omega)).mono ?_
              rintro e v36 ⟨rfl, hc⟩
              have hQ36 := hid (hP36.out.none_ hc)
              have hX36_17 := hid ((show Bk (w8.alloc (.cells #[.int .i64 0, .int .i64 0, .int .i64 0, .string ⟨#[]⟩, .int .i64 0] 26)).drew w8.heap.size 26 V.zero.cs from (Bk.new w8 26 V.zero.cs).drew).none_ hc)
              clear hc
              go_wp2_with fail
              refine hK2 _ _ hQ36.out.st rfl ?_
              clear hK2 K2
              refine tree_two (o := ⟨_, _, _, _, _, _⟩) (o' := ⟨_, _, _, _, _, _⟩) rfl rfl (fun K2 hK2 => ?_) (fun K2 hK2 => ?_)
              · have hP37 := hid (hQ36.out.none_ (Chg.refl (fun _ => False) v36))
                go_wp2_with fail
                refine (o_next hP37.out.one hbm.out (kI_wf (by omega) (by omega)) hx.out).mono ?_
                rintro e v37 ⟨rfl, hc⟩
                have hQ37 := hid (hP37.out.none_ hc)
                have hX37_17 := hid ((hX36_17.out.none_ (Chg.refl (fun _ => False) v36)).none_ hc)
                clear hc
                go_wp2_with fail
                refine hK2 _ _ hQ37.out.st rfl ?_
                clear hK2 K2
                refine tree_wl ?_
                apply Exists.intro
                refine ⟨?_, ?_⟩
                focus
                  intro w'
                  iterate 5 (refine stW_step rfl (fun K hK => ?_); go_simp; refine hK _ ?_; clear hK K)
                  exact stW_nil rfl
                refine tree_one (o := ⟨_, _, _, _, _, _⟩) rfl (fun K2 hK2 => ?_)
                have hP38 := hid (hQ37.out.none_ ((Chg.refl (fun _ => False) v37).alloc (.cells #[.int .i64 0, .int .i64 0, .int .i64 0, .string ⟨#[]⟩, .int .i64 0] 26)))
                go_wp2_with fail
                refine hK2 _ _ hP38.out.st rfl ?_
                clear hK2 K2
                obtain ⟨z17_0, z17_1, z17_2, z17_3, z17_4⟩ := V.box hX37_17.out
                have zl17 := hX37_17.out.lt
                have zf17 := fun j => hX37_17.out.frozen j
                simp only [V.zero] at z17_0 z17_1 z17_2 z17_3 z17_4
                refine end_mk (l := [⟨_, _, _, _, _, _⟩, ⟨_, _, _, _, _, _⟩, ⟨_, _, _, _, _, _⟩, ⟨_, _, _, _, _, _⟩]) rfl (fun K2 hK2 => ?_)
                go_wp2_with fail
                refine hK2 _ _ rfl ?_
                clear hK2 K2
                refine stI_nil ?_
                go_wp2_with fail
                go_meet
                case rel => exact ⟨rfl, hid ((hQ37.out.chg.trans (put5_chg _ w8.heap.size 0 x2) fun j hj e => by have := hPb.out.chg.size; omega).alloc (.cells x1.cs.toArray 26))⟩
              · have hP40 := hid (hQ36.out.none_ ((Chg.refl (fun _ => False) v36).alloc (.cells #[.int .i64 0, .int .i64 0, .int .i64 0, .string ⟨#[]⟩, .int .i64 0] 26)))
                go_wp2_with fail
                refine hK2 _ _ hP40.out.st rfl ?_
                clear hK2 K2
                refine tree_one (o := ⟨_, _, _, _, _, _⟩) rfl (fun K2 hK2 => ?_)
                have hP41 := hid (hQ36.out.none_ ((Chg.refl (fun _ => False) v36).alloc (.cells #[.int .i64 0, .int .i64 0, .int .i64 0, .string ⟨#[]⟩, .int .i64 0] 26)))
                go_wp2_with fail
                refine (o_next hP41.out.one hbm.out (kI_wf (by omega) (by omega)) hx.out).mono ?_
                rintro e v41 ⟨rfl, hc⟩
                have hQ41 := hid (hP41.out.none_ hc)
                have hX41_17 := hid ((hX36_17.out.none_ ((Chg.refl (fun _ => False) v36).alloc (.cells #[.int .i64 0, .int .i64 0, .int .i64 0, .string ⟨#[]⟩, .int .i64 0] 26))).none_ hc)
                have hX41_16 := hid ((show Bk (v36.alloc (.cells #[.int .i64 0, .int .i64 0, .int .i64 0, .string ⟨#[]⟩, .int .i64 0] 26)) v36.heap.size 26 V.zero.cs from (Bk.new v36 26 V.zero.cs)).none_ hc)
                clear hc
                go_wp2_with fail
                refine hK2 _ _ hQ41.out.st rfl ?_
                clear hK2 K2
                refine tree_wl ?_
                apply Exists.intro
                refine ⟨?_, ?_⟩
                focus
                  intro w'
                  iterate 5 (refine stW_step rfl (fun K hK => ?_); go_simp; refine hK _ ?_; clear hK K)
                  exact stW_nil rfl
                obtain ⟨z16_0, z16_1, z16_2, z16_3, z16_4⟩ := V.box hX41_16.out
                have zl16 := hX41_16.out.lt
                have zf16 := fun j => hX41_16.out.frozen j
                simp only [V.zero] at z16_0 z16_1 z16_2 z16_3 z16_4
                obtain ⟨z17_0, z17_1, z17_2, z17_3, z17_4⟩ := V.box hX41_17.out
                have zl17 := hX41_17.out.lt
                have zf17 := fun j => hX41_17.out.frozen j
                simp only [V.zero] at z17_0 z17_1 z17_2 z17_3 z17_4
                have zne : w8.heap.size < v36.heap.size := hX36_17.out.lt
                have zn1 : w8.heap.size ≠ v36.heap.size := Nat.ne_of_lt zne
                have zn2 : v36.heap.size ≠ w8.heap.size := Ne.symm zn1
                refine end_mk (l := [⟨_, _, _, _, _, _⟩, ⟨_, _, _, _, _, _⟩, ⟨_, _, _, _, _, _⟩, ⟨_, _, _, _, _, _⟩]) rfl (fun K2 hK2 => ?_)
                go_wp2_with fail
                refine hK2 _ _ rfl ?_
                clear hK2 K2
                refine stI_nil ?_
                go_wp2_with fail
                go_meet
                case rel => exact ⟨rfl, hid ((hQ41.out.chg.trans (put5_chg _ v36.heap.size 0 x1) fun j hj e => by have := hQ36.out.chg.size; omega).trans (put5_chg _ w8.heap.size 0 x2) fun j hj e => by have := hPb.out.chg.size; omega)⟩
            · have hP43 := hid (hPb.out.none_ (((Chg.refl (fun _ => False) w8).alloc (.cells #[.int .i64 0, .int .i64 0, .int .i64 0, .string ⟨#[]⟩, .int .i64 0] 26)).alloc (.cells #[.int .i64 0, .int .i64 0, .int .i64 0, .string ⟨#[]⟩, .int .i64 0] 26)).drew)
              go_wp2_with fail
              refine hK2 _ _ hP43.out.st rfl ?_
              clear hK2 K2
              refine tree_one (o := ⟨_, _, _, _, _, _⟩) rfl (fun K2 hK2 => ?_)
              have hP44 := hid (hPb.out.none_ (((Chg.refl (fun _ => False) w8).alloc (.cells #[.int .i64 0, .int .i64 0, .int .i64 0, .string ⟨#[]⟩, .int .i64 0] 26)).alloc (.cells #[.int .i64 0, .int .i64 0, .int .i64 0, .string ⟨#[]⟩, .int .i64 0] 26)).drew)
              go_wp2_with fail
              refine (ofInt_any ((w8.alloc (.cells #[.int .i64 0, .int .i64 0, .int .i64 0, .string ⟨#[]⟩, .int .i64 0] 26)).alloc (.cells #[.int .i64 0, .int .i64 0, .int .i64 0, .string ⟨#[]⟩, .int .i64 0] 26)).drew (q2 : Int) (by omega) (by omega)).mono ?_
              rintro e v44 ⟨rfl, hc⟩
              have hQ44 := hid (hP44.out.none_ hc)
              have hX44_17 := hid ((show Bk ((w8.alloc (.cells #[.int .i64 0, .int .i64 0, .int .i64 0, .string ⟨#[]⟩, .int .i64 0] 26)).alloc (.cells #[.int .i64 0, .int .i64 0, .int .i64 0, .string ⟨#[]⟩, .int .i64 0] 26)).drew w8.heap.size 26 V.zero.cs from ((Bk.new w8 26 V.zero.cs).alloc (.cells #[.int .i64 0, .int .i64 0, .int .i64 0, .string ⟨#[]⟩, .int .i64 0] 26)).drew).none_ hc)
              have hX44_16 := hid ((show Bk ((w8.alloc (.cells #[.int .i64 0, .int .i64 0, .int .i64 0, .string ⟨#[]⟩, .int .i64 0] 26)).alloc (.cells #[.int .i64 0, .int .i64 0, .int .i64 0, .string ⟨#[]⟩, .int .i64 0] 26)).drew (w8.heap.size + 1) 26 V.zero.cs from (Bk.new_at (w8.alloc (.cells #[.int .i64 0, .int .i64 0, .int .i64 0, .string ⟨#[]⟩, .int .i64 0] 26)) 26 V.zero.cs.toArray (w8.heap.size + 1) (by simp)).drew).none_ hc)
              clear hc
              go_wp2_with fail
              refine hK2 _ _ hQ44.out.st rfl ?_
              clear hK2 K2
              refine tree_one (o := ⟨_, _, _, _, _, _⟩) rfl (fun K2 hK2 => ?_)
              have hP45 := hid (hQ44.out.none_ (Chg.refl (fun _ => False) v44))
              go_wp2_with fail
              refine (o_next hP45.out.one hbm.out (kI_wf (by omega) (by omega)) hx.out).mono ?_
              rintro e v45 ⟨rfl, hc⟩
              have hQ45 := hid (hP45.out.none_ hc)
              have hX45_17 := hid ((hX44_17.out.none_ (Chg.refl (fun _ => False) v44)).none_ hc)
              have hX45_16 := hid ((hX44_16.out.none_ (Chg.refl (fun _ => False) v44)).none_ hc)
              clear hc
              go_wp2_with fail
              refine hK2 _ _ hQ45.out.st rfl ?_
              clear hK2 K2
              refine tree_wl ?_
              apply Exists.intro
              refine ⟨?_, ?_⟩
              focus
                intro w'
                iterate 5 (refine stW_step rfl (fun K hK => ?_); go_simp; refine hK _ ?_; clear hK K)
                exact stW_nil rfl
              obtain ⟨z16_0, z16_1, z16_2, z16_3, z16_4⟩ := V.box hX45_16.out
              have zl16 := hX45_16.out.lt
              have zf16 := fun j => hX45_16.out.frozen j
              simp only [V.zero] at z16_0 z16_1 z16_2 z16_3 z16_4
              obtain ⟨z17_0, z17_1, z17_2, z17_3, z17_4⟩ := V.box hX45_17.out
              have zl17 := hX45_17.out.lt
              have zf17 := fun j => hX45_17.out.frozen j
              simp only [V.zero] at z17_0 z17_1 z17_2 z17_3 z17_4
              refine end_mk (l := [⟨_, _, _, _, _, _⟩, ⟨_, _, _, _, _, _⟩, ⟨_, _, _, _, _, _⟩, ⟨_, _, _, _, _, _⟩]) rfl (fun K2 hK2 => ?_)
              go_wp2_with fail
              refine hK2 _ _ rfl ?_
              clear hK2 K2
              refine stI_nil ?_
              go_wp2_with fail
              go_meet
              case rel => exact ⟨rfl, hid ((hQ45.out.chg.trans (put5_chg _ (w8.heap.size + 1) 0 x1) fun j hj e => by have := hPb.out.chg.size; omega).trans (put5_chg _ w8.heap.size 0 x2) fun j hj e => by have := hPb.out.chg.size; omega)⟩
      case rest =>
        obtain ⟨rfl, hcw⟩ := hcut
        rename World => w9
        have hT9 := hid (hT8.out.none_ hcw.out)
        have hbx9 := hid (hbx8.out.none_ hcw.out)
        have hC9 : Hid (Chg (fun k => S' k ∨ w.heap.size + 1 ≤ k) w w9) := hid (hC08.out.trans hcw.out fun _ _ e => e.elim)
        have hs9 : Hid (w.heap.size + 1 ≤ w9.heap.size) := hid (Nat.le_trans hs8.out hcw.out.size)
        obtain ⟨be8, hbe8⟩ : ∃ x, (e8 == 0) = x := ⟨_, rfl⟩
        have hstn : Hid ((b || be8) = staleB m (a.length + 1) q2) := hid (by
          have he := next_err (m := m) (q2 : Int)
          rw [hx.out] at he
          simp only at he
          have hla := hQ8.out.len
          rw [hl8.out] at hla
          have h8 := hst8.out
          rw [hq1.out] at h8
          have hqq := hq2.out
          rw [← hqq] at he ⊢
          rw [staleB_succ (by omega), ← h8, ← hbe8, he]
          congr 1
          cases lastIx m (kI ((q1 + 1 : Nat) : Int)) <;> rfl)
        obtain ⟨v2, hv2⟩ : ∃ v2, Hid (getM m (kI ((q2 : Int) + 1)) = v2) := ⟨_, hid rfl⟩
        have hwq : IntKind.i64.wrap ((q2 : Int) + 1) = (q2 : Int) + 1 := by rw [IntKind.wrap_i64]; omega
        clear hcw hT8 hbx8 hC08 hs8 hPb hP0 hx
        obtain ⟨A9, cap9, c9, c0, c1, -, hO9', -⟩ := hT9.out.cells hl8.out
        have hol9 := hT9.out.lt
        have hO9 := hid (hO9'.none_ ((Chg.refl (fun _ => False) w9).drew))
        have hS6 : Hid (w9.drew.cell? ⟨o, 0, none⟩ = some (.slice A9 q2 cap9) ∧ w9.drew.cell? ⟨o, 1, none⟩ = some (.pointer (some ⟨c9, 0, none⟩))) := hid ⟨c0, c1⟩
        clear c0 c1 hO9'
        cases b
        all_goals
          go_wp2_with fail
          refine wp_region_rc (id := 6) [.rd [0, 1, 2, 3, 4, 5, 6, 7, 8, 9], .act 10] [11, 12] [] (fun w' => w'.cell? ⟨o, 0, none⟩ = some (.slice A9 q2 cap9) ∧ w'.cell? ⟨o, 1, none⟩ = some (.pointer (some ⟨c9, 0, none⟩))) (by kernel_rfl) 107 rfl (by kernel_rfl) (fun _ _ _ _ _ h => h) hS6.out ?_
          refine steps_rdW ?_
          apply Exists.intro
          refine ⟨?_, ?_⟩
          focus
            rintro w' ⟨c0, c1⟩
            iterate 10 (refine stW_step rfl (fun K hK => ?_); go_simp; refine hK _ ?_; clear hK K)
            exact stW_nil rfl
          refine steps_act (o := ⟨_, _, _, _, _, _⟩) rfl (fun K2 hK2 => ?_)
          go_wp2_with fail
          refine (ofInt_any w9.drew ((q2 : Int) + 1) (by omega) (by omega)).mono ?_
          rintro e w10 ⟨rfl, hc⟩
          have hS7 := hid (show w10.cell? ⟨o, 0, none⟩ = some (.slice A9 q2 cap9) ∧ w10.cell? ⟨o, 1, none⟩ = some (.pointer (some ⟨c9, 0, none⟩)) from ⟨(hc.cell (p := ⟨o, 0, none⟩) hol9 id).trans hS6.out.1, (hc.cell (p := ⟨o, 1, none⟩) hol9 id).trans hS6.out.2⟩)
          have hO10 := hid (hO9.out.none_ hc)
          have hbx10 := hid (hbx9.out.drew.none_ hc)
          have hT10 := hid ((hT9.out.none_ ((Chg.refl (fun _ => False) w9).drew)).none_ hc)
          have hC10 : Hid (Chg (fun k => S' k ∨ w.heap.size + 1 ≤ k) w w10) := hid (hC9.out.drew.trans hc fun _ _ e => e.elim)
          have hs10 : Hid (w.heap.size + 1 ≤ w10.heap.size) := hid (Nat.le_trans hs9.out hc.size)
          clear hc hS6 hO9 hbx9 hT9 hC9 hs9
          go_wp2_with fail
          refine hK2 _ _ hS7.out rfl ?_
          clear hK2 K2
          refine steps_nil (l := [⟨_, _, _, _, _, _⟩, ⟨_, _, _, _, _, _⟩]) rfl (fun K2 hK2 => ?_)
          go_wp2_with fail
          refine (o_get hO10.out (kI_wf (by omega) (by omega)) hv2.out).mono ?_
          rintro e w11 ⟨rfl, hc⟩
          have hbx11 := hid (hbx10.out.none_ hc)
          have hT11 := hid (hT10.out.none_ hc)
          have hC11 : Hid (Chg (fun k => S' k ∨ w.heap.size + 1 ≤ k) w w11) := hid (hC10.out.trans hc fun _ _ e => e.elim)
          have hs11 : Hid (w.heap.size + 1 ≤ w11.heap.size) := hid (Nat.le_trans hs10.out hc.size)
          clear hc hS7 hO10 hbx10 hT10 hC10 hs10
          obtain ⟨z0, z1, z2, z3, z4⟩ := V.box hbx11.out
          have zl := hbx11.out.lt
          have zf := fun j => hbx11.out.frozen j
          have hcn : Hid (v2.k ≠ 0 → cntI m (q2 + 1) < cntI m (q1 + 1)) := hid fun h => by
            have h2 := hv2.out
            rw [← hq2.out] at h2 ⊢
            exact cntI_next (by omega) (by rw [h2]; exact h)
          have fin : ∀ bb, bb = staleB m (a.length + 1) q2 → AddSt w (put5 w11 w.heap.size 0 v2) S' (w.heap.size + 1) o w.heap.size M B m a v (a1 ++ [v1]) v2 bb := fun bb hbb =>
            ⟨hT11.out.chg (T := fun k => k = w.heap.size) (put5_chg w11 w.heap.size 0 v2) fun k _ hk e => by
              rcases hk with hk | hk
              · have := (hSS.out k hk).1; omega
              · omega, put5_bk hbx11.out, .inr ⟨hQ8.out, by rw [hl8.out]; exact hv2.out.symm⟩, by rw [hl8.out]; exact hbb, by rw [hl8.out]; have := hcnt8.out; have := hq1.out; have := hq2.out; omega, fun h => by
              rw [hl8.out]
              have h1 := hcn.out h
              have h2 := hcnt8.out
              rw [hq1.out] at h2
              have := hq2.out
              omega, hC11.out.trans (put5_chg w11 w.heap.size 0 v2) fun j hj e => by omega, by have := hs11.out; simpa [put5] using this⟩
          have finh := hid fin
          clear fin hbx11 hT11 hC11 hs11
          go_wp2_with fail
          refine hK2 _ _ rfl ?_
          clear hK2 K2
          refine stI_nil ?_
          go_wp2_with fail
          go_roundg (if v2.k = 0 then 0 else 1 + cntI m (q2 + 1))
          case measure =>
            have h1 := hg8.out
            rw [hq1.out] at h1
            by_cases h0 : v2.k = 0
            · rw [if_pos h0]; omega
            · rw [if_neg h0]
              have := hcn.out h0
              omega
          case rel =>
            refine ⟨_, a1 ++ [v1], v2, rfl, hid (finh.out _ ?_), hid fun h => ?_⟩
            · rw [← hstn.out]; first | rfl | simp
            · rw [hl8.out, if_neg h]
              exact Nat.le_refl _
    case' false =>
      have hv0 : Hid (v1.k = 0) := hid (by simpa using hbz)
      have hadd : Hid (AddP m a v a1) := hid (by
        rcases hst.out.way with ⟨rfl, rfl⟩ | ⟨h1, h2⟩
        · exact absurd hv0.out hvh.out
        · exact ⟨h1.len, h1.pre, h1.mov, by rw [← h2]; exact hv0.out⟩)
      cases b
      case' false =>
        have fin : Hid ((∃ a' m', AddR m a v a' m' ∧ Tab wr S N o (M + 400000) a' m') ∧ Chg (fun k => S k ∨ N ≤ k) w wr) := hid ⟨⟨a1, m, ⟨hadd.out, .inl ⟨rfl, staleB_false hst.out.stale.symm⟩⟩, (hst.out.tab.weaken (fun k e => (hSS.out k e).2) (by have := hNh.out; omega)).mono (by omega)⟩, hst.out.chg.mono fun k _ e => e.elim (fun e => (hSS.out k e).2) fun e => .inr (by have := hNh.out; omega)⟩
        clear hst hgk
        go_wp2_with fail
        refine bodyPost_ret (results_none rfl _ _ _) rfl ?_
        exact ⟨rfl, fin.out.1, fin.out.2⟩
      case' true =>
        obtain ⟨S2, hS2', hfix2⟩ := hst.out.tab.fix
        have hS2 : Hid (∀ k, S2 k → k < wr.heap.size ∧ (S k ∨ N ≤ k)) := hid fun k e => ⟨(hS2' k e).1, (hS2' k e).2.elim (fun e => (hSS.out k e).2) fun e => .inr (by have := hNh.out; omega)⟩
        have hfix2h := hid hfix2
        have hchg : Hid (Chg (fun k => S k ∨ N ≤ k) w wr) := hid (hst.out.chg.mono fun k _ e => e.elim (fun e => (hSS.out k e).2) fun e => .inr (by have := hNh.out; omega))
        have hwN : Hid (N ≤ wr.heap.size) := hid (by have := hst.out.size; have := hNh.out; omega)
        have hwf := hid (fun j hj => hst.out.tab.live_wf (j := j) hj)
        have hI := hid hst.out.tab.inv
        obtain ⟨n, hn⟩ : ∃ n, Hid (nOf m = n) := ⟨_, hid rfl⟩
        have hn3 : n ≤ 300 := by have := nOf_le m; have := hn.out; have := hm3h.out; omega
        have hkl : Hid ((keysM m).length = n) := hid (by rw [keysM_len]; exact hn.out)
        clear hS2' hfix2 hgk
        go_wp2_with fail
        refine (o_new wr).mono ?_
        rintro e w5 ⟨c9, rfl, hO', hc5⟩
        obtain ⟨S9, hS9', hfix9'⟩ := hO'.fix
        have hS9 : Hid (∀ k, S9 k → k < w5.heap.size ∧ wr.heap.size ≤ k) := hid fun k e => ⟨(hS9' k e).1, (hS9' k e).2.elim False.elim id⟩
        have hfix9 := hid hfix9'
        have hc5h := hid hc5
        have hT5 : Hid (Tab w5 S2 w5.heap.size o M a1 m) := hid (hfix2h.out w5 _ hc5)
        obtain ⟨A5, cap5, c5, -, c1, -, hO5', -⟩ := hT5.out.cells hq1.out
        have hO5 := hid hO5'
        have hol5 := hT5.out.lt
        have h55 : wr.heap.size ≤ w5.heap.size := hc5.size
        clear hO' hS9' hfix9' hc5 hO5' hst x0 x1 x2 x3 x4 hxl
        go_wp2_with fail
        refine (o_keys hO5.out (by have := hm3h.out; omega) hn.out).mono ?_
        rintro e w6 ⟨A6, k6, rfl, hR', hc6⟩
        have hR := hid hR'
        have hT6 : Hid (Tab w6 S2 w6.heap.size o M a1 m) := hid (hfix2h.out w6 _ (hc5h.out.trans_same hc6))
        have hst0 : Hid (RebSt w6 w6 S9 c9 (keepJ q1 m 0) 0) := hid ⟨⟨0, hfix9.out w6 w6.heap.size hc6, Nat.zero_le _⟩, Chg.refl _ _, Nat.le_refl _⟩
        have h66 : w5.heap.size ≤ w6.heap.size := hc6.size
        have hC6 : Hid (Chg (fun k => S k ∨ N ≤ k) w w6) := hid (hchg.out.trans (hc5h.out.trans_same hc6) fun _ _ e => e.elim)
        clear hR' hc6 hT5 hO5 c1 hc5h hfix9 hfix2h hchg
        go_wp2_with fail
        go_loopw [69] (fun i w7 => ∃ j : Nat, j ≤ n ∧ i = .int .i64 j ∧ Hid (RebSt w6 w7 S9 c9 (keepJ q1 m j) j)) (fun i _ => n - (intOf i).toNat)
        case atStart => exact ⟨0, Nat.zero_le _, rfl, hst0⟩
        case round =>
          obtain ⟨j, hj, rfl, hrb⟩ := hrel
          clear hst0
          rename World => w7
          have hT7 : Hid (Tab w7 S2 w6.heap.size o M a1 m) := hid (hT6.out.chg hrb.out.chg fun k hk e e9 => by
            have := (hS9.out k e9).2
            rcases e with e | e
            · have := (hS2.out k e).1; omega
            · omega)
          have hR7 := hid (hR.out.chg hrb.out.chg fun k hk e9 => by have := hR.out.lo k hk; have := (hS9.out k e9).1; omega)
          refine (Classical.em (j < n)).elim ?more ?done
          case' more =>
            intro hlt
            obtain ⟨hks1, hks2⟩ := keep_step (n := q1) hI.out (j := j) (by rw [hn.out]; exact hlt)
            have hxw0 := hwf.out j (by rw [hn.out]; exact hlt)
            have hget0 := live_get hI.out (j := j) (by rw [hn.out]; exact hlt)
            obtain ⟨bb, rfl, hbl, -, d0, d1, d2, d3, d4⟩ := row_at hR7.out hkl.out hlt
            rw [keysM_vAt (by rw [hn.out]; exact hlt)] at d0 d1 d2 d3 d4
            generalize (slAt (liveL m) j).k = x at hks1 hks2 hxw0 hget0 d0 d1 d2 d3 d4
            generalize (slAt (liveL m) j).v = y at hks2 hget0
            have hk1 := hid hks1
            have hk2 := hid hks2
            have hxw := hid hxw0
            have hget := hid hget0
            have hjn : (j : Int) < (n : Int) := by omega
            have hcx := hid ((Chg.refl (fun _ => False) w7).alloc (.cells x.cs.toArray 26))
            obtain ⟨bI, hbI⟩ : ∃ b, Hid (isI x = b) := ⟨_, hid rfl⟩
            have hbx0 := hid (Bk.new w7 26 x.cs)
            clear hks1 hks2 hxw0 hget0
            go_wp2_with fail
            refine (integer_any _ x).mono ?_
            rw [hbI.out]
            rintro e w8 ⟨rfl, hc8⟩
            have hc78 : Hid (Chg (fun _ => False) w7 w8) := hid (hcx.out.trans_same hc8)
            have hbx8 := hid (hbx0.out.none_ hc8)
            have hT8 := hid (hT7.out.none_ hc78.out)
            have hrb8 := hid (hrb.out.none_ hc78.out)
            obtain ⟨A8, cap8, c8, c0, c1, -, hO8', -⟩ := hT8.out.cells hq1.out
            have hO8 := hid hO8'
            have hol8 := hT8.out.lt
            have hc1h := hid c1
            clear hc8 hbx0 hcx d0 d1 d2 d3 d4 hbl hO8' hT7 hrb
            refine (Classical.em (inN q1 x = true)).elim ?isin ?notin
            case' isin =>
              intro hin
              obtain ⟨i1, i2, i3⟩ := inN_iff.1 hin
              have hkj := hid (hk1.out hin)
              obtain rfl : true = bI := by rw [← hbI.out]; exact i1.symm
              have t1 : decide (x.p < 1) = false := by simp; omega
              have t2 : decide ((q1 : Int) < x.p) = false := by simp; omega
              have fin : Hid (RebSt w6 w8 S9 c9 (keepJ q1 m (j + 1)) (j + 1)) := hid (by
                rw [hkj.out]
                obtain ⟨M', g1, g2⟩ := hrb8.out.one
                exact ⟨⟨M', g1, by omega⟩, hrb8.out.chg, hrb8.out.size⟩)
              clear hin i1 i2 i3 hrb8 hT8
              go_wp2_with fail
              go_roundw
              case rel => exact ⟨j + 1, by omega, by go_num, fin⟩
              case measure => simp [intOf]; omega
            case' notin =>
              intro hin
              have hset := hid (hk2.out (by simpa using hin))
              have hnot := hid (show ¬ (bI = true ∧ 1 ≤ x.p ∧ x.p ≤ (q1 : Int)) from fun h => hin (inN_iff.2 ⟨hbI.out.trans h.1, h.2.1, h.2.2⟩))
              have hS14 : Hid (w8.drew.cell? ⟨o, 1, none⟩ = some (.pointer (some ⟨c8, 0, none⟩)) ∧ Bk w8.drew w7.heap.size 26 x.cs) := hid ⟨hc1h.out, hbx8.out.drew⟩
              obtain ⟨M', g1', g2'⟩ := hrb8.out.one
              have hO9 := hid (g1'.none_ ((Chg.refl (fun _ => False) w8).drew))
              have hM9 := hid g2'
              have hO8d := hid (hO8.out.none_ ((Chg.refl (fun _ => False) w8).drew))
              have hkjl := hid (keepJ_len q1 m j)
              clear hin g1' g2'
              cases bI
              case' true =>
                refine (Classical.em (1 ≤ x.p)).elim ?ge1 ?lt1
                case' ge1 =>
                  intro h1
                  have t1 : decide (x.p < 1) = false := by simp; omega
                  have t2 : decide ((q1 : Int) < x.p) = true := by
                    have := hnot.out
                    simp at this ⊢
                    exact this h1
                  clear h1
                case' lt1 =>
                  intro h1
                  have t1 : decide (x.p < 1) = true := by simp; omega
                  clear h1
              all_goals
                clear hnot
                go_wp2_with fail
                refine wp_region_rc (id := 14) [.rd [0, 1, 2, 3, 4, 5, 6], .act 7] [8] [] (fun w' => w'.cell? ⟨o, 1, none⟩ = some (.pointer (some ⟨c8, 0, none⟩)) ∧ Bk w' w7.heap.size 26 x.cs) (by kernel_rfl) 107 rfl (by kernel_rfl) (fun _ _ _ _ _ h => h) hS14.out ?_
                refine steps_rdW ?_
                apply Exists.intro
                refine ⟨?_, ?_⟩
                focus
                  rintro w' ⟨c1, hSb⟩
                  obtain ⟨y0, y1, y2, y3, y4⟩ := V.box hSb
                  clear hSb
                  iterate 7 (refine stW_step rfl (fun K hK => ?_); go_simp; refine hK _ ?_; clear hK K)
                  exact stW_nil rfl
                refine steps_act (o := ⟨_, _, _, _, _, _⟩) rfl (fun K2 hK2 => ?_)
                go_wp2_with fail
                refine (o_get hO8d.out hxw.out hget.out).mono ?_
                rintro e w9 ⟨rfl, hc9⟩
                have hS15 := hid (show w9.cell? ⟨o, 1, none⟩ = some (.pointer (some ⟨c8, 0, none⟩)) ∧ Bk w9 w7.heap.size 26 x.cs from ⟨(hc9.cell (p := ⟨o, 1, none⟩) hol8 id).trans hS14.out.1, hS14.out.2.none_ hc9⟩)
                have hO10 := hid (hO9.out.none_ hc9)
                have hrb9 := hid ((hrb8.out.none_ ((Chg.refl (fun _ => False) w8).drew)).none_ hc9)
                clear hc9 hS14 hO9 hrb8 hT8
                go_wp2_with fail
                refine hK2 _ _ hS15.out rfl ?_
                clear hK2 K2
                refine steps_nil (l := [⟨_, _, _, _, _, _⟩]) rfl (fun K2 hK2 => ?_)
                go_wp2_with fail
                refine (o_set hO10.out hrb9.out.size (by have := hkjl.out; omega) (by have := hM9.out; omega) hxw.out hset.out).mono ?_
                rintro e w10 ⟨rfl, hO11, hc10⟩
                have fin : Hid (RebSt w6 w10 S9 c9 (keepJ q1 m (j + 1)) (j + 1)) := hid ⟨⟨_, hO11, by have := hM9.out; omega⟩, hrb9.out.chg.trans hc10 (fun k hk e => by
                  rcases e with e | e
                  · exact e
                  · omega), Nat.le_trans hrb9.out.size hc10.size⟩
                clear hO11 hc10 hrb9 hO10
                go_wp2_with fail
                refine hK2 _ _ rfl ?_
                clear hK2 K2
                refine stI_nil ?_
                go_wp2_with fail
                go_roundw
                case rel => exact ⟨j + 1, by omega, by go_num, fin⟩
                case measure => simp [intOf]; omega
          case' done =>
            intro hlt
            have hjn : j = n := by omega
            subst hjn
            have fin : Hid (((∃ a' m', AddR m a v a' m' ∧ Tab (w7.setCell ⟨o, 1, none⟩ (.pointer (some ⟨c9, 0, none⟩))) S N o (M + 400000) a' m') ∧ Chg (fun k => S k ∨ N ≤ k) w (w7.setCell ⟨o, 1, none⟩ (.pointer (some ⟨c9, 0, none⟩))))) := hid (by
              obtain ⟨M', g1, g2⟩ := hrb.out.one
              have h9 := hT7.out.newmap (S := S) (N := N) (M := M + 400000) g1 (fun k hk e => by
                rcases e with e | e
                · exact (hS2.out k e).2
                · exact .inr (by have := hwN.out; omega)) (fun k e => by
                rcases e with e | e
                · exact .inr (by have := (hS9.out k e).2; have := hwN.out; omega)
                · exact .inr (by have := hwN.out; omega)) (by omega)
              refine ⟨⟨a1, keepM a1.length m, ⟨hadd.out, .inr rfl⟩, ?_⟩, (hC6.out.trans hrb.out.chg fun k hk e => .inr (by have := (hS9.out k e).2; have := hwN.out; omega)).trans_same h9.2⟩
              rw [hq1.out, ← keepJ_all, hn.out]
              exact h9.1)
            have hof : ∀ jj, w7.frozen? ⟨o, jj, none⟩ = false := fun jj => by
              obtain ⟨av, c, vs, bm, n, D, hm, -⟩ := hT7.out
              exact hm.blk.frozen jj
            obtain ⟨A8, cap8, c8, c0, c1, -, -, -⟩ := hT7.out.cells hq1.out
            have hol8 := hT7.out.lt
            clear hrb hT7 hR7
            go_wp2_with fail
            go_end0
            exact ⟨rfl, fin.out.1, fin.out.2⟩
end
end Go.Proofs.Ytoelgnjnbelokaa
