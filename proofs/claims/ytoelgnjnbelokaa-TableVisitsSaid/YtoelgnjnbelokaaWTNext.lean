/-
  Next of a table.
-/
import Derived.Deep.DeepCutAuto
import Derived.Deep.CutBlock
import Derived.Test.YtoelgnjnbelokaaWTab4
namespace Go.Proofs.Ytoelgnjnbelokaa
open Go.RowKit Go.Maps

/-- What Next of a table returns. -/
def nextT (a : List V) (m : List Sl) (k : V) : V × V × Bool × Int :=
  if k = V.zero then afterT a m 0
  else if inN a.length k = true then afterT a m k.p.toNat
  else if (nextM m k).2.2.2 = 0 then nextM m k
  else if isI k = true ∧ 1 ≤ k.p then nextM m V.zero
  else (V.zero, V.zero, false, 13)
theorem entM_err (m : List Sl) (j : Nat) : (entM m j).2.2.2 = 0 := by unfold entM; split <;> rfl
theorem nextM_err (m : List Sl) (k : V) : (nextM m k).2.2.2 = 0 ∨ nextM m k = (V.zero, V.zero, false, 13) := by
  unfold nextM
  split
  · exact .inl (entM_err m 0)
  · split
    · exact .inl (entM_err m _)
    · exact .inr rfl
/-- What stands on the way to the entry after a key. -/
structure NextPk (w0 w : World) (o c h : Nat) (k : V) (S : Nat → Prop) (N M : Nat) (m : List Sl) : Prop where
  st : w.cell? ⟨o, 1, none⟩ = some (.pointer (some ⟨c, 0, none⟩)) ∧ Bk w h 26 k.cs
  ol : o < w.heap.size
  one : One w S N c M m
  chg : Chg (fun _ => False) w0 w
theorem NextPk.none_ {w0 w w' : World} {o c h : Nat} {k : V} {S : Nat → Prop} {N M : Nat} {m : List Sl} (h' : NextPk w0 w o c h k S N M m) (hc : Chg (fun _ => False) w w') : NextPk w0 w' o c h k S N M m :=
  ⟨⟨(hc.cell (p := ⟨o, 1, none⟩) h'.ol id).trans h'.st.1, h'.st.2.none_ hc⟩, Nat.lt_of_lt_of_le h'.ol hc.size, h'.one.none_ hc, h'.chg.trans_same hc⟩
/-- The entry in two boxes. -/
def NextFin (w0 w : World) (b1 b2 : Nat) (x1 x2 : V) : Prop := Bk w b1 26 x1.cs ∧ Bk w b2 26 x2.cs ∧ Chg (fun _ => False) w0 w ∧ w0.heap.size ≤ b1 ∧ w0.heap.size ≤ b2
section
variable {w0 w5 : World} {x1 x2 : V}
theorem next_fin_aa (hc : Chg (fun _ => False) w0 w5) : NextFin w0 ((w5.alloc (.cells x1.cs.toArray 26)).alloc (.cells x2.cs.toArray 26)) w5.heap.size (w5.heap.size + 1) x1 x2 :=
  ⟨(Bk.new w5 26 x1.cs).alloc _, Bk.new_at (w5.alloc (.cells x1.cs.toArray 26)) 26 x2.cs.toArray (w5.heap.size + 1) (by simp), (hc.alloc _).alloc _, hc.size, Nat.le_succ_of_le hc.size⟩
theorem next_fin_ab (hc : Chg (fun _ => False) w0 w5) : NextFin w0 ((w5.alloc (.cells x2.cs.toArray 26)).alloc (.cells x1.cs.toArray 26)) (w5.heap.size + 1) w5.heap.size x1 x2 :=
  ⟨Bk.new_at (w5.alloc (.cells x2.cs.toArray 26)) 26 x1.cs.toArray (w5.heap.size + 1) (by simp), (Bk.new w5 26 x2.cs).alloc _, (hc.alloc _).alloc _, Nat.le_succ_of_le hc.size, hc.size⟩
theorem next_fin_ba {b : Nat} (hc : Chg (fun _ => False) w0 w5) (hb : Bk w5 b 26 V.zero.cs) (hw : w0.heap.size ≤ b) : NextFin w0 ((put5 w5 b 0 x1).alloc (.cells x2.cs.toArray 26)) b w5.heap.size x1 x2 := by
  refine ⟨(put5_bk hb).alloc _, ?_, (hc.trans (put5_chg w5 b 0 x1) fun j hj e => by omega).alloc _, hw, hc.size⟩
  exact Bk.new_at (put5 w5 b 0 x1) 26 x2.cs.toArray w5.heap.size (by simp [put5])
theorem next_fin_bb {b : Nat} (hc : Chg (fun _ => False) w0 w5) (hb : Bk w5 b 26 V.zero.cs) (hw : w0.heap.size ≤ b) : NextFin w0 ((put5 w5 b 0 x2).alloc (.cells x1.cs.toArray 26)) w5.heap.size b x1 x2 := by
  refine ⟨?_, (put5_bk hb).alloc _, (hc.trans (put5_chg w5 b 0 x2) fun j hj e => by omega).alloc _, hc.size, hw⟩
  exact Bk.new_at (put5 w5 b 0 x2) 26 x1.cs.toArray w5.heap.size (by simp [put5])
theorem next_fin_cc {b1 b2 : Nat} (hc : Chg (fun _ => False) w0 w5) (h1 : Bk w5 b1 26 V.zero.cs) (h2 : Bk w5 b2 26 V.zero.cs) (hw1 : w0.heap.size ≤ b1) (hw2 : w0.heap.size ≤ b2) (hne : b1 ≠ b2) : NextFin w0 (put5 (put5 w5 b1 0 x1) b2 0 x2) b1 b2 x1 x2 :=
  ⟨(put5_bk h1).chg (put5_chg _ b2 0 x2) hne, put5_bk (h2.chg (put5_chg w5 b1 0 x1) (Ne.symm hne)), (hc.trans (put5_chg w5 b1 0 x1) fun j hj e => by omega).trans (put5_chg _ b2 0 x2) fun j hj e => by omega, hw1, hw2⟩
end
section
variable {w w' : World} {S : Nat → Prop} {N o M : Nat} {a : List V} {m : List Sl}
theorem t_after_eq (h : Tab w S N o M a m) (hb : a.length ≤ 1000000 ∧ m.length ≤ 1000000) {n : Nat} {ni : Int} (hni : ni = (n : Int)) (hn : n ≤ a.length) {x1 x2 : V} {bb : Bool} {e1 : Int} (hx : afterT a m n = (x1, x2, bb, e1)) :
    Calls Try.prog 25 #[.pointer (some ⟨o, 0, none⟩), .int .i64 ni] w fun e w' => e = .returned (.tuple #[(.agg #[.int .i64 x1.k, .int .i64 x1.p, .int .i64 x1.q, .string x1.s, .int .i64 x1.r]), (.agg #[.int .i64 x2.k, .int .i64 x2.p, .int .i64 x2.q, .string x2.s, .int .i64 x2.r]), .bool bb, .int .i64 e1]) ∧ Chg (fun _ => False) w w' := by
  subst hni
  exact t_after h hb n hn hx
set_option maxRecDepth 100000 in
set_option maxHeartbeats 32000000 in
theorem t_next (h : Tab w S N o M a m) (hb : a.length ≤ 1000000 ∧ m.length ≤ 1000000) {k : V} (hk : k.wf) {y1 y2 : V} {by1 : Bool} {f1 : Int} (hx : nextT a m k = (y1, y2, by1, f1)) :
    Calls Try.prog 11 #[.pointer (some ⟨o, 0, none⟩), (.agg #[.int .i64 k.k, .int .i64 k.p, .int .i64 k.q, .string k.s, .int .i64 k.r])] w fun e w' => e = .returned (.tuple #[(.agg #[.int .i64 y1.k, .int .i64 y1.p, .int .i64 y1.q, .string y1.s, .int .i64 y1.r]), (.agg #[.int .i64 y2.k, .int .i64 y2.p, .int .i64 y2.q, .string y2.s, .int .i64 y2.r]), .bool by1, .int .i64 f1]) ∧ Chg (fun _ => False) w w' := by
  obtain ⟨q, hq⟩ : ∃ q, Hid (a.length = q) := ⟨_, hid rfl⟩
  have hT := hid h
  have hbh := hid hb
  have hbm := hid hb.2
  have hkw := hid hk
  have hbq : q ≤ 1000000 := by rw [← hq.out]; exact hb.1
  have hol := h.lt
  have hC0 : Hid (Chg (fun _ => False) w (((w.alloc (.cells k.cs.toArray 26)).alloc (.cells V.zero.cs.toArray 26)).alloc (.cells V.zero.cs.toArray 26))) := hid ((((Chg.refl _ w).alloc _).alloc _).alloc _)
  have hK0 : Hid (Bk (((w.alloc (.cells k.cs.toArray 26)).alloc (.cells V.zero.cs.toArray 26)).alloc (.cells V.zero.cs.toArray 26)) w.heap.size 26 k.cs) := hid (((Bk.new w 26 k.cs).alloc _).alloc _)
  have hB0 : Hid (Bk (((w.alloc (.cells k.cs.toArray 26)).alloc (.cells V.zero.cs.toArray 26)).alloc (.cells V.zero.cs.toArray 26)) (w.heap.size + 1) 26 V.zero.cs ∧ Bk (((w.alloc (.cells k.cs.toArray 26)).alloc (.cells V.zero.cs.toArray 26)).alloc (.cells V.zero.cs.toArray 26)) (w.heap.size + 1 + 1) 26 V.zero.cs) := hid ⟨by have := (Bk.new (w.alloc (.cells k.cs.toArray 26)) 26 V.zero.cs).alloc (.cells V.zero.cs.toArray 26); rw [alloc_sz] at this; exact this, by have := Bk.new ((w.alloc (.cells k.cs.toArray 26)).alloc (.cells V.zero.cs.toArray 26)) 26 V.zero.cs; rw [alloc_sz, alloc_sz] at this; exact this⟩
  have hT0 := hid (h.none_ hC0.out)
  by_cases hz : k = V.zero
  · have hx' : Hid (afterT a m 0 = (y1, y2, by1, f1)) := hid (by unfold nextT at hx; rw [if_pos hz] at hx; exact hx)
    subst hz
    clear hx h hb hk
    show Calls Try.prog 11 #[.pointer (some ⟨o, 0, none⟩), (.agg #[.int .i64 0, .int .i64 0, .int .i64 0, .string ⟨#[]⟩, .int .i64 0])] w _
    go_enter Try.func11, Try.ntmps11
    go_wp2_with fail
    refine (t_after_eq hT0.out hbh.out (n := 0) rfl (Nat.zero_le _) hx'.out).mono ?_
    rintro e w2 ⟨rfl, hc2⟩
    have hC2 := hid (hC0.out.trans_same hc2)
    have hB2 := hid (And.intro (hB0.out.1.none_ hc2) (hB0.out.2.none_ hc2))
    clear hc2 hC0 hB0 hK0 hT0
    obtain ⟨z0, z1, z2, z3, z4⟩ := V.box hB2.out.1
    have hfz := fun j => hB2.out.1.frozen j
    obtain ⟨v0, v1, v2, v3, v4⟩ := V.box hB2.out.2
    have hfv := fun j => hB2.out.2.frozen j
    have hlz : w.heap.size + 1 + 1 < w2.heap.size := hB2.out.2.lt
    have hlz1 : w.heap.size + 1 < w2.heap.size := by omega
    simp only [V.zero] at z0 z1 z2 z3 z4 v0 v1 v2 v3 v4
    go_wp2_with fail
    refine ret_vvbe (t1 := 4) (t2 := 5) (u1 := 6) (u2 := 7) (b1 := w.heap.size + 1) (b2 := w.heap.size + 1 + 1) (x1 := y1) (x2 := y2) rfl rfl rfl rfl rfl rfl ((put5_bk (y := y1) hB2.out.1).chg (put5_chg _ (w.heap.size + 1 + 1) 0 y2) (by omega)) (put5_bk (y := y2) (hB2.out.2.chg (put5_chg _ (w.heap.size + 1) 0 y1) (by omega))) ⟨rfl, ?_⟩
    exact (hC2.out.trans (put5_chg _ (w.heap.size + 1) 0 y1) (fun i hi e => by omega)).trans (put5_chg _ (w.heap.size + 1 + 1) 0 y2) (fun i hi e => by omega)
  · have hxr := hid hx
    have hnz := hid hz
    clear hx h hb hk
    obtain ⟨kk, kp, kq, ks, kr⟩ := k
    have hcs := V.parts hz
    simp only at hcs
    clear hz
    go_enter Try.func11, Try.ntmps11
    go_upto_region 3 with fail
    go_cut [20] (fun t wx => t = .bool false ∧ wx = (((w.alloc (.cells #[.int .i64 kk, .int .i64 kp, .int .i64 kq, .string ks, .int .i64 kr] 26)).alloc (.cells #[.int .i64 0, .int .i64 0, .int .i64 0, .string ⟨#[]⟩, .int .i64 0] 26)).alloc (.cells #[.int .i64 0, .int .i64 0, .int .i64 0, .string ⟨#[]⟩, .int .i64 0] 26)))
    case first =>
      rcases hcs with h | ⟨rfl, h⟩ | ⟨rfl, rfl, h⟩ | ⟨rfl, rfl, rfl, h⟩ | ⟨rfl, rfl, rfl, rfl, h⟩
      case' inr.inr.inr.inl => have h : ¬ ks.toList = [] := fun e => h (bytes_nil e)
      all_goals
        go_wp2_with fail
        go_meet
        case rel => exact ⟨rfl, rfl⟩
    case rest =>
      obtain ⟨rfl, rfl⟩ := hcut
      clear hcs
      obtain ⟨k, hkd⟩ : ∃ k : V, k = ⟨kk, kp, kq, ks, kr⟩ := ⟨_, rfl⟩
      obtain rfl : kk = k.k := by rw [hkd]
      obtain rfl : kp = k.p := by rw [hkd]
      obtain rfl : kq = k.q := by rw [hkd]
      obtain rfl : ks = k.s := by rw [hkd]
      obtain rfl : kr = k.r := by rw [hkd]
      clear hkd
      obtain ⟨bI, hbI⟩ : ∃ b, Hid (isI k = b) := ⟨_, hid rfl⟩
      have hkw : Hid k.wf := hkw
      have hK0 : Hid (Bk (((w.alloc (.cells k.cs.toArray 26)).alloc (.cells V.zero.cs.toArray 26)).alloc (.cells V.zero.cs.toArray 26)) w.heap.size 26 k.cs) := hK0
      have hnz : Hid (¬ k = V.zero) := hnz
      have hxr : Hid (nextT a m k = (y1, y2, by1, f1)) := hxr
      go_wp2_with fail
      refine (integer_any _ k).mono ?_
      rw [hbI.out]
      rintro e w2 ⟨rfl, hc2⟩
      have hC2 := hid (hC0.out.trans_same hc2)
      have hK2 := hid (hK0.out.none_ hc2)
      have hB2 := hid (And.intro (hB0.out.1.none_ hc2) (hB0.out.2.none_ hc2))
      have hT2 := hid (hT0.out.none_ hc2)
      clear hc2 hC0 hB0 hK0 hT0
      obtain ⟨A, cap, c, c0, c1, -, hO', -⟩ := hT2.out.cells hq.out
      have hO := hid hO'
      have hol2 := hT2.out.lt
      have hc1h := hid c1
      clear hO'
      by_cases hin : inN a.length k = true
      · obtain ⟨i', h1, h2, h3, h4⟩ := inN_get hin
        have hres : Hid (afterT a m i' = (y1, y2, by1, f1)) := hid (by
          have h := hxr.out
          unfold nextT at h
          rw [if_neg hnz.out, if_pos hin, h4] at h
          simpa using h)
        obtain rfl : true = bI := by rw [← hbI.out]; exact ((inN_iff (n := a.length)).1 hin).1.symm
        have t1 : decide ((1 : Int) ≤ k.p) = true := decide_eq_true (by omega)
        have t2 : decide (k.p ≤ (q : Int)) = true := decide_eq_true (by have := hq.out; omega)
        have hiq := hid h2
        have hkp := hid h4
        clear hin h1 h2 h3 h4
        go_wp2_with fail
        refine (t_after_eq hT2.out hbh.out (n := i') hkp.out hiq.out hres.out).mono ?_
        rintro e w3 ⟨rfl, hc3⟩
        have hC3 := hid (hC2.out.trans_same hc3)
        have hB3 := hid (And.intro (hB2.out.1.none_ hc3) (hB2.out.2.none_ hc3))
        clear hc3 hC2 hB2 hK2 hT2 hO c0 c1 hc1h
        obtain ⟨z0, z1, z2, z3, z4⟩ := V.box hB3.out.1
        have hfz := fun j => hB3.out.1.frozen j
        obtain ⟨v0, v1, v2, v3, v4⟩ := V.box hB3.out.2
        have hfv := fun j => hB3.out.2.frozen j
        have hlz : w.heap.size + 1 + 1 < w3.heap.size := hB3.out.2.lt
        have hlz1 : w.heap.size + 1 < w3.heap.size := by omega
        simp only [V.zero] at z0 z1 z2 z3 z4 v0 v1 v2 v3 v4
        go_wp2_with fail
        refine ret_vvbe (t1 := 4) (t2 := 5) (u1 := 6) (u2 := 7) (b1 := w.heap.size + 1) (b2 := w.heap.size + 1 + 1) (x1 := y1) (x2 := y2) rfl rfl rfl rfl rfl rfl ((put5_bk (y := y1) hB3.out.1).chg (put5_chg _ (w.heap.size + 1 + 1) 0 y2) (by omega)) (put5_bk (y := y2) (hB3.out.2.chg (put5_chg _ (w.heap.size + 1) 0 y1) (by omega))) ⟨rfl, ?_⟩
        exact (hC3.out.trans (put5_chg _ (w.heap.size + 1) 0 y1) (fun i hi e => by omega)).trans (put5_chg _ (w.heap.size + 1 + 1) 0 y2) (fun i hi e => by omega)
      · have hnot := hid (show ¬ (bI = true ∧ 1 ≤ k.p ∧ k.p ≤ (q : Int)) from fun h => hin ((inN_iff (n := a.length)).2 ⟨hbI.out.trans h.1, h.2.1, by rw [hq.out]; exact h.2.2⟩))
        have hinh := hid hin
        clear hin
        go_upto_region 6 with fail
        go_cut [45] (fun t wx => t = .bool false ∧ wx = w2)
        case first =>
          cases bI
          case' true =>
            refine (Classical.em (1 ≤ k.p)).elim ?ge1 ?lt1
            case' ge1 =>
              intro h1
              have t1 : decide ((1 : Int) ≤ k.p) = true := by simpa using h1
              have t2 : decide (k.p ≤ (q : Int)) = false := by
                have := hnot.out
                simp at this ⊢
                exact this h1
              clear h1
            case' lt1 =>
              intro h1
              have t1 : decide ((1 : Int) ≤ k.p) = false := by simp; omega
              clear h1
          all_goals
            go_wp2_with fail
            go_meet
            case rel => exact ⟨rfl, rfl⟩
        case rest =>
          obtain ⟨rfl, rfl⟩ := hcut
          rename World => w2
          obtain ⟨x1, x2, bb, e1, hx⟩ : ∃ x1 x2 bb e1, Hid (nextM m k = (x1, x2, bb, e1)) := ⟨_, _, _, _, hid rfl⟩
          have hP0 : Hid (NextPk w2 w2.drew o c w.heap.size k S N M m) := hid ⟨⟨hc1h.out, hK2.out.drew⟩, hol2, hO.out.none_ ((Chg.refl (fun _ => False) w2).drew), (Chg.refl _ w2).drew⟩
          have hPb : Hid (NextPk w2 w2 o c w.heap.size k S N M m) := hid ⟨⟨hc1h.out, hK2.out⟩, hol2, hO.out, Chg.refl _ w2⟩
          have hsz : Hid (w2.drew.heap.size = w2.heap.size) := hid rfl
          clear c0 c1
          go_upto_region 8 with fail
          go_cut [10, 11, 12, 13] (fun t10 t11 t12 t13 wx => ∃ b1 b2, t10 = .pointer (some ⟨b1, 0, none⟩) ∧ t11 = .pointer (some ⟨b2, 0, none⟩) ∧ t12 = .bool bb ∧ t13 = .int .i64 e1 ∧ Hid (NextFin w2 wx b1 b2 x1 x2))
          case first =>
            refine wp_region_tree (id := 8) (.rd [0, 1, 2, 3, 4] (.three 5 11 12 (.wl [6, 7, 8, 9, 10] (.two 11 12 (.one 12 .done) (.one 11 .done))) (.two 5 12 (.wl [6, 7, 8, 9, 10] (.one 12 .done)) (.one 5 (.wl [6, 7, 8, 9, 10] .done))) (.two 5 11 (.wl [6, 7, 8, 9, 10] (.one 11 .done)) (.one 5 (.wl [6, 7, 8, 9, 10] .done))))) #[true, true, true, true, true, true, true, true, true, true, true, true, true, false, false, false, false] [13, 14, 15, 16] [] (fun w' => w'.cell? ⟨o, 1, none⟩ = some (.pointer (some ⟨c, 0, none⟩)) ∧ Bk w' w.heap.size 26 k.cs) (by kernel_rfl) 89 rfl (by kernel_rfl) (fun _ _ _ _ _ h => h) hP0.out.st ?_
            refine tree_rd ?_
            apply Exists.intro
            refine ⟨?_, ?_⟩
            focus
              rintro w' ⟨c1, hSb⟩
              obtain ⟨y0, y1, y2, y3, y4⟩ := V.box hSb
              clear hSb
              iterate 5 (refine stW_step rfl (fun K hK => ?_); go_simp; refine hK _ ?_; clear hK K)
              exact stW_nil rfl
            refine tree_three (o := ⟨_, _, _, _, _, _⟩) (o' := ⟨_, _, _, _, _, _⟩) (o'' := ⟨_, _, _, _, _, _⟩) rfl rfl rfl (fun K2 hK2 => ?_) (fun K2 hK2 => ?_) (fun K2 hK2 => ?_)
            · go_wp2_with fail
              refine (o_next hP0.out.one hbm.out hkw.out hx.out).mono ?_
              rintro e w101 ⟨rfl, hc⟩
              have hP1 := hid (hP0.out.none_ hc)
              clear hc
              go_wp2_with fail
              refine hK2 _ _ hP1.out.st rfl ?_
              clear hK2 K2
              refine tree_wl ?_
              apply Exists.intro
              refine ⟨?_, ?_⟩
              focus
                intro w'
                iterate 5 (refine stW_step rfl (fun K hK => ?_); go_simp; refine hK _ ?_; clear hK K)
                exact stW_nil rfl
              refine tree_two (o := ⟨_, _, _, _, _, _⟩) (o' := ⟨_, _, _, _, _, _⟩) rfl rfl (fun K2 hK2 => ?_) (fun K2 hK2 => ?_)
              · have hP2 := hid (hP1.out.none_ ((Chg.refl (fun _ => False) w101).alloc (.cells #[.int .i64 0, .int .i64 0, .int .i64 0, .string ⟨#[]⟩, .int .i64 0] 26)))
                have hX2_11 := hid (show Bk (w101.alloc (.cells #[.int .i64 0, .int .i64 0, .int .i64 0, .string ⟨#[]⟩, .int .i64 0] 26)) w101.heap.size 26 V.zero.cs from Bk.new w101 26 V.zero.cs)
                go_wp2_with fail
                refine hK2 _ _ hP2.out.st rfl ?_
                clear hK2 K2
                refine tree_one (o := ⟨_, _, _, _, _, _⟩) rfl (fun K2 hK2 => ?_)
                have hP3 := hid (hP2.out.none_ ((Chg.refl (fun _ => False) (w101.alloc (.cells #[.int .i64 0, .int .i64 0, .int .i64 0, .string ⟨#[]⟩, .int .i64 0] 26))).alloc (.cells #[.int .i64 0, .int .i64 0, .int .i64 0, .string ⟨#[]⟩, .int .i64 0] 26)))
                have hX3_12 := hid (show Bk ((w101.alloc (.cells #[.int .i64 0, .int .i64 0, .int .i64 0, .string ⟨#[]⟩, .int .i64 0] 26)).alloc (.cells #[.int .i64 0, .int .i64 0, .int .i64 0, .string ⟨#[]⟩, .int .i64 0] 26)) (w101.alloc (.cells #[.int .i64 0, .int .i64 0, .int .i64 0, .string ⟨#[]⟩, .int .i64 0] 26)).heap.size 26 V.zero.cs from Bk.new (w101.alloc (.cells #[.int .i64 0, .int .i64 0, .int .i64 0, .string ⟨#[]⟩, .int .i64 0] 26)) 26 V.zero.cs)
                have hX3_11 := hid (hX2_11.out.none_ ((Chg.refl (fun _ => False) (w101.alloc (.cells #[.int .i64 0, .int .i64 0, .int .i64 0, .string ⟨#[]⟩, .int .i64 0] 26))).alloc (.cells #[.int .i64 0, .int .i64 0, .int .i64 0, .string ⟨#[]⟩, .int .i64 0] 26)))
                go_wp2_with fail
                refine hK2 _ _ hP3.out.st rfl ?_
                clear hK2 K2
                have hfin := hid (next_fin_aa hP1.out.chg (x1 := x1) (x2 := x2))
                refine end_mk (l := [⟨_, _, _, _, _, _⟩, ⟨_, _, _, _, _, _⟩, ⟨_, _, _, _, _, _⟩, ⟨_, _, _, _, _, _⟩]) rfl (fun K2 hK2 => ?_)
                go_wp2_with fail
                refine hK2 _ _ rfl ?_
                clear hK2 K2
                refine stI_nil ?_
                go_wp2_with fail
                go_meet
                case rel => exact ⟨_, _, rfl, rfl, rfl, rfl, hfin⟩
              · have hP4 := hid (hP1.out.none_ ((Chg.refl (fun _ => False) w101).alloc (.cells #[.int .i64 0, .int .i64 0, .int .i64 0, .string ⟨#[]⟩, .int .i64 0] 26)))
                have hX4_12 := hid (show Bk (w101.alloc (.cells #[.int .i64 0, .int .i64 0, .int .i64 0, .string ⟨#[]⟩, .int .i64 0] 26)) w101.heap.size 26 V.zero.cs from Bk.new w101 26 V.zero.cs)
                go_wp2_with fail
                refine hK2 _ _ hP4.out.st rfl ?_
                clear hK2 K2
                refine tree_one (o := ⟨_, _, _, _, _, _⟩) rfl (fun K2 hK2 => ?_)
                have hP5 := hid (hP4.out.none_ ((Chg.refl (fun _ => False) (w101.alloc (.cells #[.int .i64 0, .int .i64 0, .int .i64 0, .string ⟨#[]⟩, .int .i64 0] 26))).alloc (.cells #[.int .i64 0, .int .i64 0, .int .i64 0, .string ⟨#[]⟩, .int .i64 0] 26)))
                have hX5_11 := hid (show Bk ((w101.alloc (.cells #[.int .i64 0, .int .i64 0, .int .i64 0, .string ⟨#[]⟩, .int .i64 0] 26)).alloc (.cells #[.int .i64 0, .int .i64 0, .int .i64 0, .string ⟨#[]⟩, .int .i64 0] 26)) (w101.alloc (.cells #[.int .i64 0, .int .i64 0, .int .i64 0, .string ⟨#[]⟩, .int .i64 0] 26)).heap.size 26 V.zero.cs from Bk.new (w101.alloc (.cells #[.int .i64 0, .int .i64 0, .int .i64 0, .string ⟨#[]⟩, .int .i64 0] 26)) 26 V.zero.cs)
                have hX5_12 := hid (hX4_12.out.none_ ((Chg.refl (fun _ => False) (w101.alloc (.cells #[.int .i64 0, .int .i64 0, .int .i64 0, .string ⟨#[]⟩, .int .i64 0] 26))).alloc (.cells #[.int .i64 0, .int .i64 0, .int .i64 0, .string ⟨#[]⟩, .int .i64 0] 26)))
                go_wp2_with fail
                refine hK2 _ _ hP5.out.st rfl ?_
                clear hK2 K2
                have hfin := hid (next_fin_ab hP1.out.chg (x1 := x1) (x2 := x2))
                refine end_mk (l := [⟨_, _, _, _, _, _⟩, ⟨_, _, _, _, _, _⟩, ⟨_, _, _, _, _, _⟩, ⟨_, _, _, _, _, _⟩]) rfl (fun K2 hK2 => ?_)
                go_wp2_with fail
                refine hK2 _ _ rfl ?_
                clear hK2 K2
                refine stI_nil ?_
                go_wp2_with fail
                go_meet
                case rel => exact ⟨_, _, rfl, rfl, rfl, rfl, hfin⟩
            · have hP6 := hid (hPb.out.none_ (((Chg.refl (fun _ => False) w2).alloc (.cells #[.int .i64 0, .int .i64 0, .int .i64 0, .string ⟨#[]⟩, .int .i64 0] 26)).drew))
              have hX6_11 := hid (show Bk (w2.alloc (.cells #[.int .i64 0, .int .i64 0, .int .i64 0, .string ⟨#[]⟩, .int .i64 0] 26)).drew w2.heap.size 26 V.zero.cs from (Bk.new w2 26 V.zero.cs).drew)
              go_wp2_with fail
              refine hK2 _ _ hP6.out.st rfl ?_
              clear hK2 K2
              refine tree_two (o := ⟨_, _, _, _, _, _⟩) (o' := ⟨_, _, _, _, _, _⟩) rfl rfl (fun K2 hK2 => ?_) (fun K2 hK2 => ?_)
              · go_wp2_with fail
                refine (o_next hP6.out.one hbm.out hkw.out hx.out).mono ?_
                rintro e w107 ⟨rfl, hc⟩
                have hP7 := hid (hP6.out.none_ hc)
                have hX7_11 := hid (hX6_11.out.none_ hc)
                clear hc
                go_wp2_with fail
                refine hK2 _ _ hP7.out.st rfl ?_
                clear hK2 K2
                refine tree_wl ?_
                apply Exists.intro
                refine ⟨?_, ?_⟩
                focus
                  intro w'
                  iterate 5 (refine stW_step rfl (fun K hK => ?_); go_simp; refine hK _ ?_; clear hK K)
                  exact stW_nil rfl
                refine tree_one (o := ⟨_, _, _, _, _, _⟩) rfl (fun K2 hK2 => ?_)
                have hP8 := hid (hP7.out.none_ ((Chg.refl (fun _ => False) w107).alloc (.cells #[.int .i64 0, .int .i64 0, .int .i64 0, .string ⟨#[]⟩, .int .i64 0] 26)))
                have hX8_12 := hid (show Bk (w107.alloc (.cells #[.int .i64 0, .int .i64 0, .int .i64 0, .string ⟨#[]⟩, .int .i64 0] 26)) w107.heap.size 26 V.zero.cs from Bk.new w107 26 V.zero.cs)
                have hX8_11 := hid (hX7_11.out.none_ ((Chg.refl (fun _ => False) w107).alloc (.cells #[.int .i64 0, .int .i64 0, .int .i64 0, .string ⟨#[]⟩, .int .i64 0] 26)))
                go_wp2_with fail
                refine hK2 _ _ hP8.out.st rfl ?_
                clear hK2 K2
                obtain ⟨z11_0, z11_1, z11_2, z11_3, z11_4⟩ := V.box hX7_11.out
                have zl11 := hX7_11.out.lt
                have zf11 := fun j => hX7_11.out.frozen j
                simp only [V.zero] at z11_0 z11_1 z11_2 z11_3 z11_4
                have hfin := hid (next_fin_ba hP7.out.chg hX7_11.out (by have := hsz.out; omega) (x1 := x1) (x2 := x2))
                refine end_mk (l := [⟨_, _, _, _, _, _⟩, ⟨_, _, _, _, _, _⟩, ⟨_, _, _, _, _, _⟩, ⟨_, _, _, _, _, _⟩]) rfl (fun K2 hK2 => ?_)
                go_wp2_with fail
                refine hK2 _ _ rfl ?_
                clear hK2 K2
                refine stI_nil ?_
                go_wp2_with fail
                go_meet
                case rel => exact ⟨_, _, rfl, rfl, rfl, rfl, hfin⟩
              · have hP9 := hid (hPb.out.none_ ((((Chg.refl (fun _ => False) w2).alloc (.cells #[.int .i64 0, .int .i64 0, .int .i64 0, .string ⟨#[]⟩, .int .i64 0] 26)).alloc (.cells #[.int .i64 0, .int .i64 0, .int .i64 0, .string ⟨#[]⟩, .int .i64 0] 26)).drew))
                have hX9_11 := hid (show Bk ((w2.alloc (.cells #[.int .i64 0, .int .i64 0, .int .i64 0, .string ⟨#[]⟩, .int .i64 0] 26)).alloc (.cells #[.int .i64 0, .int .i64 0, .int .i64 0, .string ⟨#[]⟩, .int .i64 0] 26)).drew w2.heap.size 26 V.zero.cs from ((Bk.new w2 26 V.zero.cs).alloc (.cells #[.int .i64 0, .int .i64 0, .int .i64 0, .string ⟨#[]⟩, .int .i64 0] 26)).drew)
                have hX9_12 := hid (show Bk ((w2.alloc (.cells #[.int .i64 0, .int .i64 0, .int .i64 0, .string ⟨#[]⟩, .int .i64 0] 26)).alloc (.cells #[.int .i64 0, .int .i64 0, .int .i64 0, .string ⟨#[]⟩, .int .i64 0] 26)).drew (w2.heap.size + 1) 26 V.zero.cs from (Bk.new_at (w2.alloc (.cells #[.int .i64 0, .int .i64 0, .int .i64 0, .string ⟨#[]⟩, .int .i64 0] 26)) 26 V.zero.cs.toArray (w2.heap.size + 1) (by simp)).drew)
                go_wp2_with fail
                refine hK2 _ _ hP9.out.st rfl ?_
                clear hK2 K2
                refine tree_one (o := ⟨_, _, _, _, _, _⟩) rfl (fun K2 hK2 => ?_)
                go_wp2_with fail
                refine (o_next hP9.out.one hbm.out hkw.out hx.out).mono ?_
                rintro e w110 ⟨rfl, hc⟩
                have hP10 := hid (hP9.out.none_ hc)
                have hX10_11 := hid (hX9_11.out.none_ hc)
                have hX10_12 := hid (hX9_12.out.none_ hc)
                clear hc
                go_wp2_with fail
                refine hK2 _ _ hP10.out.st rfl ?_
                clear hK2 K2
                refine tree_wl ?_
                apply Exists.intro
                refine ⟨?_, ?_⟩
                focus
                  intro w'
                  iterate 5 (refine stW_step rfl (fun K hK => ?_); go_simp; refine hK _ ?_; clear hK K)
                  exact stW_nil rfl
                obtain ⟨z11_0, z11_1, z11_2, z11_3, z11_4⟩ := V.box hX10_11.out
                have zl11 := hX10_11.out.lt
                have zf11 := fun j => hX10_11.out.frozen j
                simp only [V.zero] at z11_0 z11_1 z11_2 z11_3 z11_4
                obtain ⟨z12_0, z12_1, z12_2, z12_3, z12_4⟩ := V.box hX10_12.out
                have zl12 := hX10_12.out.lt
                have zf12 := fun j => hX10_12.out.frozen j
                simp only [V.zero] at z12_0 z12_1 z12_2 z12_3 z12_4
                have hfin := hid (next_fin_cc hP10.out.chg hX10_11.out hX10_12.out (by have := hsz.out; simp) (by have := hsz.out; simp) (by simp) (x1 := x1) (x2 := x2))
                refine end_mk (l := [⟨_, _, _, _, _, _⟩, ⟨_, _, _, _, _, _⟩, ⟨_, _, _, _, _, _⟩, ⟨_, _, _, _, _, _⟩]) rfl (fun K2 hK2 => ?_)
                go_wp2_with fail
                refine hK2 _ _ rfl ?_
                clear hK2 K2
                refine stI_nil ?_
                go_wp2_with fail
                go_meet
                case rel => exact ⟨_, _, rfl, rfl, rfl, rfl, hfin⟩
            · have hP11 := hid (hPb.out.none_ (((Chg.refl (fun _ => False) w2).alloc (.cells #[.int .i64 0, .int .i64 0, .int .i64 0, .string ⟨#[]⟩, .int .i64 0] 26)).drew))
              have hX11_12 := hid (show Bk (w2.alloc (.cells #[.int .i64 0, .int .i64 0, .int .i64 0, .string ⟨#[]⟩, .int .i64 0] 26)).drew w2.heap.size 26 V.zero.cs from (Bk.new w2 26 V.zero.cs).drew)
              go_wp2_with fail
              refine hK2 _ _ hP11.out.st rfl ?_
              clear hK2 K2
              refine tree_two (o := ⟨_, _, _, _, _, _⟩) (o' := ⟨_, _, _, _, _, _⟩) rfl rfl (fun K2 hK2 => ?_) (fun K2 hK2 => ?_)
              · go_wp2_with fail
                refine (o_next hP11.out.one hbm.out hkw.out hx.out).mono ?_
                rintro e w112 ⟨rfl, hc⟩
                have hP12 := hid (hP11.out.none_ hc)
                have hX12_12 := hid (hX11_12.out.none_ hc)
                clear hc
                go_wp2_with fail
                refine hK2 _ _ hP12.out.st rfl ?_
                clear hK2 K2
                refine tree_wl ?_
                apply Exists.intro
                refine ⟨?_, ?_⟩
                focus
                  intro w'
                  iterate 5 (refine stW_step rfl (fun K hK => ?_); go_simp; refine hK _ ?_; clear hK K)
                  exact stW_nil rfl
                refine tree_one (o := ⟨_, _, _, _, _, _⟩) rfl (fun K2 hK2 => ?_)
                have hP13 := hid (hP12.out.none_ ((Chg.refl (fun _ => False) w112).alloc (.cells #[.int .i64 0, .int .i64 0, .int .i64 0, .string ⟨#[]⟩, .int .i64 0] 26)))
                have hX13_11 := hid (show Bk (w112.alloc (.cells #[.int .i64 0, .int .i64 0, .int .i64 0, .string ⟨#[]⟩, .int .i64 0] 26)) w112.heap.size 26 V.zero.cs from Bk.new w112 26 V.zero.cs)
                have hX13_12 := hid (hX12_12.out.none_ ((Chg.refl (fun _ => False) w112).alloc (.cells #[.int .i64 0, .int .i64 0, .int .i64 0, .string ⟨#[]⟩, .int .i64 0] 26)))
                go_wp2_with fail
                refine hK2 _ _ hP13.out.st rfl ?_
                clear hK2 K2
                obtain ⟨z12_0, z12_1, z12_2, z12_3, z12_4⟩ := V.box hX12_12.out
                have zl12 := hX12_12.out.lt
                have zf12 := fun j => hX12_12.out.frozen j
                simp only [V.zero] at z12_0 z12_1 z12_2 z12_3 z12_4
                have hfin := hid (next_fin_bb hP12.out.chg hX12_12.out (by have := hsz.out; omega) (x1 := x1) (x2 := x2))
                refine end_mk (l := [⟨_, _, _, _, _, _⟩, ⟨_, _, _, _, _, _⟩, ⟨_, _, _, _, _, _⟩, ⟨_, _, _, _, _, _⟩]) rfl (fun K2 hK2 => ?_)
                go_wp2_with fail
                refine hK2 _ _ rfl ?_
                clear hK2 K2
                refine stI_nil ?_
                go_wp2_with fail
                go_meet
                case rel => exact ⟨_, _, rfl, rfl, rfl, rfl, hfin⟩
              · have hP14 := hid (hPb.out.none_ ((((Chg.refl (fun _ => False) w2).alloc (.cells #[.int .i64 0, .int .i64 0, .int .i64 0, .string ⟨#[]⟩, .int .i64 0] 26)).alloc (.cells #[.int .i64 0, .int .i64 0, .int .i64 0, .string ⟨#[]⟩, .int .i64 0] 26)).drew))
                have hX14_12 := hid (show Bk ((w2.alloc (.cells #[.int .i64 0, .int .i64 0, .int .i64 0, .string ⟨#[]⟩, .int .i64 0] 26)).alloc (.cells #[.int .i64 0, .int .i64 0, .int .i64 0, .string ⟨#[]⟩, .int .i64 0] 26)).drew w2.heap.size 26 V.zero.cs from ((Bk.new w2 26 V.zero.cs).alloc (.cells #[.int .i64 0, .int .i64 0, .int .i64 0, .string ⟨#[]⟩, .int .i64 0] 26)).drew)
                have hX14_11 := hid (show Bk ((w2.alloc (.cells #[.int .i64 0, .int .i64 0, .int .i64 0, .string ⟨#[]⟩, .int .i64 0] 26)).alloc (.cells #[.int .i64 0, .int .i64 0, .int .i64 0, .string ⟨#[]⟩, .int .i64 0] 26)).drew (w2.heap.size + 1) 26 V.zero.cs from (Bk.new_at (w2.alloc (.cells #[.int .i64 0, .int .i64 0, .int .i64 0, .string ⟨#[]⟩, .int .i64 0] 26)) 26 V.zero.cs.toArray (w2.heap.size + 1) (by simp)).drew)
                go_wp2_with fail
                refine hK2 _ _ hP14.out.st rfl ?_
                clear hK2 K2
                refine tree_one (o := ⟨_, _, _, _, _, _⟩) rfl (fun K2 hK2 => ?_)
                go_wp2_with fail
                refine (o_next hP14.out.one hbm.out hkw.out hx.out).mono ?_
                rintro e w115 ⟨rfl, hc⟩
                have hP15 := hid (hP14.out.none_ hc)
                have hX15_12 := hid (hX14_12.out.none_ hc)
                have hX15_11 := hid (hX14_11.out.none_ hc)
                clear hc
                go_wp2_with fail
                refine hK2 _ _ hP15.out.st rfl ?_
                clear hK2 K2
                refine tree_wl ?_
                apply Exists.intro
                refine ⟨?_, ?_⟩
                focus
                  intro w'
                  iterate 5 (refine stW_step rfl (fun K hK => ?_); go_simp; refine hK _ ?_; clear hK K)
                  exact stW_nil rfl
                obtain ⟨z11_0, z11_1, z11_2, z11_3, z11_4⟩ := V.box hX15_11.out
                have zl11 := hX15_11.out.lt
                have zf11 := fun j => hX15_11.out.frozen j
                simp only [V.zero] at z11_0 z11_1 z11_2 z11_3 z11_4
                obtain ⟨z12_0, z12_1, z12_2, z12_3, z12_4⟩ := V.box hX15_12.out
                have zl12 := hX15_12.out.lt
                have zf12 := fun j => hX15_12.out.frozen j
                simp only [V.zero] at z12_0 z12_1 z12_2 z12_3 z12_4
                have hfin := hid (next_fin_cc hP15.out.chg hX15_11.out hX15_12.out (by have := hsz.out; simp) (by have := hsz.out; simp) (by simp) (x1 := x1) (x2 := x2))
                refine end_mk (l := [⟨_, _, _, _, _, _⟩, ⟨_, _, _, _, _, _⟩, ⟨_, _, _, _, _, _⟩, ⟨_, _, _, _, _, _⟩]) rfl (fun K2 hK2 => ?_)
                go_wp2_with fail
                refine hK2 _ _ rfl ?_
                clear hK2 K2
                refine stI_nil ?_
                go_wp2_with fail
                go_meet
                case rel => exact ⟨_, _, rfl, rfl, rfl, rfl, hfin⟩
          case rest =>
            obtain ⟨b1, b2, rfl, rfl, rfl, rfl, hF⟩ := hcut
            rename World => w3
            have hC3 := hid (hC2.out.trans_same hF.out.2.2.1)
            have hB3 := hid (And.intro (hB2.out.1.none_ hF.out.2.2.1) (hB2.out.2.none_ hF.out.2.2.1))
            have hT3 := hid (hT2.out.none_ hF.out.2.2.1)
            have hX3 := hid (And.intro hF.out.1 hF.out.2.1)
            have hlo3 := hid hF.out.2.2.2
            have hlw : w.heap.size + 1 + 1 < w2.heap.size := hB2.out.2.lt
            have hnm : Hid (nextT a m k = if e1 = 0 then (x1, x2, bb, e1) else if isI k = true ∧ 1 ≤ k.p then nextM m V.zero else (V.zero, V.zero, false, 13)) := hid (by
              unfold nextT
              rw [if_neg hnz.out, if_neg hinh.out, hx.out])
            clear hC2 hB2 hT2 hF hP0 hPb hO hK2 hc1h hol2
            obtain ⟨be, hbe⟩ : ∃ b, (e1 == 0) = b := ⟨_, rfl⟩
            cases be
            case' true =>
              have hq2 : Hid ((y1, y2, by1, f1) = (x1, x2, bb, e1)) := hid (by
                have h1 := hnm.out
                rw [if_pos (by simpa using hbe)] at h1
                exact hxr.out.symm.trans h1)
              go_wp2_with fail
              have hS4 := hid (show Bk w3.drew b1 26 x1.cs ∧ Bk w3.drew b2 26 x2.cs from ⟨hX3.out.1.drew, hX3.out.2.drew⟩)
              have hS5 : Hid (Bk (put5 w3 (w.heap.size + 1) 0 x1).drew b1 26 x1.cs ∧ Bk (put5 w3 (w.heap.size + 1) 0 x1).drew b2 26 x2.cs) := hid ⟨(hX3.out.1.chg (put5_chg w3 (w.heap.size + 1) 0 x1) (by have := hlo3.out; omega)).drew, (hX3.out.2.chg (put5_chg w3 (w.heap.size + 1) 0 x1) (by have := hlo3.out; omega)).drew⟩
              refine wp_region_rc (id := 10) [.rd [0, 1], .wl [2, 3], .act 4] [5, 6, 7] [] (fun w' => Bk w' b1 26 x1.cs ∧ Bk w' b2 26 x2.cs) (by kernel_rfl) 89 rfl (by kernel_rfl) (fun _ _ _ _ _ h => h) hS4.out ?_
              refine steps_rdW ?_
              apply Exists.intro
              refine ⟨?_, ?_⟩
              focus
                rintro w' ⟨hSa, hSb⟩
                obtain ⟨p0, p1, p2, p3, p4⟩ := V.box hSa
                obtain ⟨q0, q1, q2, q3, q4⟩ := V.box hSb
                clear hSa hSb
                iterate 2 (refine stW_step rfl (fun K hK => ?_); go_simp; refine hK _ ?_; clear hK K)
                exact stW_nil rfl
              refine steps_wlW ?_
              apply Exists.intro
              refine ⟨?_, ?_⟩
              focus
                intro w'
                iterate 2 (refine stW_step rfl (fun K hK => ?_); go_simp; refine hK _ ?_; clear hK K)
                exact stW_nil rfl
              obtain ⟨z0, z1, z2, z3, z4⟩ := V.box hB3.out.1
              have hfz := fun j => hB3.out.1.frozen j
              obtain ⟨v0, v1, v2, v3, v4⟩ := V.box hB3.out.2
              have hfv := fun j => hB3.out.2.frozen j
              have hlz : w.heap.size + 1 + 1 < w3.heap.size := hB3.out.2.lt
              have hlz1 : w.heap.size + 1 < w3.heap.size := by omega
              simp only [V.zero] at z0 z1 z2 z3 z4 v0 v1 v2 v3 v4
              refine steps_act (o := ⟨_, _, _, _, _, _⟩) rfl (fun K2 hK2 => ?_)
              go_wp2_with fail
              refine hK2 _ _ hS5.out rfl ?_
              clear hK2 K2
              refine steps_nil (l := [⟨_, _, _, _, _, _⟩, ⟨_, _, _, _, _, _⟩, ⟨_, _, _, _, _, _⟩]) rfl (fun K2 hK2 => ?_)
              go_wp2_with fail
              refine hK2 _ _ rfl ?_
              clear hK2 K2
              refine stI_nil ?_
              go_wp2_with fail
              refine ret_vvbe (t1 := 4) (t2 := 5) (u1 := 6) (u2 := 7) (b1 := w.heap.size + 1) (b2 := w.heap.size + 1 + 1) (x1 := x1) (x2 := x2) rfl rfl rfl rfl rfl rfl (((put5_bk (y := x1) hB3.out.1).chg (put5_chg _ (w.heap.size + 1 + 1) 0 x2) (by omega)).drew) ((put5_bk (y := x2) (hB3.out.2.chg (put5_chg _ (w.heap.size + 1) 0 x1) (by omega))).drew) ⟨by
                                have e := hq2.out
                                simp only [Prod.mk.injEq] at e
                                obtain ⟨rfl, rfl, rfl, rfl⟩ := e
                                rfl, ?_⟩
              exact ((hC3.out.trans (put5_chg _ (w.heap.size + 1) 0 x1) (fun i hi e => by omega)).trans (put5_chg _ (w.heap.size + 1 + 1) 0 x2) (fun i hi e => by omega)).drew
            case' false =>
              have he13 : Hid ((x1, x2, bb, e1) = (V.zero, V.zero, false, 13)) := hid (by
                rcases nextM_err m k with h | h
                · rw [hx.out] at h
                  simp only at h
                  rw [h] at hbe
                  cases hbe
                · rw [hx.out] at h
                  exact h)
              have hne : Hid (¬ e1 = 0) := hid (by simpa using hbe)
              refine (Classical.em (bI = true ∧ 1 ≤ k.p)).elim ?isi ?noi
              case' isi =>
                intro hi
                obtain ⟨p1, p2, p3, p4, hz0⟩ : ∃ p1 p2 p3 p4, Hid (nextM m V.zero = (p1, p2, p3, p4)) := ⟨_, _, _, _, hid rfl⟩
                have hq2 : Hid ((y1, y2, by1, f1) = (p1, p2, p3, p4)) := hid (by
                  have h1 := hnm.out
                  rw [if_neg hne.out, if_pos ⟨hbI.out.trans hi.1, hi.2⟩, hz0.out] at h1
                  exact hxr.out.symm.trans h1)
                have t1 : decide ((1 : Int) ≤ k.p) = true := by simpa using hi.2
                obtain rfl : true = bI := hi.1.symm
                clear hi
                obtain ⟨A4, cap4, c4, -, c1, -, hO4', -⟩ := hT3.out.cells hq.out
                have hO4 := hid hO4'
                have hol4 := hT3.out.lt
                clear hO4'
                go_wp2_with fail
                refine (o_next hO4.out hbm.out zero_wf hz0.out).mono ?_
                rintro e w4 ⟨rfl, hc4⟩
                have hC4 := hid (hC3.out.trans_same hc4)
                have hB4 := hid (And.intro (hB3.out.1.none_ hc4) (hB3.out.2.none_ hc4))
                clear hc4 hC3 hB3 hT3 hO4 c1
                obtain ⟨z0, z1, z2, z3, z4⟩ := V.box hB4.out.1
                have hfz := fun j => hB4.out.1.frozen j
                obtain ⟨v0, v1, v2, v3, v4⟩ := V.box hB4.out.2
                have hfv := fun j => hB4.out.2.frozen j
                have hlz : w.heap.size + 1 + 1 < w4.heap.size := hB4.out.2.lt
                have hlz1 : w.heap.size + 1 < w4.heap.size := by omega
                simp only [V.zero] at z0 z1 z2 z3 z4 v0 v1 v2 v3 v4
                go_wp2_with fail
                refine ret_vvbe (t1 := 4) (t2 := 5) (u1 := 6) (u2 := 7) (b1 := w.heap.size + 1) (b2 := w.heap.size + 1 + 1) (x1 := p1) (x2 := p2) rfl rfl rfl rfl rfl rfl (((put5_bk (y := p1) hB4.out.1).chg (put5_chg _ (w.heap.size + 1 + 1) 0 p2) (by omega))) ((put5_bk (y := p2) (hB4.out.2.chg (put5_chg _ (w.heap.size + 1) 0 p1) (by omega)))) ⟨by
                                    have e := hq2.out
                                    simp only [Prod.mk.injEq] at e
                                    obtain ⟨rfl, rfl, rfl, rfl⟩ := e
                                    rfl, ?_⟩
                exact ((hC4.out.trans (put5_chg _ (w.heap.size + 1) 0 p1) (fun i hi e => by omega)).trans (put5_chg _ (w.heap.size + 1 + 1) 0 p2) (fun i hi e => by omega))
              case' noi =>
                intro hi
                have hq2 : Hid ((y1, y2, by1, f1) = (V.zero, V.zero, false, 13)) := hid (by
                  have h1 := hnm.out
                  rw [if_neg hne.out, if_neg (fun h => hi ⟨hbI.out.symm.trans h.1, h.2⟩)] at h1
                  exact hxr.out.symm.trans h1)
                cases bI
                case' true =>
                  have t1 : decide ((1 : Int) ≤ k.p) = false := by simp; exact Int.not_le.1 fun h => hi ⟨rfl, h⟩
                all_goals
                  clear hi
                  obtain ⟨z0, z1, z2, z3, z4⟩ := V.box hB3.out.1
                  have hfz := fun j => hB3.out.1.frozen j
                  obtain ⟨v0, v1, v2, v3, v4⟩ := V.box hB3.out.2
                  have hfv := fun j => hB3.out.2.frozen j
                  have hlz : w.heap.size + 1 + 1 < w3.heap.size := hB3.out.2.lt
                  have hlz1 : w.heap.size + 1 < w3.heap.size := by omega
                  simp only [V.zero] at z0 z1 z2 z3 z4 v0 v1 v2 v3 v4
                  go_wp2_with fail
                  refine ret_vvbe (t1 := 4) (t2 := 5) (u1 := 6) (u2 := 7) (b1 := w.heap.size + 1) (b2 := w.heap.size + 1 + 1) (x1 := V.zero) (x2 := V.zero) rfl rfl rfl rfl rfl rfl (((put5_bk (y := V.zero) hB3.out.1).chg (put5_chg _ (w.heap.size + 1 + 1) 0 V.zero) (by omega))) ((put5_bk (y := V.zero) (hB3.out.2.chg (put5_chg _ (w.heap.size + 1) 0 V.zero) (by omega)))) ⟨by
                                        have e := hq2.out
                                        simp only [Prod.mk.injEq] at e
                                        obtain ⟨rfl, rfl, rfl, rfl⟩ := e
                                        rfl, ?_⟩
                  exact ((hC3.out.trans (put5_chg _ (w.heap.size + 1) 0 V.zero) (fun i hi e => by omega)).trans (put5_chg _ (w.heap.size + 1 + 1) 0 V.zero) (fun i hi e => by omega))
end
end Go.Proofs.Ytoelgnjnbelokaa
