/-
  One call of a script on both tables.
-/
import Derived.Deep.DeepCutAuto
import Derived.Deep.CutBlock
import Derived.Test.YtoelgnjnbelokaaRDuo
namespace Go.Proofs.Ytoelgnjnbelokaa
open Go.RowKit Go.Maps

theorem OpV.box12 {w : World} {b : Nat} {t : TypeId} {x : OpV} (h : Bk w b t x.cs) : w.cell? ⟨b, 0, none⟩ = some (.int .i64 x.kd) ∧ w.cell? ⟨b, 1, none⟩ = some (.int .i64 x.at_) ∧ w.cell? ⟨b, 2, none⟩ = some (.int .i64 x.k.k) ∧ w.cell? ⟨b, 3, none⟩ = some (.int .i64 x.k.p) ∧ w.cell? ⟨b, 4, none⟩ = some (.int .i64 x.k.q) ∧
    w.cell? ⟨b, 5, none⟩ = some (.string x.k.s) ∧ w.cell? ⟨b, 6, none⟩ = some (.int .i64 x.k.r) ∧ w.cell? ⟨b, 7, none⟩ = some (.int .i64 x.v.k) ∧ w.cell? ⟨b, 8, none⟩ = some (.int .i64 x.v.p) ∧ w.cell? ⟨b, 9, none⟩ = some (.int .i64 x.v.q) ∧ w.cell? ⟨b, 10, none⟩ = some (.string x.v.s) ∧ w.cell? ⟨b, 11, none⟩ = some (.int .i64 x.v.r) :=
  ⟨h.cell 0, h.cell 1, h.cell 2, h.cell 3, h.cell 4, h.cell 5, h.cell 6, h.cell 7, h.cell 8, h.cell 9, h.cell 10, h.cell 11⟩
section
variable {w0 w w' : World} {o r j : Nat}
set_option maxRecDepth 100000 in
set_option maxHeartbeats 16000000 in
theorem do_any (h : DuoJ w0 w (fun _ => False) o r j j) (hj : j ≤ 199) (x : OpV) (hw : x.k.wf ∧ x.v.wf) :
    Calls Try.prog 37 #[.pointer (some ⟨o, 0, none⟩), .pointer (some ⟨r, 0, none⟩), .agg #[.int .i64 x.kd, .int .i64 x.at_, .int .i64 x.k.k, .int .i64 x.k.p, .int .i64 x.k.q, .string x.k.s, .int .i64 x.k.r, .int .i64 x.v.k, .int .i64 x.v.p, .int .i64 x.v.q, .string x.v.s, .int .i64 x.v.r]] w fun e w' => ∃ b : Bool, e = .returned (.bool b) ∧ DuoJ w0 w' (fun _ => False) o r (j + 1) (j + 1) := by
  have hX := hid (Bk.new w 28 x.cs)
  have hT := hid (h.alloc (.cells x.cs.toArray 28))
  have hwk := hid hw.1
  clear h hw
  by_cases h1 : x.kd = 1
  · have e1 : (x.kd == 1) = true := by simpa using h1
    clear h1
    have hX1 := hid hX.out.drew
    have hT1 := hid (hT.out.none_ ((Chg.refl (fun _ => False) _).drew))
    clear hT hX
    go_enter Try.func37, Try.ntmps37
    go_wp2_with fail
    refine wp_region_rc (id := 3) [.rd [0, 1, 2, 3, 4, 6, 7, 8, 9, 10], .act 5] [11, 12, 13] [] (fun w' => Bk w' w.heap.size 28 x.cs) (by kernel_rfl) 111 rfl (by kernel_rfl) (fun _ _ _ _ _ h => h) hX1.out ?_
    refine steps_rdW ?_
    apply Exists.intro
    refine ⟨?_, ?_⟩
    focus
      rintro w' hS
      obtain ⟨y0, y1, y2, y3, y4, y5, y6, y7, y8, y9, y10, y11⟩ := OpV.box12 hS
      clear hS
      iterate 10 (refine stW_step rfl (fun K hK => ?_); go_simp; refine hK _ ?_; clear hK K)
      exact stW_nil rfl
    refine steps_act (o := ⟨_, _, _, _, _, _⟩) rfl (fun K2 hK2 => ?_)
    go_wp2_with fail
    refine (hT1.out.set (by omega) hwk.out).mono ?_
    rintro e w2 ⟨y, rfl, hT2', hc2⟩
    have hT2 := hid hT2'
    have hX2 := hid (hX1.out.chg hc2 fun e => e (.inr rfl))
    clear hT2' hc2 hT1 hX1
    go_wp2_with fail
    refine hK2 _ _ hX2.out rfl ?_
    clear hK2 K2
    refine steps_nil (l := [⟨_, _, _, _, _, _⟩, ⟨_, _, _, _, _, _⟩, ⟨_, _, _, _, _, _⟩]) rfl (fun K2 hK2 => ?_)
    go_wp2_with fail
    refine (hT2.out.rset (by omega) x.k x.v).mono ?_
    rintro e w3 ⟨z, rfl, hT3', hc3⟩
    have hT3 := hid (hT3'.forget (E' := fun _ => False) fun _ e => e.elim)
    clear hT3' hc3 hT2
    go_wp2_with fail
    refine hK2 _ _ rfl ?_
    clear hK2 K2
    refine stI_nil ?_
    go_wp2_with fail
    go_ret
    exact ⟨_, rfl, hT3.out⟩
  have e1 : (x.kd == 1) = false := by simpa using h1
  clear h1
  by_cases h2 : x.kd = 2
  · have e2 : (x.kd == 2) = true := by simpa using h2
    clear h2
    have hX1 := hid hX.out.drew
    have hT1 := hid (hT.out.none_ ((Chg.refl (fun _ => False) _).drew))
    clear hT hX
    go_enter Try.func37, Try.ntmps37
    go_wp2_with fail
    refine wp_region_rc (id := 5) [.rd [0, 1, 2, 3, 4, 6, 7, 8, 9, 10], .act 5] [11, 12, 13] [] (fun w' => Bk w' w.heap.size 28 x.cs) (by kernel_rfl) 111 rfl (by kernel_rfl) (fun _ _ _ _ _ h => h) hX1.out ?_
    refine steps_rdW ?_
    apply Exists.intro
    refine ⟨?_, ?_⟩
    focus
      rintro w' hS
      obtain ⟨y0, y1, y2, y3, y4, y5, y6, y7, y8, y9, y10, y11⟩ := OpV.box12 hS
      clear hS
      iterate 10 (refine stW_step rfl (fun K hK => ?_); go_simp; refine hK _ ?_; clear hK K)
      exact stW_nil rfl
    refine steps_act (o := ⟨_, _, _, _, _, _⟩) rfl (fun K2 hK2 => ?_)
    go_wp2_with fail
    refine (hT1.out.insert (by omega) x.at_ x.v).mono ?_
    rintro e w2 ⟨y, rfl, hT2', hc2⟩
    have hT2 := hid hT2'
    have hX2 := hid (hX1.out.chg hc2 fun e => e (.inr rfl))
    clear hT2' hc2 hT1 hX1
    go_wp2_with fail
    refine hK2 _ _ hX2.out rfl ?_
    clear hK2 K2
    refine steps_nil (l := [⟨_, _, _, _, _, _⟩, ⟨_, _, _, _, _, _⟩, ⟨_, _, _, _, _, _⟩]) rfl (fun K2 hK2 => ?_)
    go_wp2_with fail
    refine (hT2.out.rinsert (by omega) x.at_ x.v).mono ?_
    rintro e w3 ⟨z, rfl, hT3', hc3⟩
    have hT3 := hid (hT3'.forget (E' := fun _ => False) fun _ e => e.elim)
    clear hT3' hc3 hT2
    go_wp2_with fail
    refine hK2 _ _ rfl ?_
    clear hK2 K2
    refine stI_nil ?_
    go_wp2_with fail
    go_ret
    exact ⟨_, rfl, hT3.out⟩
  have e2 : (x.kd == 2) = false := by simpa using h2
  clear h2
  by_cases h3 : x.kd = 3
  · have e3 : (x.kd == 3) = true := by simpa using h3
    clear h3
    go_enter Try.func37, Try.ntmps37
    go_wp2_with fail
    refine (hT.out.remove (by omega) x.at_).mono ?_
    rintro e w2 ⟨x1, y1, rfl, hT2', hc2⟩
    have hX2 := hid ((hX.out.chg hc2 fun e => e (.inr rfl)).alloc (.cells x1.cs.toArray 26))
    have hT2 := hid (hT2'.alloc (.cells x1.cs.toArray 26))
    have hA2 := hid (Bk.new w2 26 x1.cs)
    obtain ⟨b1, hb1⟩ : ∃ b1, Hid (w2.heap.size = b1) := ⟨_, hid rfl⟩
    rw [hb1.out] at hT2 hA2
    obtain ⟨z0, z1, -⟩ := OpV.box12 (hX.out.chg hc2 fun e => e (.inr rfl))
    have hzl := (hX.out.chg hc2 fun e => e (.inr rfl)).lt
    clear hT2' hc2 hT hX
    go_wp2_with fail
    refine (hT2.out.rremove (by omega) x.at_).mono ?_
    rintro e w3 ⟨x2, y2, rfl, hT3', hc3⟩
    have hA3 := hid (hA2.out.chg hc3 fun e => e (.inr rfl))
    have hT3 := hid ((hT3'.none_ ((Chg.refl (fun _ => False) w3).alloc (.cells x2.cs.toArray 26))).forget (E' := fun _ => False) fun _ e => e.elim)
    obtain ⟨u0, u1, u2, u3, u4⟩ := V.box hA3.out
    have hul := hA3.out.lt
    have hune : b1 ≠ w3.heap.size := by omega
    have hune2 : w3.heap.size ≠ b1 := by omega
    clear hT3' hc3 hT2 z0 z1 hzl hX2 hA2 hA3
    rw [hb1.out]
    go_upto_region 9 with fail
    go_cut [6] (fun t wx => ∃ b, t = .bool b ∧ Hid (DuoJ w0 wx (fun _ => False) o r (j + 1) (j + 1)))
    case first =>
      by_cases hxx : x1 = x2
      · subst hxx
        go_wp2_with fail
        go_meet
        case rel => exact ⟨_, rfl, hT3⟩
      · have hcs := V.ne_cases hxx
        clear hxx
        obtain ⟨k1, p1, q1, s1, r1⟩ := x1
        obtain ⟨k2, p2, q2, s2, r2⟩ := x2
        simp only at hcs u0 u1 u2 u3 u4
        rcases hcs with h | ⟨rfl, h⟩ | ⟨rfl, rfl, h⟩ | ⟨rfl, rfl, rfl, h⟩ | ⟨rfl, rfl, rfl, rfl, h⟩
        all_goals
          go_wp2_with fail
          all_goals
            go_meet
            case rel => exact ⟨_, rfl, hT3⟩
    case rest =>
      obtain ⟨b, rfl, hT4⟩ := hcut
      go_wp2_with fail
      go_ret
      exact ⟨_, rfl, hT4.out⟩
  have e3 : (x.kd == 3) = false := by simpa using h3
  clear h3
  go_enter Try.func37, Try.ntmps37
  go_wp2_with fail
  refine (hT.out.next (by omega) hwk.out).mono ?_
  rintro e w2 ⟨x1, x2, bb1, y1, rfl, hT2', hc2⟩
  have hT2 := hid (hT2'.none_ (((Chg.refl (fun _ => False) w2).alloc (.cells x1.cs.toArray 26)).alloc (.cells x2.cs.toArray 26)))
  obtain ⟨b1, hb1⟩ : ∃ b1, Hid (w2.heap.size = b1) := ⟨_, hid rfl⟩
  have hA2 : Hid (Bk ((w2.alloc (.cells x1.cs.toArray 26)).alloc (.cells x2.cs.toArray 26)) b1 26 x1.cs) := hid (by rw [← hb1.out]; exact (Bk.new w2 26 x1.cs).alloc _)
  have hB2 : Hid (Bk ((w2.alloc (.cells x1.cs.toArray 26)).alloc (.cells x2.cs.toArray 26)) (b1 + 1) 26 x2.cs) := hid (by rw [← hb1.out]; exact Bk.new_at (w2.alloc (.cells x1.cs.toArray 26)) 26 x2.cs.toArray (w2.heap.size + 1) (by simp))
  obtain ⟨z0, z1, z2, z3, z4, z5, z6, -⟩ := OpV.box12 (hX.out.none_ hc2)
  have hzl := (hX.out.none_ hc2).lt
  clear hT2' hc2 hT hX
  go_wp2_with fail
  refine (hT2.out.rnext (by omega) x.k).mono ?_
  rintro e w3 ⟨v1, v2, bb2, y2, rfl, hT3', hc3⟩
  have hA3 := hid (hA2.out.none_ hc3)
  have hB3 := hid (hB2.out.none_ hc3)
  have hT3 := hid (((hT3'.none_ (((Chg.refl (fun _ => False) w3).alloc (.cells v1.cs.toArray 26)).alloc (.cells v2.cs.toArray 26))).forget (E' := fun _ => False) fun _ e => e.elim).mono (Nat.le_succ j) (Nat.le_succ j))
  obtain ⟨u0, u1, u2, u3, u4⟩ := V.box hA3.out
  have hul := hA3.out.lt
  obtain ⟨n0, n1, n2, n3, n4⟩ := V.box hB3.out
  have hnl := hB3.out.lt
  have hune : b1 ≠ w3.heap.size := by omega
  have hune2 : w3.heap.size ≠ b1 := by omega
  have hune3 : b1 + 1 ≠ w3.heap.size := by omega
  have hune4 : w3.heap.size ≠ b1 + 1 := by omega
  have hune5 : b1 ≠ w3.heap.size + 1 := by omega
  have hune6 : w3.heap.size + 1 ≠ b1 := by omega
  clear hT3' hc3 hT2 z0 z1 z2 z3 z4 z5 z6 hzl hA2 hA3 hB2 hB3
  rw [hb1.out]
  by_cases hxx : x1 = v1
  · subst hxx
    by_cases hyy : x2 = v2
    · subst hyy
      cases bb1
      all_goals
        cases bb2
        all_goals
          go_wp2_with fail
          all_goals
            go_ret
            exact ⟨_, rfl, hT3.out⟩
    · have hcs := V.ne_cases hyy
      clear hyy
      obtain ⟨k1, p1, q1, s1, r1⟩ := x2
      obtain ⟨k2, p2, q2, s2, r2⟩ := v2
      simp only at hcs n0 n1 n2 n3 n4
      rcases hcs with h | ⟨rfl, h⟩ | ⟨rfl, rfl, h⟩ | ⟨rfl, rfl, rfl, h⟩ | ⟨rfl, rfl, rfl, rfl, h⟩
      all_goals
        go_wp2_with fail
        all_goals
          go_ret
          exact ⟨_, rfl, hT3.out⟩
  · have hcs := V.ne_cases hxx
    clear hxx
    obtain ⟨k1, p1, q1, s1, r1⟩ := x1
    obtain ⟨k2, p2, q2, s2, r2⟩ := v1
    simp only at hcs u0 u1 u2 u3 u4
    rcases hcs with h | ⟨rfl, h⟩ | ⟨rfl, rfl, h⟩ | ⟨rfl, rfl, rfl, h⟩ | ⟨rfl, rfl, rfl, rfl, h⟩
    all_goals
      go_wp2_with fail
      all_goals
        go_ret
        exact ⟨_, rfl, hT3.out⟩
end
end Go.Proofs.Ytoelgnjnbelokaa
