/-
  Two lists of values are compared element by element; one walk for each function of this form.
-/
import Derived.Test.YtkkocoalildgnaaAcc
import Derived.Test.YtkkocoalildgnaaRegion2
import Derived.Test.YtkkocoalildgnaaProg
namespace Go.Proofs.Ytkkocoalildgnaa
open Go.RowKit

theorem vlist_ext {rs rs' : List V} (hl : rs.length = rs'.length) (h : ∀ i, i < rs.length → vAt rs i = vAt rs' i) : rs = rs' := by
  apply List.ext_getElem? 
  intro i
  by_cases hi : i < rs.length
  · rw [vAt_get rs i hi, vAt_get rs' i (by omega), h i hi]
  · rw [List.getElem?_eq_none (by omega), List.getElem?_eq_none (by omega)]
theorem V.ne_cases {a b : V} (h : a ≠ b) : a.k ≠ b.k ∨ (a.k = b.k ∧ a.p ≠ b.p) ∨ (a.k = b.k ∧ a.p = b.p ∧ a.q ≠ b.q) ∨ (a.k = b.k ∧ a.p = b.p ∧ a.q = b.q ∧ a.s ≠ b.s) ∨ (a.k = b.k ∧ a.p = b.p ∧ a.q = b.q ∧ a.s = b.s ∧ a.r ≠ b.r) := by
  by_cases h1 : a.k = b.k <;> by_cases h2 : a.p = b.p <;> by_cases h3 : a.q = b.q <;> by_cases h4 : a.s = b.s <;> by_cases h5 : a.r = b.r <;> simp only [h1, h2, h3, h4, h5, ne_eq, not_true_eq_false, not_false_eq_true, and_self, and_true, and_false, or_true, or_false]
  refine h ?_
  cases a; cases b
  simp at h1 h2 h3 h4 h5
  subst h1 h2 h3 h4 h5
  rfl
theorem bytes_ne {a b : ByteArray} (h : a ≠ b) : ¬ a.toList = b.toList := fun e => h (by
  rw [ByteArray.toList_eq, ByteArray.toList_eq] at e
  obtain ⟨⟨x⟩⟩ := a
  obtain ⟨⟨y⟩⟩ := b
  simpa using e)

set_option maxHeartbeats 2000000 in
theorem doc_eq (w : World) (A A' : Option Addr) (rs rs' : List V) (k k' : Nat) (hA : Vs w A rs) (hA' : Vs w A' rs') (hl : rs.length ≤ 1000000) (_hl' : rs'.length ≤ 1000000) :
    Calls Try.prog 38 #[.slice A rs.length k, .slice A' rs'.length k'] w fun e w' => e = .returned (.bool (decide (rs = rs'))) ∧ Chg (fun _ => False) w w' := by
  by_cases hlen : rs.length = rs'.length
  case neg =>
    have hd : decide (rs = rs') = false := by simpa using fun e : rs = rs' => hlen (by rw [e])
    rw [hd]
    have hne : ((rs.length : Int) != (rs'.length : Int)) = true := by rw [bne_iff_ne]; omega
    have hne2 : ((rs.length : Int) == (rs'.length : Int)) = false := by rw [beq_eq_false_iff_ne]; omega
    clear hd
    go_enter Try.func38, Try.ntmps38
    go_wp2
    go_ret
    exact ⟨rfl, Chg.refl _ _⟩
  have hA := hid hA
  have hA' := hid hA'
  have hlen' := hid hlen
  obtain ⟨n, hn⟩ : ∃ n, rs'.length = n := ⟨_, rfl⟩
  rw [hlen, hn]
  have hn1 : Hid (rs.length = n) := hid (by omega)
  have hn2 := hid hn
  have hnl : n ≤ 1000000 := by omega
  clear hlen hn hl _hl'
  go_enter Try.func38, Try.ntmps38
  go_wp2
  go_loopw [5] (fun i wr => ∃ j : Nat, j ≤ n ∧ i = .int .i64 j ∧ Hid (Chg (fun _ => False) w wr) ∧ Hid (∀ i : Nat, i < j → vAt rs i = vAt rs' i)) (fun i _ => n - (intOf i).toNat)
  case atStart => exact ⟨0, Nat.zero_le _, rfl, hid (Chg.refl _ w), hid fun i hi => absurd hi (by omega)⟩
  case round =>
    obtain ⟨j, hj, rfl, hC, hE⟩ := hrel
    by_cases hlt : j < n
    · obtain ⟨b, o, rfl, hb, x0, x1, x2, x3, x4⟩ := Vs.at_ (Rd.chg hA.out hC.out fun _ _ _ h => h) (show j < rs.length by have := hn1.out; omega)
      obtain ⟨b', o', rfl, hb', y0, y1, y2, y3, y4⟩ := Vs.at_ (Rd.chg hA'.out hC.out fun _ _ _ h => h) (show j < rs'.length by have := hn2.out; omega)
      by_cases heq : vAt rs j = vAt rs' j
      · have hE' : Hid (∀ i : Nat, i < j + 1 → vAt rs i = vAt rs' i) := hid fun i hi => by
          by_cases e : i = j
          · subst e; exact heq
          · exact hE.out i (by omega)
        rw [heq] at x0 x1 x2 x3 x4
        clear heq
        go_wp2
        (refine wp_region_rc (id := 6) [.rd [0, 1, 2, 3, 4, 5, 6, 7, 8]] [] [] (fun w' => w' = _) (by kernel_rfl) 26 rfl (by kernel_rfl) (fun _ _ _ _ _ h => h) rfl ?_; refine steps_rdW ?_; apply Exists.intro; refine ⟨?_, ?_⟩; (focus (rintro w' rfl; (iterate 9 (refine stW_step rfl (fun K hK => ?_); go_simp; refine hK _ ?_; clear hK K)); exact stW_nil rfl)); refine steps_end rfl ?_)
        go_wp2
        go_roundw
        case rel => exact ⟨j + 1, by omega, by go_num, hid hC.out.drew, hE'⟩
        case measure => simp [intOf]; omega
      · have hd : Hid (decide (rs = rs') = false) := hid (by simpa using fun e : rs = rs' => heq (by rw [e]))
        have hcs := V.ne_cases heq
        clear heq
        generalize vAt rs j = x at x0 x1 x2 x3 x4 hcs
        generalize vAt rs' j = y at y0 y1 y2 y3 y4 hcs
        obtain ⟨xk, xp, xq, xs, xr⟩ := x
        obtain ⟨yk, yp, yq, ys, yr⟩ := y
        simp only at x0 x1 x2 x3 x4 y0 y1 y2 y3 y4 hcs
        rcases hcs with h | ⟨rfl, h⟩ | ⟨rfl, rfl, h⟩ | ⟨rfl, rfl, rfl, h⟩ | ⟨rfl, rfl, rfl, rfl, h⟩
        · go_wp2
          (refine wp_region_rc (id := 6) [.rd [0, 1, 2, 3, 4, 5, 6, 7, 8]] [] [] (fun w' => w' = _) (by kernel_rfl) 26 rfl (by kernel_rfl) (fun _ _ _ _ _ h => h) rfl ?_; refine steps_rdW ?_; apply Exists.intro; refine ⟨?_, ?_⟩; (focus (rintro w' rfl; (iterate 9 (refine stW_step rfl (fun K hK => ?_); go_simp; refine hK _ ?_; clear hK K)); exact stW_nil rfl)); refine steps_end rfl ?_)
          go_wp2
          go_ret
          exact ⟨by rw [hd.out]; rfl, hC.out.drew⟩
        · go_wp2
          (refine wp_region_rc (id := 6) [.rd [0, 1, 2, 3, 4, 5, 6, 7, 8]] [] [] (fun w' => w' = _) (by kernel_rfl) 26 rfl (by kernel_rfl) (fun _ _ _ _ _ h => h) rfl ?_; refine steps_rdW ?_; apply Exists.intro; refine ⟨?_, ?_⟩; (focus (rintro w' rfl; (iterate 9 (refine stW_step rfl (fun K hK => ?_); go_simp; refine hK _ ?_; clear hK K)); exact stW_nil rfl)); refine steps_end rfl ?_)
          go_wp2
          go_ret
          exact ⟨by rw [hd.out]; rfl, hC.out.drew⟩
        · go_wp2
          (refine wp_region_rc (id := 6) [.rd [0, 1, 2, 3, 4, 5, 6, 7, 8]] [] [] (fun w' => w' = _) (by kernel_rfl) 26 rfl (by kernel_rfl) (fun _ _ _ _ _ h => h) rfl ?_; refine steps_rdW ?_; apply Exists.intro; refine ⟨?_, ?_⟩; (focus (rintro w' rfl; (iterate 9 (refine stW_step rfl (fun K hK => ?_); go_simp; refine hK _ ?_; clear hK K)); exact stW_nil rfl)); refine steps_end rfl ?_)
          go_wp2
          go_ret
          exact ⟨by rw [hd.out]; rfl, hC.out.drew⟩
        · have h := bytes_ne h
          go_wp2
          (refine wp_region_rc (id := 6) [.rd [0, 1, 2, 3, 4, 5, 6, 7, 8]] [] [] (fun w' => w' = _) (by kernel_rfl) 26 rfl (by kernel_rfl) (fun _ _ _ _ _ h => h) rfl ?_; refine steps_rdW ?_; apply Exists.intro; refine ⟨?_, ?_⟩; (focus (rintro w' rfl; (iterate 9 (refine stW_step rfl (fun K hK => ?_); go_simp; refine hK _ ?_; clear hK K)); exact stW_nil rfl)); refine steps_end rfl ?_)
          go_wp2
          go_ret
          exact ⟨by rw [hd.out]; rfl, hC.out.drew⟩
        · go_wp2
          (refine wp_region_rc (id := 6) [.rd [0, 1, 2, 3, 4, 5, 6, 7, 8]] [] [] (fun w' => w' = _) (by kernel_rfl) 26 rfl (by kernel_rfl) (fun _ _ _ _ _ h => h) rfl ?_; refine steps_rdW ?_; apply Exists.intro; refine ⟨?_, ?_⟩; (focus (rintro w' rfl; (iterate 9 (refine stW_step rfl (fun K hK => ?_); go_simp; refine hK _ ?_; clear hK K)); exact stW_nil rfl)); refine steps_end rfl ?_)
          go_wp2
          go_ret
          exact ⟨by rw [hd.out]; rfl, hC.out.drew⟩
    · obtain rfl : j = n := by omega
      have hd : Hid (decide (rs = rs') = true) := hid (by simpa using vlist_ext hlen'.out (fun i hi => hE.out i (by have := hn1.out; omega)))
      go_wp2
      go_ret
      exact ⟨by rw [hd.out]; rfl, hC.out⟩
set_option maxHeartbeats 2000000 in
theorem own_eq (w : World) (A A' : Option Addr) (rs rs' : List V) (k k' : Nat) (hA : Vs w A rs) (hA' : Vs w A' rs') (hl : rs.length ≤ 1000000) (_hl' : rs'.length ≤ 1000000) :
    Calls Try.prog 43 #[.slice A rs.length k, .slice A' rs'.length k'] w fun e w' => e = .returned (.bool (decide (rs = rs'))) ∧ Chg (fun _ => False) w w' := by
  by_cases hlen : rs.length = rs'.length
  case neg =>
    have hd : decide (rs = rs') = false := by simpa using fun e : rs = rs' => hlen (by rw [e])
    rw [hd]
    have hne : ((rs.length : Int) != (rs'.length : Int)) = true := by rw [bne_iff_ne]; omega
    have hne2 : ((rs.length : Int) == (rs'.length : Int)) = false := by rw [beq_eq_false_iff_ne]; omega
    clear hd
    go_enter Try.func43, Try.ntmps43
    go_wp2
    go_ret
    exact ⟨rfl, Chg.refl _ _⟩
  have hA := hid hA
  have hA' := hid hA'
  have hlen' := hid hlen
  obtain ⟨n, hn⟩ : ∃ n, rs'.length = n := ⟨_, rfl⟩
  rw [hlen, hn]
  have hn1 : Hid (rs.length = n) := hid (by omega)
  have hn2 := hid hn
  have hnl : n ≤ 1000000 := by omega
  clear hlen hn hl _hl'
  go_enter Try.func43, Try.ntmps43
  go_wp2
  go_loopw [13] (fun i wr => ∃ j : Nat, j ≤ n ∧ i = .int .i64 j ∧ Hid (Chg (fun _ => False) w wr) ∧ Hid (∀ i : Nat, i < j → vAt rs i = vAt rs' i)) (fun i _ => n - (intOf i).toNat)
  case atStart => exact ⟨0, Nat.zero_le _, rfl, hid (Chg.refl _ w), hid fun i hi => absurd hi (by omega)⟩
  case round =>
    obtain ⟨j, hj, rfl, hC, hE⟩ := hrel
    by_cases hlt : j < n
    · obtain ⟨b, o, rfl, hb, x0, x1, x2, x3, x4⟩ := Vs.at_ (Rd.chg hA.out hC.out fun _ _ _ h => h) (show j < rs.length by have := hn1.out; omega)
      obtain ⟨b', o', rfl, hb', y0, y1, y2, y3, y4⟩ := Vs.at_ (Rd.chg hA'.out hC.out fun _ _ _ h => h) (show j < rs'.length by have := hn2.out; omega)
      by_cases heq : vAt rs j = vAt rs' j
      · have hE' : Hid (∀ i : Nat, i < j + 1 → vAt rs i = vAt rs' i) := hid fun i hi => by
          by_cases e : i = j
          · subst e; exact heq
          · exact hE.out i (by omega)
        rw [heq] at x0 x1 x2 x3 x4
        clear heq
        go_wp2
        (refine wp_region_rc (id := 6) [.rd [0, 1, 2, 3, 4, 5, 6, 7, 8]] [] [] (fun w' => w' = _) (by kernel_rfl) 26 rfl (by kernel_rfl) (fun _ _ _ _ _ h => h) rfl ?_; refine steps_rdW ?_; apply Exists.intro; refine ⟨?_, ?_⟩; (focus (rintro w' rfl; (iterate 9 (refine stW_step rfl (fun K hK => ?_); go_simp; refine hK _ ?_; clear hK K)); exact stW_nil rfl)); refine steps_end rfl ?_)
        go_wp2
        go_roundw
        case rel => exact ⟨j + 1, by omega, by go_num, hid hC.out.drew, hE'⟩
        case measure => simp [intOf]; omega
      · have hd : Hid (decide (rs = rs') = false) := hid (by simpa using fun e : rs = rs' => heq (by rw [e]))
        have hcs := V.ne_cases heq
        clear heq
        generalize vAt rs j = x at x0 x1 x2 x3 x4 hcs
        generalize vAt rs' j = y at y0 y1 y2 y3 y4 hcs
        obtain ⟨xk, xp, xq, xs, xr⟩ := x
        obtain ⟨yk, yp, yq, ys, yr⟩ := y
        simp only at x0 x1 x2 x3 x4 y0 y1 y2 y3 y4 hcs
        rcases hcs with h | ⟨rfl, h⟩ | ⟨rfl, rfl, h⟩ | ⟨rfl, rfl, rfl, h⟩ | ⟨rfl, rfl, rfl, rfl, h⟩
        · go_wp2
          (refine wp_region_rc (id := 6) [.rd [0, 1, 2, 3, 4, 5, 6, 7, 8]] [] [] (fun w' => w' = _) (by kernel_rfl) 26 rfl (by kernel_rfl) (fun _ _ _ _ _ h => h) rfl ?_; refine steps_rdW ?_; apply Exists.intro; refine ⟨?_, ?_⟩; (focus (rintro w' rfl; (iterate 9 (refine stW_step rfl (fun K hK => ?_); go_simp; refine hK _ ?_; clear hK K)); exact stW_nil rfl)); refine steps_end rfl ?_)
          go_wp2
          go_ret
          exact ⟨by rw [hd.out]; rfl, hC.out.drew⟩
        · go_wp2
          (refine wp_region_rc (id := 6) [.rd [0, 1, 2, 3, 4, 5, 6, 7, 8]] [] [] (fun w' => w' = _) (by kernel_rfl) 26 rfl (by kernel_rfl) (fun _ _ _ _ _ h => h) rfl ?_; refine steps_rdW ?_; apply Exists.intro; refine ⟨?_, ?_⟩; (focus (rintro w' rfl; (iterate 9 (refine stW_step rfl (fun K hK => ?_); go_simp; refine hK _ ?_; clear hK K)); exact stW_nil rfl)); refine steps_end rfl ?_)
          go_wp2
          go_ret
          exact ⟨by rw [hd.out]; rfl, hC.out.drew⟩
        · go_wp2
          (refine wp_region_rc (id := 6) [.rd [0, 1, 2, 3, 4, 5, 6, 7, 8]] [] [] (fun w' => w' = _) (by kernel_rfl) 26 rfl (by kernel_rfl) (fun _ _ _ _ _ h => h) rfl ?_; refine steps_rdW ?_; apply Exists.intro; refine ⟨?_, ?_⟩; (focus (rintro w' rfl; (iterate 9 (refine stW_step rfl (fun K hK => ?_); go_simp; refine hK _ ?_; clear hK K)); exact stW_nil rfl)); refine steps_end rfl ?_)
          go_wp2
          go_ret
          exact ⟨by rw [hd.out]; rfl, hC.out.drew⟩
        · have h := bytes_ne h
          go_wp2
          (refine wp_region_rc (id := 6) [.rd [0, 1, 2, 3, 4, 5, 6, 7, 8]] [] [] (fun w' => w' = _) (by kernel_rfl) 26 rfl (by kernel_rfl) (fun _ _ _ _ _ h => h) rfl ?_; refine steps_rdW ?_; apply Exists.intro; refine ⟨?_, ?_⟩; (focus (rintro w' rfl; (iterate 9 (refine stW_step rfl (fun K hK => ?_); go_simp; refine hK _ ?_; clear hK K)); exact stW_nil rfl)); refine steps_end rfl ?_)
          go_wp2
          go_ret
          exact ⟨by rw [hd.out]; rfl, hC.out.drew⟩
        · go_wp2
          (refine wp_region_rc (id := 6) [.rd [0, 1, 2, 3, 4, 5, 6, 7, 8]] [] [] (fun w' => w' = _) (by kernel_rfl) 26 rfl (by kernel_rfl) (fun _ _ _ _ _ h => h) rfl ?_; refine steps_rdW ?_; apply Exists.intro; refine ⟨?_, ?_⟩; (focus (rintro w' rfl; (iterate 9 (refine stW_step rfl (fun K hK => ?_); go_simp; refine hK _ ?_; clear hK K)); exact stW_nil rfl)); refine steps_end rfl ?_)
          go_wp2
          go_ret
          exact ⟨by rw [hd.out]; rfl, hC.out.drew⟩
    · obtain rfl : j = n := by omega
      have hd : Hid (decide (rs = rs') = true) := hid (by simpa using vlist_ext hlen'.out (fun i hi => hE.out i (by have := hn1.out; omega)))
      go_wp2
      go_ret
      exact ⟨by rw [hd.out]; rfl, hC.out⟩
end Go.Proofs.Ytkkocoalildgnaa
