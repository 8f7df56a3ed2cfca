/-
  UpvalueApart: the walk.
-/
import Derived.Test.YtjlefkohokcohaaRows2
import Derived.Test.YtjlefkohokcohaaLaws2
import Derived.Test.YtjlefkohokcohaaAcc
import Derived.Test.YtjlefkohokcohaaRegion2
namespace Go.Proofs.Ytjlefkohokcohaa
open Go.RowKit

theorem Try.info42 : (Try.prog.info? 42).map (fun i => (i.zero, i.size, i.bytes)) = some (some (.int .i64 0), 1, 8) := by kernel_rfl

/-- What has been collected of the first j cells. -/
def Acc (w1 wr : World) (L : List Cl) (rs : List V) (m j : Nat) (s f : Value) : Prop :=
  Chg (fun _ => False) w1 wr ∧ OwnR w1 wr 33 5 s j ((upTo (fun i => getV L i rs) j).flatMap V.cs) ∧ OwnR w1 wr 42 1 f j (upTo1 (fun i => .int .i64 (chk L i m)) j)
theorem Acc.zero (w1 : World) (L : List Cl) (rs : List V) (m : Nat) : Acc w1 w1 L rs m 0 (.slice none 0 0) (.slice none 0 0) := ⟨Chg.refl _ _, OwnR.nil _ _ _ _, OwnR.nil _ _ _ _⟩
/-- A value and an error more. -/
theorem Acc.more {w1 wr w2 w4 w5 : World} {L : List Cl} {rs : List V} {m j k2 k3 k4 k5 : Nat} {A2 A3 A4 A5 : Option Addr} {x : V} {c : Int} (h : Acc w1 wr L rs m j (.slice A2 j k2) (.slice A3 j k3)) (hc2 : Chg (fun _ => False) wr w2)
    (hx : getV L j rs = x) (hc : chk L j m = c)
    (hown4 : w4.ownsRow 0 33 5 (.slice A4 (j + 1) k4) (j + 1) ((upTo (fun i => getV L i rs) j).flatMap V.cs ++ x.cs)) (hg4 : ((w2.alloc (.cells x.cs.toArray 33)).alloc (.cells x.cs.toArray 33)).grownBy w4 (Value.slice A2 j k2).ownBlock)
    (hat4 : ∀ k, (Value.slice A4 (j + 1) k4).ownBlock = some k → (Value.slice A2 j k2).ownBlock = some k ∨ k = w2.heap.size + 2)
    (hown5 : w5.ownsRow 0 42 1 (.slice A5 (j + 1) k5) (j + 1) (upTo1 (fun i => .int .i64 (chk L i m)) j ++ [.int .i64 c])) (hg5 : (w4.alloc (.cells #[.int .i64 c] 42)).grownBy w5 (Value.slice A3 j k3).ownBlock)
    (hat5 : ∀ k, (Value.slice A5 (j + 1) k5).ownBlock = some k → (Value.slice A3 j k3).ownBlock = some k ∨ k = w4.heap.size + 1) : Acc w1 w5 L rs m (j + 1) (.slice A4 (j + 1) k4) (.slice A5 (j + 1) k5) := by
  obtain ⟨hC, hS, hF⟩ := h
  subst hx; subst hc
  have e2 : Chg (fun _ => False) wr ((w2.alloc (.cells (getV L j rs).cs.toArray 33)).alloc (.cells (getV L j rs).cs.toArray 33)) := (hc2.alloc _).alloc _
  have hS2 := hS.none_ e2
  have hF2 := hF.none_ e2
  have C4 := hS2.grown (hC.trans_same e2) hg4
  have hF4 := (hF2.other hS2.own (by decide) hg4).alloc (.cells #[.int .i64 (chk L j m)] 42)
  have hz2 : w1.heap.size ≤ w2.heap.size := Nat.le_trans hC.size hc2.size
  have hS4 : OwnR w1 w4 33 5 (.slice A4 (j + 1) k4) (j + 1) ((upTo (fun i => getV L i rs) (j + 1)).flatMap V.cs) := by
    rw [upTo_succ]
    exact hS2.appended hown4 hat4 (by omega)
  have hz4 : w1.heap.size ≤ w4.heap.size := C4.size
  refine ⟨hF4.grown (C4.alloc _) hg5, (hS4.alloc _).other hF4.own (by decide) hg5, ?_⟩
  rw [upTo1_succ]
  exact hF4.appended hown5 hat5 (by omega)
theorem Acc.tc {w1 wr w' : World} {L : List Cl} {rs : List V} {m j : Nat} {s f : Value} {B : Nat} (h : Acc w1 wr L rs m j s f) (hc : TC [68] B wr w') :
    OwnR w1 w' 33 5 s j ((upTo (fun i => getV L i rs) j).flatMap V.cs) ∧ OwnR w1 w' 42 1 f j (upTo1 (fun i => .int .i64 (chk L i m)) j) :=
  ⟨⟨own_tc h.2.1.own hc (by simp), h.2.1.lo⟩, ⟨own_tc h.2.2.own hc (by simp), h.2.2.lo⟩⟩

set_option maxRecDepth 100000 in
set_option maxHeartbeats 4000000 in
theorem apart_true (w : World) (A : Option Addr) (l : List OpV) (k n : Nat) (c : Int) (v : V) (hl : Rd w 8 A l.length (l.flatMap OpV.cs)) (hn : n ≤ 255) :
    Calls Try.prog 7 #[.slice A l.length k, .int .u8 n, .int .i64 c, (.agg #[.int .i64 v.k, .int .i64 v.p, .int .i64 v.q, .string v.s, .int .i64 v.r])] w fun e w' => e = .returned (.bool true) ∧ Below w.heap.size w w' := by
  have hl := hid hl
  have hbox := hid (show Below w.heap.size w (w.alloc (.cells v.cs.toArray 33)) from (Below.refl _ w).alloc (Nat.le_refl _) _)
  by_cases h200 : 200 < l.length
  · go_enter Try.func7, Try.ntmps7
    go_wp2_with (go_at_call 13; refine (lives_true _).mono ?_; rintro e w5 ⟨rfl, hc5⟩; have fin := hid (hbox.out.trans (hc5.mono (by simp))))
    go_ret
    exact ⟨rfl, fin.out⟩
  have hmade := hid (made_at (w.alloc (.cells v.cs.toArray 33)) A l k n (n % 40) rfl hn (hl.out.below hbox.out (Nat.le_refl _)) (by omega))
  have hlt : ¬ (200 : Int) < l.length := by omega
  have hv := hid (Bk.new w 33 v.cs)
  have hm40 : n % 40 ≤ 40 := by omega
  generalize n % 40 = m at hmade hm40
  obtain ⟨i33, hi33, hz33, hs33, hb33⟩ := info_parts Try.info33
  obtain ⟨i42, hi42, hz42, hs42, hb42⟩ := info_parts Try.info42
  go_enter Try.func7, Try.ntmps7
  go_wp2_with fail
  refine hmade.out.mono ?_
  rintro e w1 ⟨B, o, r, L, rs, A1, k1, rfl, hlen', hLl, hBw, hX'⟩
  have hlen := hid hlen'
  have hX := hid hX'
  clear hX' hmade hlen'
  go_wp2_with fail
  go_loopw [12, 13, 14] (fun s f i wr => ∃ j : Nat, j ≤ L.length ∧ i = .int .i64 j ∧ Hid (Acc w1 wr L rs m j s f)) (fun _ _ i _ => L.length - (intOf i).toNat)
  case atStart => exact ⟨0, Nat.zero_le _, rfl, hid (Acc.zero w1 L rs m)⟩
  case round =>
    obtain ⟨j, hj, rfl, hA⟩ := hrel
    obtain ⟨A2, k2, rfl⟩ := hA.out.2.1.form
    obtain ⟨A3, k3, rfl⟩ := hA.out.2.2.form
    have hXr := hid (hX.out.none_ hA.out.1)
    by_cases hlt2 : j < L.length
    · obtain ⟨x, hx⟩ : ∃ x, Hid (getV L j rs = x) := ⟨_, hid rfl⟩
      obtain ⟨c0, hc0⟩ : ∃ c0, Hid (chk L j m = c0) := ⟨_, hid rfl⟩
      go_wp2_with (first
        | (go_at_call 15; refine hXr.out.count.mono ?_; rintro e w' ⟨rfl, rfl⟩)
        | (go_at_call 19; refine (hXr.out.get hXr.out.row hx.out hc0.out).mono ?_; rintro e w2 ⟨rfl, hc2'⟩; have hc2 := hid hc2'; clear hc2')
        | ((with_reducible show wpList _ _ _ ((⟨some 51, _, _, _, _, _⟩ : Oper) :: _) _ _); refine wpList_append_rd (o := ⟨some 51, _, _, _, _, _⟩) rfl (.tmp 48) (.tmp 50) 27 rfl 33 i33 _ 5 48 Try.underlying27 hi33 hz33 hs33 hb33 rfl (by omega) (.slice A2 j k2) j _ rfl (((hA.out.2.1.none_ hc2.out).alloc _).alloc _).own (some ⟨w2.heap.size + 1, 0, none⟩) 1 1 x.cs rfl (Rd.one _ 33 5 x.cs rfl _ (by simp)) (V.ones1 x) (by unfold maxLen; omega) (by omega) (w2.heap.size + 2) (by simp) ?_; intro A4 k4 w4 hown4' hg4' hat4'; have hown4 := hid hown4'; have hg4 := hid hg4'; have hat4 := hid hat4'; clear hown4' hg4' hat4')
        | ((with_reducible show wpList _ _ _ ((⟨some 55, _, _, _, _, _⟩ : Oper) :: _) _ _); refine wpList_append_rd (o := ⟨some 55, _, _, _, _, _⟩) rfl (.tmp 52) (.tmp 54) 57 rfl 42 i42 _ 1 8 Try.underlying57 hi42 hz42 hs42 hb42 rfl (by omega) (.slice A3 j k3) j _ rfl ((((hA.out.2.2.none_ ((hc2.out.alloc _).alloc _)).other (((hA.out.2.1.none_ hc2.out).alloc _).alloc _).own (by decide) hg4.out).alloc _).own) (some ⟨w4.heap.size, 0, none⟩) 1 1 [.int .i64 c0] rfl (Rd.one w4 42 1 [_] rfl _ rfl) (by simp [Value.oneCell']) (by unfold maxLen; omega) (by omega) (w4.heap.size + 1) (by simp) ?_; intro A5 k5 w5 hown5' hg5' hat5'; have fin := hid (hA.out.more hc2.out hx.out hc0.out hown4.out hg4.out hat4.out hown5' hg5' hat5'); clear hown5' hg5' hat5' hown4 hg4 hat4 hA hc2 hx hc0 hXr))
      go_roundw
      case rel => exact ⟨j + 1, by omega, by go_num, fin⟩
      case measure => simp [intOf]; omega
    · obtain rfl : j = L.length := by omega
      have hI := hid hX.out.inv
      obtain ⟨a0, a1, a2, a3, a4⟩ := V.box (hXr.out.bk hv.out hBw)
      go_wp2_with (go_at_call 15; refine hXr.out.count.mono ?_; rintro e w' ⟨rfl, rfl⟩)
      have hA := hid hA.out
      rcases chk_cases L c m with ⟨h6, hr6⟩ | ⟨h6, hr0, hr1⟩ | ⟨h0, hr0, hr1⟩
      · have h6 := hid h6
        refine (hXr.out.set_bad h6.out (by decide)).mono ?_
        rintro e w6 ⟨rfl, hc6⟩
        have hX6 := hid (hXr.out.none_ hc6)
        clear hc6 h6 hXr hX
        by_cases hneg : c < 0
        · clear hr6
          go_wp2_with (go_at_call 13; refine (lives_true _).mono ?_; rintro e w9 ⟨rfl, hc9⟩; have fin := hid (hX6.out.below.trans (hc9.mono hX6.out.hB)))
          go_ret
          exact ⟨rfl, hbox.out.trans (fin.out.mono (by simp at hBw; omega))⟩
        · have hge : (L.length : Int) ≤ c := by omega
          clear hr6
          go_wp2_with (go_at_call 13; refine (lives_true _).mono ?_; rintro e w9 ⟨rfl, hc9⟩; have fin := hid (hX6.out.below.trans (hc9.mono hX6.out.hB)))
          go_ret
          exact ⟨rfl, hbox.out.trans (fin.out.mono (by simp at hBw; omega))⟩
      · have h6 := hid h6
        refine (hXr.out.set_bad h6.out (by decide)).mono ?_
        rintro e w6 ⟨rfl, hc6⟩
        have hX6 := hid (hXr.out.none_ hc6)
        clear hc6 h6 hXr hX
        have hd1 : decide (c < 0) = false := by simp; omega
        have hd2 : decide ((L.length : Int) ≤ c) = false := by simp; omega
        go_wp2_with (go_at_call 13; refine (lives_true _).mono ?_; rintro e w9 ⟨rfl, hc9⟩; have fin := hid (hX6.out.below.trans (hc9.mono hX6.out.hB)))
        go_ret
        exact ⟨rfl, hbox.out.trans (fin.out.mono (by simp at hBw; omega))⟩
      · obtain ⟨ci, rfl⟩ := Int.eq_ofNat_of_zero_le hr0
        have h0 := hid h0
        have hci : ci < L.length := by omega
        clear hr0 hr1
        refine (hXr.out.set_ok hXr.out.row (by omega) v h0.out).mono ?_
        rintro e w6 ⟨A6, k6, rfl, hX6', hO6', hc6⟩
        obtain ⟨hS6', hF6'⟩ := hA.out.tc hc6
        have hX6 := hid hX6'
        have hO6 := hid hO6'
        have hS6 := hid hS6'
        have hF6 := hid hF6'
        have hk6 : Hid (∀ a, chk (setCl L ci v) a m = chk L a m) := hid fun a => chk_setCl hci a m
        have hgs : Hid (getV (setCl L ci v) ci (setRs L ci v rs) = v) := hid (getV_setCl_eq hI.out hci (by rw [hlen.out]; exact h0.out))
        have hgn : Hid (∀ j, j < L.length → j ≠ ci → getV (setCl L ci v) j (setRs L ci v rs) = getV L j rs) := hid fun j hj hne => getV_setCl_ne hI.out hci hj hne
        clear hX6' hO6' hS6' hF6' hc6 hXr hX hA
        go_wp2_with fail
        go_loopw [19] (fun i wq => ∃ j : Nat, j ≤ L.length ∧ i = .int .i64 j ∧ Hid (Chg (fun _ => False) w6 wq)) (fun i _ => L.length - (intOf i).toNat)
        case atStart => exact ⟨0, Nat.zero_le _, rfl, hid (Chg.refl _ _)⟩
        case round =>
          obtain ⟨j, hj2, rfl, hC⟩ := hrel
          have hX7 := hid (hX6.out.none_ hC.out)
          have hO7 := hid (hO6.out.tc (TC.of_none (T := []) (B := B) hC.out) (by simp))
          by_cases hlt2 : j < L.length
          · obtain ⟨bS, rfl, hbS, hS0, s0', s1', s2', s3', s4'⟩ := (hS6.out.none_ hC.out).val_at hlt2
            obtain ⟨bF, rfl, hbF, hF0, f0'⟩ := (hF6.out.none_ hC.out).one_at hlt2
            clear hS0 hF0 s0' s1' s2' s3' s4' f0'
            by_cases hjc : j = ci
            · subst hjc
              go_wp2_with (go_at_call 19; refine (hX7.out.get hO7.out hgs.out ((hk6.out _).trans h0.out)).mono ?_; rintro e w8 ⟨rfl, hc8⟩; have hbS8 : bS < w8.heap.size := Nat.lt_of_lt_of_le hbS hc8.size; have hbF8 : bF < w8.heap.size := Nat.lt_of_lt_of_le hbF hc8.size; obtain ⟨b9, e9, -, -, f0⟩ := (hF6.out.none_ (hC.out.trans_same hc8)).one_at hlt2; injection e9 with e9; injection e9 with e9 _; subst e9; rw [h0.out] at f0; obtain ⟨b0, b1, b2, b3, b4⟩ := V.box ((hX7.out.none_ hc8).bk hv.out hBw); have hlz : w.heap.size < w8.heap.size := ((hX7.out.none_ hc8).bk hv.out hBw).lt; have fin := hid (hC.out.trans_same hc8); clear hc8)
              (refine wp_region_rc (id := 20) [.rd [0, 1, 2, 3, 4, 5, 6, 7, 8, 9, 10, 11, 12, 13, 14, 15, 16, 17, 18, 19, 20, 21, 22, 23, 24, 25, 26, 27, 28]] [] [] (fun w' => w' = _) (by kernel_rfl) 128 rfl (by kernel_rfl) (fun _ _ _ _ _ h => h) rfl ?_; refine steps_rdW ?_; apply Exists.intro; refine ⟨?_, ?_⟩; (focus (rintro w' rfl; (iterate 29 (refine stW_step rfl (fun K hK => ?_); go_simp; refine hK _ ?_; clear hK K)); exact stW_nil rfl)); refine steps_end rfl ?_)
              go_wp2
              go_roundw
              case rel => exact ⟨j + 1, by omega, by go_num, hid ((fin.out.alloc _).drew)⟩
              case measure => simp [intOf]; omega
            · obtain ⟨x, hx⟩ : ∃ x, Hid (getV L j rs = x) := ⟨_, hid rfl⟩
              obtain ⟨c0, hc0⟩ : ∃ c0, Hid (chk L j m = c0) := ⟨_, hid rfl⟩
              go_wp2_with (go_at_call 19; refine (hX7.out.get hO7.out ((hgn.out j hlt2 hjc).trans hx.out) ((hk6.out _).trans hc0.out)).mono ?_; rintro e w8 ⟨rfl, hc8⟩; have hbS8 : bS < w8.heap.size := Nat.lt_of_lt_of_le hbS hc8.size; have hbF8 : bF < w8.heap.size := Nat.lt_of_lt_of_le hbF hc8.size; obtain ⟨b9, e9, -, -, f0⟩ := (hF6.out.none_ (hC.out.trans_same hc8)).one_at hlt2; injection e9 with e9; injection e9 with e9 _; subst e9; rw [hc0.out] at f0; obtain ⟨b9, e9, -, -, s0, s1, s2, s3, s4⟩ := (hS6.out.none_ (hC.out.trans_same hc8)).val_at hlt2; injection e9 with e9; injection e9 with e9 _; subst e9; rw [hx.out] at s0 s1 s2 s3 s4; have fin := hid (hC.out.trans_same hc8); clear hc8 hx hc0)
              have hn1 : ((j : Int) == (ci : Int)) = false := by rw [beq_eq_false_iff_ne]; omega
              have hn2 : ((j : Int) != (ci : Int)) = true := by rw [bne_iff_ne]; omega
              (refine wp_region_rc (id := 20) [.rd [0, 1, 2, 3, 4, 5, 6, 7, 8, 9, 10, 11, 12, 13, 14, 15, 16, 17, 18, 19, 20, 21, 22, 23, 24, 25, 26, 27, 28]] [] [] (fun w' => w' = _) (by kernel_rfl) 128 rfl (by kernel_rfl) (fun _ _ _ _ _ h => h) rfl ?_; refine steps_rdW ?_; apply Exists.intro; refine ⟨?_, ?_⟩; (focus (rintro w' rfl; (iterate 29 (refine stW_step rfl (fun K hK => ?_); go_simp; refine hK _ ?_; clear hK K)); exact stW_nil rfl)); refine steps_end rfl ?_)
              go_wp2
              go_roundw
              case rel => exact ⟨j + 1, by omega, by go_num, hid ((fin.out.alloc _).drew)⟩
              case measure => simp [intOf]; omega
          · obtain rfl : j = L.length := by omega
            go_wp2_with (go_at_call 13; refine (lives_true _).mono ?_; rintro e w9 ⟨rfl, hc9⟩; have fin := hid (hX7.out.below.trans (hc9.mono hX7.out.hB)))
            go_ret
            exact ⟨rfl, hbox.out.trans (fin.out.mono (by simp at hBw; omega))⟩
end Go.Proofs.Ytjlefkohokcohaa
