/-
  The reference's purge: a new map without the keys of the array part.
-/
import Derived.Deep.DeepCutAuto
import Derived.Deep.CutBlock
import Derived.Deep.LoopGhost
import Derived.Test.YtoelgnjnbelokaaRTab
namespace Go.Proofs.Ytoelgnjnbelokaa
open Go.RowKit Go.Maps

theorem inN_whole {q : Nat} {x : V} (hq : (q : Int) ≤ 1000000) : inN q x = true ↔ 1 ≤ wholeI x ∧ wholeI x ≤ (q : Int) := by
  rw [inN_iff]
  unfold wholeI
  by_cases h : isI x = true
  · rw [if_pos h]; simp [h]
  · rw [if_neg h]
    constructor
    · intro e; exact absurd e.1 h
    · intro e; omega
section
variable {w w' : World} {S : Nat → Prop} {N r c : Nat} {a : List V} {m : List Sl}
theorem ROne.keys (h : ROne w S N c m) (hn : m.length ≤ 1000) {x : Nat} (hx : nOf m = x) :
    Calls Try.prog 62 #[.pointer (some ⟨c, 0, none⟩)] w fun e w' => ∃ A k, e = .returned (.slice A x k) ∧ OwnR w w' 26 5 (.slice A x k) x ((keysM m).flatMap V.cs) ∧ Chg (fun _ => False) w w' := by
  obtain ⟨vs, h1, h2⟩ := h
  exact doc_keys h1 hn hx
/-- What stands in region 4. -/
structure PurPk (w0 w : World) (r c : Nat) (S : Nat → Prop) (N : Nat) (m : List Sl) : Prop where
  st : w.cell? ⟨r, 1, none⟩ = some (.pointer (some ⟨c, 0, none⟩))
  ol : r < w.heap.size
  one : ROne w S N c m
  chg : Chg (fun _ => False) w0 w
theorem PurPk.none_ {w0 w w' : World} (h : PurPk w0 w r c S N m) (hc : Chg (fun _ => False) w w') : PurPk w0 w' r c S N m :=
  ⟨(hc.cell (p := ⟨r, 1, none⟩) h.ol id).trans h.st, Nat.lt_of_lt_of_le h.ol hc.size, h.one.none_ hc, h.chg.trans_same hc⟩
/-- The new map on the way. -/
structure RRebSt (w6 w7 : World) (S9 : Nat → Prop) (c9 : Nat) (L : List Sl) : Prop where
  one : ROne w7 S9 w6.heap.size c9 L
  chg : Chg S9 w6 w7
  size : w6.heap.size ≤ w7.heap.size
theorem RRebSt.none_ {w6 w7 w8 : World} {S9 : Nat → Prop} {c9 : Nat} {L : List Sl} (h : RRebSt w6 w7 S9 c9 L) (hc : Chg (fun _ => False) w7 w8) : RRebSt w6 w8 S9 c9 L :=
  ⟨h.one.none_ hc, h.chg.trans hc fun _ _ e => e.elim, Nat.le_trans h.size hc.size⟩
set_option maxRecDepth 100000 in
set_option maxHeartbeats 32000000 in
theorem r_purge (h : RTab w S N r a m) (hN : N ≤ w.heap.size) {lo : Nat} (hlo : 1 ≤ lo) (hla : lo ≤ a.length + 1) (hb : a.length ≤ 100000) (hm3 : m.length ≤ 900) :
    Calls Try.prog 55 #[.pointer (some ⟨r, 0, none⟩), .int .i64 (lo : Int)] w fun e w' => e = .returned (.tuple #[]) ∧ (∃ m', ((m' = m ∧ ∀ i : Nat, lo ≤ i → i ≤ a.length → lastIx m (kI (i : Int)) = none) ∨ m' = keepM a.length m) ∧ RTab w' S N r a m') ∧ Chg (fun k => S k ∨ N ≤ k) w w' := by
  obtain ⟨S', hS', hfix⟩ := h.fix
  have hSS : Hid (∀ k, S' k → k < w.heap.size ∧ (S k ∨ N ≤ k)) := hid hS'
  have hNh := hid hN
  have hbm : Hid (m.length ≤ 1000000) := hid (by omega)
  have hm3h := hid hm3
  obtain ⟨q, hq⟩ : ∃ q, Hid (a.length = q) := ⟨_, hid rfl⟩
  have hq9 : q ≤ 100000 := by rw [← hq.out]; exact hb
  have hlq : lo ≤ q + 1 := by rw [← hq.out]; exact hla
  have hst0 : Hid (RTab w S' w.heap.size r a m ∧ Chg (fun _ => False) w w) := hid ⟨hfix _ _ (Chg.refl _ w), Chg.refl _ w⟩
  have hs0 : Hid (false = staleB m lo (lo - 1)) := hid (staleB_none (by omega)).symm
  clear h hN hS' hfix hb hm3 hla
  go_enter Try.func55, Try.ntmps55
  go_wp2_with fail
  go_loopw [4, 5] (fun s i wr => ∃ (q2 : Nat) (b : Bool), lo ≤ q2 ∧ q2 ≤ q + 1 ∧ s = .bool b ∧ i = .int .i64 (q2 : Int) ∧ Hid (RTab wr S' w.heap.size r a m ∧ Chg (fun _ => False) w wr) ∧ Hid (b = staleB m lo (q2 - 1))) (fun _ i _ => q + 1 - (intOf i).toNat)
  case atStart => exact ⟨lo, false, Nat.le_refl _, hlq, rfl, rfl, hst0, hs0⟩
  case round =>
    obtain ⟨q2, b, hl2, hq2, rfl, rfl, hst, hstB⟩ := hrel
    rename World => wr
    clear hst0 hs0
    obtain ⟨A0, cap0, c8, c0, c1, -, hO8', -⟩ := hst.out.1.cells hq.out
    have hol := hst.out.1.lt
    refine (Classical.em (q2 ≤ q)).elim ?more ?done
    case' more =>
      intro hle
      have t1 : decide ((q2 : Int) ≤ (q : Int)) = true := decide_eq_true (by omega)
      have hPb : Hid (PurPk wr wr r c8 S' w.heap.size m) := hid ⟨c1, hol, hO8', Chg.refl _ wr⟩
      have hP0 := hid (hPb.out.none_ ((Chg.refl (fun _ => False) wr).drew))
      obtain ⟨x1, x2, bb8, e8, hx⟩ : ∃ x1 x2 bb e, Hid (nextM m (kI (q2 : Int)) = (x1, x2, bb, e)) := ⟨_, _, _, _, hid rfl⟩
      clear hO8'
      go_upto_region 4 with fail
      clear c0 c1
      go_cut [9] (fun t wx => t = .int .i64 e8 ∧ Hid (Chg (fun _ => False) wr wx))
      case first =>
          refine wp_region_tree (id := 4) (.rd [0, 1, 2, 3, 4] (.three 5 12 13 (.three 6 12 13 (.wl [7, 8, 9, 10, 11] (.two 12 13 (.one 13 .done) (.one 12 .done))) (.two 6 13 (.wl [7, 8, 9, 10, 11] (.one 13 .done)) (.one 6 (.wl [7, 8, 9, 10, 11] .done))) (.two 6 12 (.wl [7, 8, 9, 10, 11] (.one 12 .done)) (.one 6 (.wl [7, 8, 9, 10, 11] .done)))) (.two 5 13 (.two 6 13 (.wl [7, 8, 9, 10, 11] (.one 13 .done)) (.one 6 (.wl [7, 8, 9, 10, 11] .done))) (.one 5 (.one 6 (.wl [7, 8, 9, 10, 11] .done)))) (.two 5 12 (.two 6 12 (.wl [7, 8, 9, 10, 11] (.one 12 .done)) (.one 6 (.wl [7, 8, 9, 10, 11] .done))) (.one 5 (.one 6 (.wl [7, 8, 9, 10, 11] .done)))))) #[true, true, true, true, true, true, true, true, true, true, true, true, true, true, false, false, false, false] [14, 15, 16, 17] [] (fun w' => w'.cell? ⟨r, 1, none⟩ = some (.pointer (some ⟨c8, 0, none⟩))) (by kernel_rfl) 90 rfl (by kernel_rfl) (fun _ _ _ _ _ h => h) hP0.out.st ?_
          refine tree_rd ?_
          apply Exists.intro
          refine ⟨?_, ?_⟩
          focus
            intro w' c1
            iterate 5 (refine stW_step rfl (fun K hK => ?_); go_simp; refine hK _ ?_; clear hK K)
            exact stW_nil rfl
          refine tree_three (o := ⟨_, _, _, _, _, _⟩) (o' := ⟨_, _, _, _, _, _⟩) (o'' := ⟨_, _, _, _, _, _⟩) rfl rfl rfl (fun K2 hK2 => ?_) (fun K2 hK2 => ?_) (fun K2 hK2 => ?_)
          · have hP1 := hid (hPb.out.none_ (Chg.refl (fun _ => False) wr).drew)
            go_wp2_with fail
            refine (ref_key wr.drew (q2 : Int) (by omega) (by omega)).mono ?_
            rintro e v1 ⟨rfl, hc⟩
            have hQ1 := hid (hP1.out.none_ hc)
            clear hc
            go_wp2_with fail
            refine hK2 _ _ hQ1.out.st rfl ?_
            clear hK2 K2
            refine tree_three (o := ⟨_, _, _, _, _, _⟩) (o' := ⟨_, _, _, _, _, _⟩) (o'' := ⟨_, _, _, _, _, _⟩) rfl rfl rfl (fun K2 hK2 => ?_) (fun K2 hK2 => ?_) (fun K2 hK2 => ?_)
            · have hP2 := hid (hQ1.out.none_ (Chg.refl (fun _ => False) v1))
              go_wp2_with fail
              refine (hP2.out.one.next hbm.out hx.out).mono ?_
              rintro e v2 ⟨rfl, hc⟩
              have hQ2 := hid (hP2.out.none_ hc)
              clear hc
              go_wp2_with fail
              refine hK2 _ _ hQ2.out.st rfl ?_
              clear hK2 K2
              refine tree_wl ?_
              apply Exists.intro
              refine ⟨?_, ?_⟩
              focus
                intro w'
                iterate 5 (refine stW_step rfl (fun K hK => ?_); go_simp; refine hK _ ?_; clear hK K)
                exact stW_nil rfl
              refine tree_two (o := ⟨_, _, _, _, _, _⟩) (o' := ⟨_, _, _, _, _, _⟩) rfl rfl (fun K2 hK2 => ?_) (fun K2 hK2 => ?_)
              · have hP3 := hid (hQ2.out.none_ ((Chg.refl (fun _ => False) v2).alloc (.cells #[.int .i64 0, .int .i64 0, .int .i64 0, .string ⟨#[]⟩, .int .i64 0] 26)))
                go_wp2_with fail
                refine hK2 _ _ hP3.out.st rfl ?_
                clear hK2 K2
                refine tree_one (o := ⟨_, _, _, _, _, _⟩) rfl (fun K2 hK2 => ?_)
                have hP4 := hid (hQ2.out.none_ (((Chg.refl (fun _ => False) v2).alloc (.cells #[.int .i64 0, .int .i64 0, .int .i64 0, .string ⟨#[]⟩, .int .i64 0] 26)).alloc (.cells #[.int .i64 0, .int .i64 0, .int .i64 0, .string ⟨#[]⟩, .int .i64 0] 26)))
                go_wp2_with fail
                refine hK2 _ _ hP4.out.st rfl ?_
                clear hK2 K2
                refine end_mk (l := [⟨_, _, _, _, _, _⟩, ⟨_, _, _, _, _, _⟩, ⟨_, _, _, _, _, _⟩, ⟨_, _, _, _, _, _⟩]) rfl (fun K2 hK2 => ?_)
                go_wp2_with fail
                refine hK2 _ _ rfl ?_
                clear hK2 K2
                refine stI_nil ?_
                go_wp2_with fail
                go_meet
                case rel => exact ⟨rfl, hid ((hQ2.out.chg.alloc (.cells x1.cs.toArray 26)).alloc (.cells x2.cs.toArray 26))⟩
              · have hP6 := hid (hQ2.out.none_ ((Chg.refl (fun _ => False) v2).alloc (.cells #[.int .i64 0, .int .i64 0, .int .i64 0, .string ⟨#[]⟩, .int .i64 0] 26)))
                go_wp2_with fail
                refine hK2 _ _ hP6.out.st rfl ?_
                clear hK2 K2
                refine tree_one (o := ⟨_, _, _, _, _, _⟩) rfl (fun K2 hK2 => ?_)
                have hP7 := hid (hQ2.out.none_ (((Chg.refl (fun _ => False) v2).alloc (.cells #[.int .i64 0, .int .i64 0, .int .i64 0, .string ⟨#[]⟩, .int .i64 0] 26)).alloc (.cells #[.int .i64 0, .int .i64 0, .int .i64 0, .string ⟨#[]⟩, .int .i64 0] 26)))
                go_wp2_with fail
                refine hK2 _ _ hP7.out.st rfl ?_
                clear hK2 K2
                refine end_mk (l := [⟨_, _, _, _, _, _⟩, ⟨_, _, _, _, _, _⟩, ⟨_, _, _, _, _, _⟩, ⟨_, _, _, _, _, _⟩]) rfl (fun K2 hK2 => ?_)
                go_wp2_with fail
                refine hK2 _ _ rfl ?_
                clear hK2 K2
                refine stI_nil ?_
                go_wp2_with fail
                go_meet
                case rel => exact ⟨rfl, hid ((hQ2.out.chg.alloc (.cells x2.cs.toArray 26)).alloc (.cells x1.cs.toArray 26))⟩
            · have hP9 := hid (hQ1.out.none_ ((Chg.refl (fun _ => False) v1).alloc (.cells #[.int .i64 0, .int .i64 0, .int .i64 0, .string ⟨#[]⟩, .int .i64 0] 26)))
              go_wp2_with fail
              refine hK2 _ _ hP9.out.st rfl ?_
              clear hK2 K2
              refine tree_two (o := ⟨_, _, _, _, _, _⟩) (o' := ⟨_, _, _, _, _, _⟩) rfl rfl (fun K2 hK2 => ?_) (fun K2 hK2 => ?_)
              · have hP10 := hid (hQ1.out.none_ ((Chg.refl (fun _ => False) v1).alloc (.cells #[.int .i64 0, .int .i64 0, .int .i64 0, .string ⟨#[]⟩, .int .i64 0] 26)))
                go_wp2_with fail
                refine (hP10.out.one.next hbm.out hx.out).mono ?_
                rintro e v10 ⟨rfl, hc⟩
                have hQ10 := hid (hP10.out.none_ hc)
                have hX10_12 := hid ((show Bk (v1.alloc (.cells #[.int .i64 0, .int .i64 0, .int .i64 0, .string ⟨#[]⟩, .int .i64 0] 26)) v1.heap.size 26 V.zero.cs from (Bk.new v1 26 V.zero.cs)).none_ hc)
                clear hc
                go_wp2_with fail
                refine hK2 _ _ hQ10.out.st rfl ?_
                clear hK2 K2
                refine tree_wl ?_
                apply Exists.intro
                refine ⟨?_, ?_⟩
                focus
                  intro w'
                  iterate 5 (refine stW_step rfl (fun K hK => ?_); go_simp; refine hK _ ?_; clear hK K)
                  exact stW_nil rfl
                refine tree_one (o := ⟨_, _, _, _, _, _⟩) rfl (fun K2 hK2 => ?_)
                have hP11 := hid (hQ10.out.none_ ((Chg.refl (fun _ => False) v10).alloc (.cells #[.int .i64 0, .int .i64 0, .int .i64 0, .string ⟨#[]⟩, .int .i64 0] 26)))
                go_wp2_with fail
                refine hK2 _ _ hP11.out.st rfl ?_
                clear hK2 K2
                obtain ⟨z12_0, z12_1, z12_2, z12_3, z12_4⟩ := V.box hX10_12.out
                have zl12 := hX10_12.out.lt
                have zf12 := fun j => hX10_12.out.frozen j
                simp only [V.zero] at z12_0 z12_1 z12_2 z12_3 z12_4
                refine end_mk (l := [⟨_, _, _, _, _, _⟩, ⟨_, _, _, _, _, _⟩, ⟨_, _, _, _, _, _⟩, ⟨_, _, _, _, _, _⟩]) rfl (fun K2 hK2 => ?_)
                go_wp2_with fail
                refine hK2 _ _ rfl ?_
                clear hK2 K2
                refine stI_nil ?_
                go_wp2_with fail
                go_meet
                case rel => exact ⟨rfl, hid ((hQ10.out.chg.trans (put5_chg _ v1.heap.size 0 x1) fun j hj e => by have := hQ1.out.chg.size; omega).alloc (.cells x2.cs.toArray 26))⟩
              · have hP13 := hid (hQ1.out.none_ (((Chg.refl (fun _ => False) v1).alloc (.cells #[.int .i64 0, .int .i64 0, .int .i64 0, .string ⟨#[]⟩, .int .i64 0] 26)).alloc (.cells #[.int .i64 0, .int .i64 0, .int .i64 0, .string ⟨#[]⟩, .int .i64 0] 26)))
                go_wp2_with fail
                refine hK2 _ _ hP13.out.st rfl ?_
                clear hK2 K2
                refine tree_one (o := ⟨_, _, _, _, _, _⟩) rfl (fun K2 hK2 => ?_)
                have hP14 := hid (hQ1.out.none_ (((Chg.refl (fun _ => False) v1).alloc (.cells #[.int .i64 0, .int .i64 0, .int .i64 0, .string ⟨#[]⟩, .int .i64 0] 26)).alloc (.cells #[.int .i64 0, .int .i64 0, .int .i64 0, .string ⟨#[]⟩, .int .i64 0] 26)))
                go_wp2_with fail
                refine (hP14.out.one.next hbm.out hx.out).mono ?_
                rintro e v14 ⟨rfl, hc⟩
                have hQ14 := hid (hP14.out.none_ hc)
                have hX14_12 := hid ((show Bk ((v1.alloc (.cells #[.int .i64 0, .int .i64 0, .int .i64 0, .string ⟨#[]⟩, .int .i64 0] 26)).alloc (.cells #[.int .i64 0, .int .i64 0, .int .i64 0, .string ⟨#[]⟩, .int .i64 0] 26)) v1.heap.size 26 V.zero.cs from ((Bk.new v1 26 V.zero.cs).alloc (.cells #[.int .i64 0, .int .i64 0, .int .i64 0, .string ⟨#[]⟩, .int .i64 0] 26))).none_ hc)
                have hX14_13 := hid ((show Bk ((v1.alloc (.cells #[.int .i64 0, .int .i64 0, .int .i64 0, .string ⟨#[]⟩, .int .i64 0] 26)).alloc (.cells #[.int .i64 0, .int .i64 0, .int .i64 0, .string ⟨#[]⟩, .int .i64 0] 26)) (v1.heap.size + 1) 26 V.zero.cs from (Bk.new_at (v1.alloc (.cells #[.int .i64 0, .int .i64 0, .int .i64 0, .string ⟨#[]⟩, .int .i64 0] 26)) 26 V.zero.cs.toArray (v1.heap.size + 1) (by simp))).none_ hc)
                clear hc
                go_wp2_with fail
                refine hK2 _ _ hQ14.out.st rfl ?_
                clear hK2 K2
                refine tree_wl ?_
                apply Exists.intro
                refine ⟨?_, ?_⟩
                focus
                  intro w'
                  iterate 5 (refine stW_step rfl (fun K hK => ?_); go_simp; refine hK _ ?_; clear hK K)
                  exact stW_nil rfl
                obtain ⟨z12_0, z12_1, z12_2, z12_3, z12_4⟩ := V.box hX14_12.out
                have zl12 := hX14_12.out.lt
                have zf12 := fun j => hX14_12.out.frozen j
                simp only [V.zero] at z12_0 z12_1 z12_2 z12_3 z12_4
                obtain ⟨z13_0, z13_1, z13_2, z13_3, z13_4⟩ := V.box hX14_13.out
                have zl13 := hX14_13.out.lt
                have zf13 := fun j => hX14_13.out.frozen j
                simp only [V.zero] at z13_0 z13_1 z13_2 z13_3 z13_4
                refine end_mk (l := [⟨_, _, _, _, _, _⟩, ⟨_, _, _, _, _, _⟩, ⟨_, _, _, _, _, _⟩, ⟨_, _, _, _, _, _⟩]) rfl (fun K2 hK2 => ?_)
                go_wp2_with fail
                refine hK2 _ _ rfl ?_
                clear hK2 K2
                refine stI_nil ?_
                go_wp2_with fail
                go_meet
                case rel => exact ⟨rfl, hid ((hQ14.out.chg.trans (put5_chg _ v1.heap.size 0 x1) fun j hj e => by have := hQ1.out.chg.size; omega).trans (put5_chg _ (v1.heap.size + 1) 0 x2) fun j hj e => by have := hQ1.out.chg.size; omega)⟩
            · have hP16 := hid (hQ1.out.none_ ((Chg.refl (fun _ => False) v1).alloc (.cells #[.int .i64 0, .int .i64 0, .int .i64 0, .string ⟨#[]⟩, .int .i64 0] 26)))
              go_wp2_with fail
              refine hK2 _ _ hP16.out.st rfl ?_
              clear hK2 K2
              refine tree_two (o := ⟨_, _, _, _, _, _⟩) (o' := ⟨_, _, _, _, _, _⟩) rfl rfl (fun K2 hK2 => ?_) (fun K2 hK2 => ?_)
              · have hP17 := hid (hQ1.out.none_ ((Chg.refl (fun _ => False) v1).alloc (.cells #[.int .i64 0, .int .i64 0, .int .i64 0, .string ⟨#[]⟩, .int .i64 0] 26)))
                go_wp2_with fail
                refine (hP17.out.one.next hbm.out hx.out).mono ?_
                rintro e v17 ⟨rfl, hc⟩
                have hQ17 := hid (hP17.out.none_ hc)
                have hX17_13 := hid ((show Bk (v1.alloc (.cells #[.int .i64 0, .int .i64 0, .int .i64 0, .string ⟨#[]⟩, .int .i64 0] 26)) v1.heap.size 26 V.zero.cs from (Bk.new v1 26 V.zero.cs)).none_ hc)
                clear hc
                go_wp2_with fail
                refine hK2 _ _ hQ17.out.st rfl ?_
                clear hK2 K2
                refine tree_wl ?_
                apply Exists.intro
                refine ⟨?_, ?_⟩
                focus
                  intro w'
                  iterate 5 (refine stW_step rfl (fun K hK => ?_); go_simp; refine hK _ ?_; clear hK K)
                  exact stW_nil rfl
                refine tree_one (o := ⟨_, _, _, _, _, _⟩) rfl (fun K2 hK2 => ?_)
                have hP18 := hid (hQ17.out.none_ ((Chg.refl (fun _ => False) v17).alloc (.cells #[.int .i64 0, .int .i64 0, .int .i64 0, .string ⟨#[]⟩, .int .i64 0] 26)))
                go_wp2_with fail
                refine hK2 _ _ hP18.out.st rfl ?_
                clear hK2 K2
                obtain ⟨z13_0, z13_1, z13_2, z13_3, z13_4⟩ := V.box hX17_13.out
                have zl13 := hX17_13.out.lt
                have zf13 := fun j => hX17_13.out.frozen j
                simp only [V.zero] at z13_0 z13_1 z13_2 z13_3 z13_4
                refine end_mk (l := [⟨_, _, _, _, _, _⟩, ⟨_, _, _, _, _, _⟩, ⟨_, _, _, _, _, _⟩, ⟨_, _, _, _, _, _⟩]) rfl (fun K2 hK2 => ?_)
                go_wp2_with fail
                refine hK2 _ _ rfl ?_
                clear hK2 K2
                refine stI_nil ?_
                go_wp2_with fail
                go_meet
                case rel => exact ⟨rfl, hid ((hQ17.out.chg.trans (put5_chg _ v1.heap.size 0 x2) fun j hj e => by have := hQ1.out.chg.size; omega).alloc (.cells x1.cs.toArray 26))⟩
              · have hP20 := hid (hQ1.out.none_ (((Chg.refl (fun _ => False) v1).alloc (.cells #[.int .i64 0, .int .i64 0, .int .i64 0, .string ⟨#[]⟩, .int .i64 0] 26)).alloc (.cells #[.int .i64 0, .int .i64 0, .int .i64 0, .string ⟨#[]⟩, .int .i64 0] 26)))
                go_wp2_with fail
                refine hK2 _ _ hP20.out.st rfl ?_
                clear hK2 K2
                refine tree_one (o := ⟨_, _, _, _, _, _⟩) rfl (fun K2 hK2 => ?_)
                have hP21 := hid (hQ1.out.none_ (((Chg.refl (fun _ => False) v1).alloc (.cells #[.int .i64 0, .int .i64 0, .int .i64 0, .string ⟨#[]⟩, .int .i64 0] 26)).alloc (.cells #[.int .i64 0, .int .i64 0, .int .i64 0, .string ⟨#[]⟩, .int .i64 0] 26)))
                go_wp2_with fail
                refine (hP21.out.one.next hbm.out hx.out).mono ?_
                rintro e v21 ⟨rfl, hc⟩
                have hQ21 := hid (hP21.out.none_ hc)
                have hX21_13 := hid ((show Bk ((v1.alloc (.cells #[.int .i64 0, .int .i64 0, .int .i64 0, .string ⟨#[]⟩, .int .i64 0] 26)).alloc (.cells #[.int .i64 0, .int .i64 0, .int .i64 0, .string ⟨#[]⟩, .int .i64 0] 26)) v1.heap.size 26 V.zero.cs from ((Bk.new v1 26 V.zero.cs).alloc (.cells #[.int .i64 0, .int .i64 0, .int .i64 0, .string ⟨#[]⟩, .int .i64 0] 26))).none_ hc)
                have hX21_12 := hid ((show Bk ((v1.alloc (.cells #[.int .i64 0, .int .i64 0, .int .i64 0, .string ⟨#[]⟩, .int .i64 0] 26)).alloc (.cells #[.int .i64 0, .int .i64 0, .int .i64 0, .string ⟨#[]⟩, .int .i64 0] 26)) (v1.heap.size + 1) 26 V.zero.cs from (Bk.new_at (v1.alloc (.cells #[.int .i64 0, .int .i64 0, .int .i64 0, .string ⟨#[]⟩, .int .i64 0] 26)) 26 V.zero.cs.toArray (v1.heap.size + 1) (by simp))).none_ hc)
                clear hc
                go_wp2_with fail
                refine hK2 _ _ hQ21.out.st rfl ?_
                clear hK2 K2
                refine tree_wl ?_
                apply Exists.intro
                refine ⟨?_, ?_⟩
                focus
                  intro w'
                  iterate 5 (refine stW_step rfl (fun K hK => ?_); go_simp; refine hK _ ?_; clear hK K)
                  exact stW_nil rfl
                obtain ⟨z12_0, z12_1, z12_2, z12_3, z12_4⟩ := V.box hX21_12.out
                have zl12 := hX21_12.out.lt
                have zf12 := fun j => hX21_12.out.frozen j
                simp only [V.zero] at z12_0 z12_1 z12_2 z12_3 z12_4
                obtain ⟨z13_0, z13_1, z13_2, z13_3, z13_4⟩ := V.box hX21_13.out
                have zl13 := hX21_13.out.lt
                have zf13 := fun j => hX21_13.out.frozen j
                simp only [V.zero] at z13_0 z13_1 z13_2 z13_3 z13_4
                refine end_mk (l := [⟨_, _, _, _, _, _⟩, ⟨_, _, _, _, _, _⟩, ⟨_, _, _, _, _, _⟩, ⟨_, _, _, _, _, _⟩]) rfl (fun K2 hK2 => ?_)
                go_wp2_with fail
                refine hK2 _ _ rfl ?_
                clear hK2 K2
                refine stI_nil ?_
                go_wp2_with fail
                go_meet
                case rel => exact ⟨rfl, hid ((hQ21.out.chg.trans (put5_chg _ (v1.heap.size + 1) 0 x1) fun j hj e => by have := hQ1.out.chg.size; omega).trans (put5_chg _ v1.heap.size 0 x2) fun j hj e => by have := hQ1.out.chg.size; omega)⟩
          · have hP23 := hid (hPb.out.none_ ((Chg.refl (fun _ => False) wr).alloc (.cells #[.int .i64 0, .int .i64 0, .int .i64 0, .string ⟨#[]⟩, .int .i64 0] 26)).drew)
            go_wp2_with fail
            refine hK2 _ _ hP23.out.st rfl ?_
            clear hK2 K2
            refine tree_two (o := ⟨_, _, _, _, _, _⟩) (o' := ⟨_, _, _, _, _, _⟩) rfl rfl (fun K2 hK2 => ?_) (fun K2 hK2 => ?_)
            · have hP24 := hid (hPb.out.none_ ((Chg.refl (fun _ => False) wr).alloc (.cells #[.int .i64 0, .int .i64 0, .int .i64 0, .string ⟨#[]⟩, .int .i64 0] 26)).drew)
              go_wp2_with fail
              refine (ref_key (wr.alloc (.cells #[.int .i64 0, .int .i64 0, .int .i64 0, .string ⟨#[]⟩, .int .i64 0] 26)).drew (q2 : Int) (by omega) (by omega)).mono ?_
              rintro e v24 ⟨rfl, hc⟩
              have hQ24 := hid (hP24.out.none_ hc)
              have hX24_12 := hid ((show Bk (wr.alloc (.cells #[.int .i64 0, .int .i64 0, .int .i64 0, .string ⟨#[]⟩, .int .i64 0] 26)).drew wr.heap.size 26 V.zero.cs from (Bk.new wr 26 V.zero.cs).drew).none_ hc)
              clear hc
              go_wp2_with fail
              refine hK2 _ _ hQ24.out.st rfl ?_
              clear hK2 K2
              refine tree_two (o := ⟨_, _, _, _, _, _⟩) (o' := ⟨_, _, _, _, _, _⟩) rfl rfl (fun K2 hK2 => ?_) (fun K2 hK2 => ?_)
              · have hP25 := hid (hQ24.out.none_ (Chg.refl (fun _ => False) v24))
                go_wp2_with fail
                refine (hP25.out.one.next hbm.out hx.out).mono ?_
                rintro e v25 ⟨rfl, hc⟩
                have hQ25 := hid (hP25.out.none_ hc)
                have hX25_12 := hid ((hX24_12.out.none_ (Chg.refl (fun _ => False) v24)).none_ hc)
                clear hc
                go_wp2_with fail
                refine hK2 _ _ hQ25.out.st rfl ?_
                clear hK2 K2
                refine tree_wl ?_
                apply Exists.intro
                refine ⟨?_, ?_⟩
                focus
                  intro w'
                  iterate 5 (refine stW_step rfl (fun K hK => ?_); go_simp; refine hK _ ?_; clear hK K)
                  exact stW_nil rfl
                refine tree_one (o := ⟨_, _, _, _, _, _⟩) rfl (fun K2 hK2 => ?_)
                have hP26 := hid (hQ25.out.none_ ((Chg.refl (fun _ => False) v25).alloc (.cells #[.int .i64 0, .int .i64 0, .int .i64 0, .string ⟨#[]⟩, .int .i64 0] 26)))
                go_wp2_with fail
                refine hK2 _ _ hP26.out.st rfl ?_
                clear hK2 K2
                obtain ⟨z12_0, z12_1, z12_2, z12_3, z12_4⟩ := V.box hX25_12.out
                have zl12 := hX25_12.out.lt
                have zf12 := fun j => hX25_12.out.frozen j
                simp only [V.zero] at z12_0 z12_1 z12_2 z12_3 z12_4
                refine end_mk (l := [⟨_, _, _, _, _, _⟩, ⟨_, _, _, _, _, _⟩, ⟨_, _, _, _, _, _⟩, ⟨_, _, _, _, _, _⟩]) rfl (fun K2 hK2 => ?_)
                go_wp2_with fail
                refine hK2 _ _ rfl ?_
                clear hK2 K2
                refine stI_nil ?_
                go_wp2_with fail
                go_meet
                case rel => exact ⟨rfl, hid ((hQ25.out.chg.trans (put5_chg _ wr.heap.size 0 x1) fun j hj e => by have := hPb.out.chg.size; omega).alloc (.cells x2.cs.toArray 26))⟩
              · have hP28 := hid (hQ24.out.none_ ((Chg.refl (fun _ => False) v24).alloc (.cells #[.int .i64 0, .int .i64 0, .int .i64 0, .string ⟨#[]⟩, .int .i64 0] 26)))
                go_wp2_with fail
                refine hK2 _ _ hP28.out.st rfl ?_
                clear hK2 K2
                refine tree_one (o := ⟨_, _, _, _, _, _⟩) rfl (fun K2 hK2 => ?_)
                have hP29 := hid (hQ24.out.none_ ((Chg.refl (fun _ => False) v24).alloc (.cells #[.int .i64 0, .int .i64 0, .int .i64 0, .string ⟨#[]⟩, .int .i64 0] 26)))
                go_wp2_with fail
                refine (hP29.out.one.next hbm.out hx.out).mono ?_
                rintro e v29 ⟨rfl, hc⟩
                have hQ29 := hid (hP29.out.none_ hc)
                have hX29_12 := hid ((hX24_12.out.none_ ((Chg.refl (fun _ => False) v24).alloc (.cells #[.int .i64 0, .int .i64 0, .int .i64 0, .string ⟨#[]⟩, .int .i64 0] 26))).none_ hc)
                have hX29_13 := hid ((show Bk (v24.alloc (.cells #[.int .i64 0, .int .i64 0, .int .i64 0, .string ⟨#[]⟩, .int .i64 0] 26)) v24.heap.size 26 V.zero.cs from (Bk.new v24 26 V.zero.cs)).none_ hc)
                clear hc
                go_wp2_with fail
                refine hK2 _ _ hQ29.out.st rfl ?_
                clear hK2 K2
                refine tree_wl ?_
                apply Exists.intro
                refine ⟨?_, ?_⟩
                focus
                  intro w'
                  iterate 5 (refine stW_step rfl (fun K hK => ?_); go_simp; refine hK _ ?_; clear hK K)
                  exact stW_nil rfl
                obtain ⟨z12_0, z12_1, z12_2, z12_3, z12_4⟩ := V.box hX29_12.out
                have zl12 := hX29_12.out.lt
                have zf12 := fun j => hX29_12.out.frozen j
                simp only [V.zero] at z12_0 z12_1 z12_2 z12_3 z12_4
                obtain ⟨z13_0, z13_1, z13_2, z13_3, z13_4⟩ := V.box hX29_13.out
                have zl13 := hX29_13.out.lt
                have zf13 := fun j => hX29_13.out.frozen j
                simp only [V.zero] at z13_0 z13_1 z13_2 z13_3 z13_4
                have zne : wr.heap.size < v24.heap.size := hX24_12.out.lt
                have zn1 : wr.heap.size ≠ v24.heap.size := Nat.ne_of_lt zne
                have zn2 : v24.heap.size ≠ wr.heap.size := Ne.symm zn1
                refine end_mk (l := [⟨_, _, _, _, _, _⟩, ⟨_, _, _, _, _, _⟩, ⟨_, _, _, _, _, _⟩, ⟨_, _, _, _, _, _⟩]) rfl (fun K2 hK2 => ?_)
                go_wp2_with fail
                refine hK2 _ _ rfl ?_
                clear hK2 K2
                refine stI_nil ?_
                go_wp2_with fail
                go_meet
                case rel => exact ⟨rfl, hid ((hQ29.out.chg.trans (put5_chg _ wr.heap.size 0 x1) fun j hj e => by have := hPb.out.chg.size; omega).trans (put5_chg _ v24.heap.size 0 x2) fun j hj e => by have := hQ24.out.chg.size; omega)⟩
            · have hP31 := hid (hPb.out.none_ (((Chg.refl (fun _ => False) wr).alloc (.cells #[.int .i64 0, .int .i64 0, .int .i64 0, .string ⟨#[]⟩, .int .i64 0] 26)).alloc (.cells #[.int .i64 0, .int .i64 0, .int .i64 0, .string ⟨#[]⟩, .int .i64 0] 26)).drew)
              go_wp2_with fail
              refine hK2 _ _ hP31.out.st rfl ?_
              clear hK2 K2
              refine tree_one (o := ⟨_, _, _, _, _, _⟩) rfl (fun K2 hK2 => ?_)
              have hP32 := hid (hPb.out.none_ (((Chg.refl (fun _ => False) wr).alloc (.cells #[.int .i64 0, .int .i64 0, .int .i64 0, .string ⟨#[]⟩, .int .i64 0] 26)).alloc (.cells #[.int .i64 0, .int .i64 0, .int .i64 0, .string ⟨#[]⟩, .int .i64 0] 26)).drew)
              go_wp2_with fail
              refine (ref_key ((wr.alloc (.cells #[.int .i64 0, .int .i64 0, .int .i64 0, .string ⟨#[]⟩, .int .i64 0] 26)).alloc (.cells #[.int .i64 0, .int .i64 0, .int .i64 0, .string ⟨#[]⟩, .int .i64 0] 26)).drew (q2 : Int) (by omega) (by omega)).mono ?_
              rintro e v32 ⟨rfl, hc⟩
              have hQ32 := hid (hP32.out.none_ hc)
              have hX32_12 := hid ((show Bk ((wr.alloc (.cells #[.int .i64 0, .int .i64 0, .int .i64 0, .string ⟨#[]⟩, .int .i64 0] 26)).alloc (.cells #[.int .i64 0, .int .i64 0, .int .i64 0, .string ⟨#[]⟩, .int .i64 0] 26)).drew wr.heap.size 26 V.zero.cs from ((Bk.new wr 26 V.zero.cs).alloc (.cells #[.int .i64 0, .int .i64 0, .int .i64 0, .string ⟨#[]⟩, .int .i64 0] 26)).drew).none_ hc)
              have hX32_13 := hid ((show Bk ((wr.alloc (.cells #[.int .i64 0, .int .i64 0, .int .i64 0, .string ⟨#[]⟩, .int .i64 0] 26)).alloc (.cells #[.int .i64 0, .int .i64 0, .int .i64 0, .string ⟨#[]⟩, .int .i64 0] 26)).drew (wr.heap.size + 1) 26 V.zero.cs from (Bk.new_at (wr.alloc (.cells #[.int .i64 0, .int .i64 0, .int .i64 0, .string ⟨#[]⟩, .int .i64 0] 26)) 26 V.zero.cs.toArray (wr.heap.size + 1) (by simp)).drew).none_ hc)
              clear hc
              go_wp2_with fail
              refine hK2 _ _ hQ32.out.st rfl ?_
              clear hK2 K2
              refine tree_one (o := ⟨_, _, _, _, _, _⟩) rfl (fun K2 hK2 => ?_)
              have hP33 := hid (hQ32.out.none_ (Chg.refl (fun _ => False) v32))
              go_wp2_with fail
              refine (hP33.out.one.next hbm.out hx.out).mono ?_
              rintro e v33 ⟨rfl, hc⟩
              have hQ33 := hid (hP33.out.none_ hc)
              have hX33_12 := hid ((hX32_12.out.none_ (Chg.refl (fun _ => False) v32)).none_ hc)
              have hX33_13 := hid ((hX32_13.out.none_ (Chg.refl (fun _ => False) v32)).none_ hc)
              clear hc
              go_wp2_with fail
              refine hK2 _ _ hQ33.out.st rfl ?_
              clear hK2 K2
              refine tree_wl ?_
              apply Exists.intro
              refine ⟨?_, ?_⟩
              focus
                intro w'
                iterate 5 (refine stW_step rfl (fun K hK => ?_); go_simp; refine hK _ ?_; clear hK K)
                exact stW_nil rfl
              obtain ⟨z12_0, z12_1, z12_2, z12_3, z12_4⟩ := V.box hX33_12.out
              have zl12 := hX33_12.out.lt
              have zf12 := fun j => hX33_12.out.frozen j
              simp only [V.zero] at z12_0 z12_1 z12_2 z12_3 z12_4
              obtain ⟨z13_0, z13_1, z13_2, z13_3, z13_4⟩ := V.box hX33_13.out
              have zl13 := hX33_13.out.lt
              have zf13 := fun j => hX33_13.out.frozen j
              simp only [V.zero] at z13_0 z13_1 z13_2 z13_3 z13_4
              refine end_mk (l := [⟨_, _, _, _, _, _⟩, ⟨_, _, _, _, _, _⟩, ⟨_, _, _, _, _, _⟩, ⟨_, _, _, _, _, _⟩]) rfl (fun K2 hK2 => ?_)
              go_wp2_with fail
              refine hK2 _ _ rfl ?_
              clear hK2 K2
              refine stI_nil ?_
              go_wp2_with fail
              go_meet
              case rel => exact ⟨rfl, hid ((hQ33.out.chg.trans (put5_chg _ wr.heap.size 0 x1) fun j hj e => by have := hPb.out.chg.size; omega).trans (put5_chg _ (wr.heap.size + 1) 0 x2) fun j hj e => by have := hPb.out.chg.size; omega)⟩
          · have hP35 := hid (hPb.out.none_ ((Chg.refl (fun _ => False) wr).alloc (.cells #[.int .i64 0, .int .i64 0, .int .i64 0, .string ⟨#[]⟩, .int .i64 0] 26)).drew)
            go_wp2_with fail
            refine hK2 _ _ hP35.out.st rfl ?_
            clear hK2 K2
            refine tree_two (o := ⟨_, _, _, _, _, _⟩) (o' := ⟨_, _, _, _, _, _⟩) rfl rfl (fun K2 hK2 => ?_) (fun K2 hK2 => ?_)
            · have hP36 := hid (hPb.out.none_ ((Chg.refl (fun _ => False) wr).alloc (.cells #[.int .i64 0, .int .i64 0, .int .i64 0, .string ⟨#[]⟩, .int .i64 0] 26)).drew)
              go_wp2_with fail
              refine (ref_key (wr.alloc (.cells #[.int .i64 0, .int .i64 0, .int .i64 0, .string ⟨#[]⟩, .int .i64 0] 26)).drew (q2 : Int) (by omega) (by omega)).mono ?_
              rintro e v36 ⟨rfl, hc⟩
              have hQ36 := hid (hP36.out.none_ hc)
              have hX36_13 := hid ((show Bk (wr.alloc (.cells #[.int .i64 0, .int .i64 0, .int .i64 0, .string ⟨#[]⟩, .int .i64 0] 26)).drew wr.heap.size 26 V.zero.cs from (Bk.new wr 26 V.zero.cs).drew).none_ hc)
              clear hc
              go_wp2_with fail
              refine hK2 _ _ hQ36.out.st rfl ?_
              clear hK2 K2
              refine tree_two (o := ⟨_, _, _, _, _, _⟩) (o' := ⟨_, _, _, _, _, _⟩) rfl rfl (fun K2 hK2 => ?_) (fun K2 hK2 => ?_)
              · have hP37 := hid (hQ36.out.none_ (Chg.refl (fun _ => False) v36))
                go_wp2_with fail
                refine (hP37.out.one.next hbm.out hx.out).mono ?_
                rintro e v37 ⟨rfl, hc⟩
                have hQ37 := hid (hP37.out.none_ hc)
                have hX37_13 := hid ((hX36_13.out.none_ (Chg.refl (fun _ => False) v36)).none_ hc)
                clear hc
                go_wp2_with fail
                refine hK2 _ _ hQ37.out.st rfl ?_
                clear hK2 K2
                refine tree_wl ?_
                apply Exists.intro
                refine ⟨?_, ?_⟩
                focus
                  intro w'
                  iterate 5 (refine stW_step rfl (fun K hK => ?_); go_simp; refine hK _ ?_; clear hK K)
                  exact stW_nil rfl
                refine tree_one (o := ⟨_, _, _, _, _, _⟩) rfl (fun K2 hK2 => ?_)
                have hP38 := hid (hQ37.out.none_ ((Chg.refl (fun _ => False) v37).alloc (.cells #[.int .i64 0, .int .i64 0, .int .i64 0, .string ⟨#[]⟩, .int .i64 0] 26)))
                go_wp2_with fail
                refine hK2 _ _ hP38.out.st rfl ?_
                clear hK2 K2
                obtain ⟨z13_0, z13_1, z13_2, z13_3, z13_4⟩ := V.box hX37_13.out
                have zl13 := hX37_13.out.lt
                have zf13 := fun j => hX37_13.out.frozen j
                simp only [V.zero] at z13_0 z13_1 z13_2 z13_3 z13_4
                refine end_mk (l := [⟨_, _, _, _, _, _⟩, ⟨_, _, _, _, _, _⟩, ⟨_, _, _, _, _, _⟩, ⟨_, _, _, _, _, _⟩]) rfl (fun K2 hK2 => ?_)
                go_wp2_with fail
                refine hK2 _ _ rfl ?_
                clear hK2 K2
                refine stI_nil ?_
                go_wp2_with fail
                go_meet
                case rel => exact ⟨rfl, hid ((hQ37.out.chg.trans (put5_chg _ wr.heap.size 0 x2) fun j hj e => by have := hPb.out.chg.size; omega).alloc (.cells x1.cs.toArray 26))⟩
              · have hP40 := hid (hQ36.out.none_ ((Chg.refl (fun _ => False) v36).alloc (.cells #[.int .i64 0, .int .i64 0, .int .i64 0, .string ⟨#[]⟩, .int .i64 0] 26)))
                go_wp2_with fail
                refine hK2 _ _ hP40.out.st rfl ?_
                clear hK2 K2
                refine tree_one (o := ⟨_, _, _, _, _, _⟩) rfl (fun K2 hK2 => ?_)
                have hP41 := hid (hQ36.out.none_ ((Chg.refl (fun _ => False) v36).alloc (.cells #[.int .i64 0, .int .i64 0, .int .i64 0, .string ⟨#[]⟩, .int .i64 0] 26)))
                go_wp2_with fail
                refine (hP41.out.one.next hbm.out hx.out).mono ?_
                rintro e v41 ⟨rfl, hc⟩
                have hQ41 := hid (hP41.out.none_ hc)
                have hX41_13 := hid ((hX36_13.out.none_ ((Chg.refl (fun _ => False) v36).alloc (.cells #[.int .i64 0, .int .i64 0, .int .i64 0, .string ⟨#[]⟩, .int .i64 0] 26))).none_ hc)
                have hX41_12 := hid ((show Bk (v36.alloc (.cells #[.int .i64 0, .int .i64 0, .int .i64 0, .string ⟨#[]⟩, .int .i64 0] 26)) v36.heap.size 26 V.zero.cs from (Bk.new v36 26 V.zero.cs)).none_ hc)
                clear hc
                go_wp2_with fail
                refine hK2 _ _ hQ41.out.st rfl ?_
                clear hK2 K2
                refine tree_wl ?_
                apply Exists.intro
                refine ⟨?_, ?_⟩
                focus
                  intro w'
                  iterate 5 (refine stW_step rfl (fun K hK => ?_); go_simp; refine hK _ ?_; clear hK K)
                  exact stW_nil rfl
                obtain ⟨z12_0, z12_1, z12_2, z12_3, z12_4⟩ := V.box hX41_12.out
                have zl12 := hX41_12.out.lt
                have zf12 := fun j => hX41_12.out.frozen j
                simp only [V.zero] at z12_0 z12_1 z12_2 z12_3 z12_4
                obtain ⟨z13_0, z13_1, z13_2, z13_3, z13_4⟩ := V.box hX41_13.out
                have zl13 := hX41_13.out.lt
                have zf13 := fun j => hX41_13.out.frozen j
                simp only [V.zero] at z13_0 z13_1 z13_2 z13_3 z13_4
                have zne : wr.heap.size < v36.heap.size := hX36_13.out.lt
                have zn1 : wr.heap.size ≠ v36.heap.size := Nat.ne_of_lt zne
                have zn2 : v36.heap.size ≠ wr.heap.size := Ne.symm zn1
                refine end_mk (l := [⟨_, _, _, _, _, _⟩, ⟨_, _, _, _, _, _⟩, ⟨_, _, _, _, _, _⟩, ⟨_, _, _, _, _, _⟩]) rfl (fun K2 hK2 => ?_)
                go_wp2_with fail
                refine hK2 _ _ rfl ?_
                clear hK2 K2
                refine stI_nil ?_
                go_wp2_with fail
                go_meet
                case rel => exact ⟨rfl, hid ((hQ41.out.chg.trans (put5_chg _ v36.heap.size 0 x1) fun j hj e => by have := hQ36.out.chg.size; omega).trans (put5_chg _ wr.heap.size 0 x2) fun j hj e => by have := hPb.out.chg.size; omega)⟩
            · have hP43 := hid (hPb.out.none_ (((Chg.refl (fun _ => False) wr).alloc (.cells #[.int .i64 0, .int .i64 0, .int .i64 0, .string ⟨#[]⟩, .int .i64 0] 26)).alloc (.cells #[.int .i64 0, .int .i64 0, .int .i64 0, .string ⟨#[]⟩, .int .i64 0] 26)).drew)
              go_wp2_with fail
              refine hK2 _ _ hP43.out.st rfl ?_
              clear hK2 K2
              refine tree_one (o := ⟨_, _, _, _, _, _⟩) rfl (fun K2 hK2 => ?_)
              have hP44 := hid (hPb.out.none_ (((Chg.refl (fun _ => False) wr).alloc (.cells #[.int .i64 0, .int .i64 0, .int .i64 0, .string ⟨#[]⟩, .int .i64 0] 26)).alloc (.cells #[.int .i64 0, .int .i64 0, .int .i64 0, .string ⟨#[]⟩, .int .i64 0] 26)).drew)
              go_wp2_with fail
              refine (ref_key ((wr.alloc (.cells #[.int .i64 0, .int .i64 0, .int .i64 0, .string ⟨#[]⟩, .int .i64 0] 26)).alloc (.cells #[.int .i64 0, .int .i64 0, .int .i64 0, .string ⟨#[]⟩, .int .i64 0] 26)).drew (q2 : Int) (by omega) (by omega)).mono ?_
              rintro e v44 ⟨rfl, hc⟩
              have hQ44 := hid (hP44.out.none_ hc)
              have hX44_13 := hid ((show Bk ((wr.alloc (.cells #[.int .i64 0, .int .i64 0, .int .i64 0, .string ⟨#[]⟩, .int .i64 0] 26)).alloc (.cells #[.int .i64 0, .int .i64 0, .int .i64 0, .string ⟨#[]⟩, .int .i64 0] 26)).drew wr.heap.size 26 V.zero.cs from ((Bk.new wr 26 V.zero.cs).alloc (.cells #[.int .i64 0, .int .i64 0, .int .i64 0, .string ⟨#[]⟩, .int .i64 0] 26)).drew).none_ hc)
              have hX44_12 := hid ((show Bk ((wr.alloc (.cells #[.int .i64 0, .int .i64 0, .int .i64 0, .string ⟨#[]⟩, .int .i64 0] 26)).alloc (.cells #[.int .i64 0, .int .i64 0, .int .i64 0, .string ⟨#[]⟩, .int .i64 0] 26)).drew (wr.heap.size + 1) 26 V.zero.cs from (Bk.new_at (wr.alloc (.cells #[.int .i64 0, .int .i64 0, .int .i64 0, .string ⟨#[]⟩, .int .i64 0] 26)) 26 V.zero.cs.toArray (wr.heap.size + 1) (by simp)).drew).none_ hc)
              clear hc
              go_wp2_with fail
              refine hK2 _ _ hQ44.out.st rfl ?_
              clear hK2 K2
              refine tree_one (o := ⟨_, _, _, _, _, _⟩) rfl (fun K2 hK2 => ?_)
              have hP45 := hid (hQ44.out.none_ (Chg.refl (fun _ => False) v44))
              go_wp2_with fail
              refine (hP45.out.one.next hbm.out hx.out).mono ?_
              rintro e v45 ⟨rfl, hc⟩
              have hQ45 := hid (hP45.out.none_ hc)
              have hX45_13 := hid ((hX44_13.out.none_ (Chg.refl (fun _ => False) v44)).none_ hc)
              have hX45_12 := hid ((hX44_12.out.none_ (Chg.refl (fun _ => False) v44)).none_ hc)
              clear hc
              go_wp2_with fail
              refine hK2 _ _ hQ45.out.st rfl ?_
              clear hK2 K2
              refine tree_wl ?_
              apply Exists.intro
              refine ⟨?_, ?_⟩
              focus
                intro w'
                iterate 5 (refine stW_step rfl (fun K hK => ?_); go_simp; refine hK _ ?_; clear hK K)
                exact stW_nil rfl
              obtain ⟨z12_0, z12_1, z12_2, z12_3, z12_4⟩ := V.box hX45_12.out
              have zl12 := hX45_12.out.lt
              have zf12 := fun j => hX45_12.out.frozen j
              simp only [V.zero] at z12_0 z12_1 z12_2 z12_3 z12_4
              obtain ⟨z13_0, z13_1, z13_2, z13_3, z13_4⟩ := V.box hX45_13.out
              have zl13 := hX45_13.out.lt
              have zf13 := fun j => hX45_13.out.frozen j
              simp only [V.zero] at z13_0 z13_1 z13_2 z13_3 z13_4
              refine end_mk (l := [⟨_, _, _, _, _, _⟩, ⟨_, _, _, _, _, _⟩, ⟨_, _, _, _, _, _⟩, ⟨_, _, _, _, _, _⟩]) rfl (fun K2 hK2 => ?_)
              go_wp2_with fail
              refine hK2 _ _ rfl ?_
              clear hK2 K2
              refine stI_nil ?_
              go_wp2_with fail
              go_meet
              case rel => exact ⟨rfl, hid ((hQ45.out.chg.trans (put5_chg _ (wr.heap.size + 1) 0 x1) fun j hj e => by have := hPb.out.chg.size; omega).trans (put5_chg _ wr.heap.size 0 x2) fun j hj e => by have := hPb.out.chg.size; omega)⟩
      case rest =>
        obtain ⟨rfl, hcw⟩ := hcut
        rename World => w9
        have fin : Hid (RTab w9 S' w.heap.size r a m ∧ Chg (fun _ => False) w w9) := hid ⟨hst.out.1.none_ hcw.out, hst.out.2.trans_same hcw.out⟩
        obtain ⟨be8, hbe8⟩ : ∃ x, (e8 == 0) = x := ⟨_, rfl⟩
        have hstn : Hid ((b || be8) = staleB m lo (q2 + 1 - 1)) := hid (by
          have he := next_err (m := m) (q2 : Int)
          rw [hx.out] at he
          simp only at he
          obtain ⟨q3, rfl⟩ : ∃ q3, q2 = q3 + 1 := ⟨q2 - 1, by omega⟩
          rw [Nat.add_sub_cancel, staleB_succ (by omega)]
          have h8 := hstB.out
          rw [Nat.add_sub_cancel] at h8
          rw [← h8, ← hbe8, he]
          congr 1
          cases lastIx m (kI ((q3 + 1 : Nat) : Int)) <;> rfl)
        have hw1 : IntKind.i64.wrap ((q2 : Int) + 1) = (q2 : Int) + 1 := by rw [IntKind.wrap_i64]; omega
        clear hcw hst hPb hP0 hx
        cases b
        all_goals
          go_wp2_with fail
          go_roundw
          case rel => exact ⟨q2 + 1, _, by omega, by omega, rfl, by go_num, fin, by first | exact hstn | exact hid (by rw [← hstn.out]; simp)⟩
          case measure => simp [intOf]; omega
    case' done =>
      intro hle
      have hqq : q2 = q + 1 := by omega
      subst hqq
      have t1 : decide (((q + 1 : Nat) : Int) ≤ (q : Int)) = false := decide_eq_false (by omega)
      have hchg : Hid (Chg (fun k => S k ∨ N ≤ k) w wr) := hid (hst.out.2.mono fun k _ e => e.elim)
      cases b
      case' false =>
        have fin : Hid (∃ m', ((m' = m ∧ ∀ i : Nat, lo ≤ i → i ≤ a.length → lastIx m (kI (i : Int)) = none) ∨ m' = keepM a.length m) ∧ RTab wr S N r a m') := hid ⟨m, .inl ⟨rfl, fun i h1 h2 => staleB_false hstB.out.symm i h1 (by rw [hq.out] at h2; omega)⟩, hst.out.1.weaken (fun k e => (hSS.out k e).2) hNh.out⟩
        clear hst hO8'
        go_wp2_with fail
        refine bodyPost_ret (results_none rfl _ _ _) rfl ?_
        exact ⟨rfl, fin.out, hchg.out⟩
      case' true =>
        obtain ⟨S2, hS2', hfix2⟩ := hst.out.1.fix
        have hS2 : Hid (∀ k, S2 k → k < wr.heap.size ∧ (S k ∨ N ≤ k)) := hid fun k e => ⟨(hS2' k e).1, (hS2' k e).2.elim (fun e => (hSS.out k e).2) fun e => .inr (by have := hNh.out; omega)⟩
        have hfix2h := hid hfix2
        have hwN : Hid (N ≤ wr.heap.size) := hid (by have := hst.out.2.size; have := hNh.out; omega)
        have hI := hid hst.out.1.inv
        obtain ⟨n, hn⟩ : ∃ n, Hid (nOf m = n) := ⟨_, hid rfl⟩
        have hn3 : n ≤ 900 := by have := nOf_le m; have := hn.out; have := hm3h.out; omega
        have hkl : Hid ((keysM m).length = n) := hid (by rw [keysM_len]; exact hn.out)
        clear hS2' hfix2 hO8'
        go_wp2_with fail
        refine (doc_new wr).mono ?_
        rintro e w5 ⟨rfl, hO', hc5⟩
        obtain ⟨c9, hc9⟩ : ∃ c9, Hid (wr.heap.size = c9) := ⟨_, hid rfl⟩
        rw [hc9.out] at hO' ⊢
        obtain ⟨S9, hS9', hfix9'⟩ := ROne.fix (S := fun _ => False) (N := wr.heap.size) (show ROne w5 (fun _ => False) wr.heap.size c9 [] from ⟨_, hO', fun k e => .inr (by
          rcases e with e | e
          · have := hc9.out; omega
          · simp [Value.ownBlock] at e)⟩)
        have hS9 : Hid (∀ k, S9 k → k < w5.heap.size ∧ wr.heap.size ≤ k) := hid fun k e => ⟨(hS9' k e).1, (hS9' k e).2.elim False.elim id⟩
        have hfix9 := hid hfix9'
        have hc5h := hid hc5
        have hT5 : Hid (RTab w5 S2 w5.heap.size r a m) := hid (hfix2h.out w5 _ hc5)
        clear c0 c1 hol
        obtain ⟨A5, cap5, c5, -, c1, -, hO5', -⟩ := hT5.out.cells hq.out
        have hO5 := hid hO5'
        have hol5 := hT5.out.lt
        have h55 : wr.heap.size ≤ w5.heap.size := hc5.size
        clear hO' hS9' hfix9' hc5 hO5' hst
        go_wp2_with fail
        refine (hO5.out.keys (by have := hm3h.out; omega) hn.out).mono ?_
        rintro e w6 ⟨A6, k6, rfl, hR', hc6⟩
        have hR := hid hR'
        have hT6 : Hid (RTab w6 S2 w6.heap.size r a m) := hid (hfix2h.out w6 _ (hc5h.out.trans_same hc6))
        have hst0 : Hid (RRebSt w6 w6 S9 c9 (keepJ q m 0)) := hid ⟨hfix9.out w6 w6.heap.size hc6, Chg.refl _ _, Nat.le_refl _⟩
        have h66 : w5.heap.size ≤ w6.heap.size := hc6.size
        have hC6 : Hid (Chg (fun k => S k ∨ N ≤ k) w w6) := hid (hchg.out.trans (hc5h.out.trans_same hc6) fun _ _ e => e.elim)
        clear hR' hc6 hT5 hO5 c1 hc5h hfix9 hfix2h hchg
        go_wp2_with fail
        go_loopw [12] (fun i w7 => ∃ j : Nat, j ≤ n ∧ i = .int .i64 j ∧ Hid (RRebSt w6 w7 S9 c9 (keepJ q m j))) (fun i _ => n - (intOf i).toNat)
        case atStart => exact ⟨0, Nat.zero_le _, rfl, hst0⟩
        case round =>
          obtain ⟨j, hj, rfl, hrb⟩ := hrel
          clear hst0
          rename World => w7
          have hT7 : Hid (RTab w7 S2 w6.heap.size r a m) := hid (hT6.out.chg hrb.out.chg fun k hk e e9 => by
            have := (hS9.out k e9).2
            rcases e with e | e
            · have := (hS2.out k e).1; omega
            · omega)
          have hR7 := hid (hR.out.chg hrb.out.chg fun k hk e9 => by have := hR.out.lo k hk; have := (hS9.out k e9).1; omega)
          refine (Classical.em (j < n)).elim ?more2 ?done2
          case' more2 =>
            intro hlt
            obtain ⟨hks1, hks2⟩ := keep_step (n := q) hI.out (j := j) (by rw [hn.out]; exact hlt)
            have hget0 := live_get hI.out (j := j) (by rw [hn.out]; exact hlt)
            obtain ⟨bb, rfl, hbl, -, d0, d1, d2, d3, d4⟩ := row_at hR7.out hkl.out hlt
            rw [keysM_vAt (by rw [hn.out]; exact hlt)] at d0 d1 d2 d3 d4
            have hkx := keysM_vAt (L := m) (j := j) (by rw [hn.out]; exact hlt)
            generalize (slAt (liveL m) j).k = x at hks1 hks2 hget0 d0 d1 d2 d3 d4 hkx
            generalize (slAt (liveL m) j).v = y at hks2 hget0
            have hk1 := hid hks1
            have hk2 := hid hks2
            have hkxh := hid hkx
            have hget := hid hget0
            have hjn : (j : Int) < (n : Int) := by omega
            obtain ⟨p, hp⟩ : ∃ p, Hid (wholeI x = p) := ⟨_, hid rfl⟩
            clear hks1 hks2 hget0 hkx
            go_wp2_with fail
            refine (whole_any _ x hp.out).mono ?_
            rintro e w8 ⟨rfl, hc8⟩
            have hT8 := hid (hT7.out.none_ hc8)
            have hrb8 := hid (hrb.out.none_ hc8)
            have hR8 := hid (hR7.out.none_ hc8)
            obtain ⟨A8, cap8, c8, c0, c1, -, hO8', -⟩ := hT8.out.cells hq.out
            have hO8 := hid hO8'
            have hol8 := hT8.out.lt
            have hc1h := hid c1
            clear hc8 d0 d1 d2 d3 d4 hbl hO8' hT7 hrb
            refine (Classical.em (inN q x = true)).elim ?isin ?notin
            case' isin =>
              intro hin
              obtain ⟨i1, i2⟩ := (inN_whole (by omega)).1 hin
              rw [hp.out] at i1 i2
              have hkj := hid (hk1.out hin)
              have u1 : decide (p < 1) = false := by simp; omega
              have u2 : decide ((q : Int) < p) = false := by simp; omega
              have fin : Hid (RRebSt w6 w8 S9 c9 (keepJ q m (j + 1))) := hid (by
                rw [hkj.out]
                exact hrb8.out)
              clear hin i1 i2 hrb8 hT8
              go_wp2_with fail
              go_roundw
              case rel => exact ⟨j + 1, by omega, by go_num, fin⟩
              case measure => simp [intOf]; omega
            case' notin =>
              intro hin
              have hset := hid (hk2.out (by simpa using hin))
              have hnot := hid (show ¬ (1 ≤ p ∧ p ≤ (q : Int)) from fun h => hin ((inN_whole (by omega)).2 (by rw [hp.out]; exact h)))
              obtain ⟨bb', e0, hbl, -, d0, d1, d2, d3, d4⟩ := row_at hR8.out hkl.out hlt
              obtain rfl : bb = bb' := by injection e0 with e0; injection e0
              rw [hkxh.out] at d0 d1 d2 d3 d4
              have hS14 : Hid (w8.drew.cell? ⟨r, 1, none⟩ = some (.pointer (some ⟨c8, 0, none⟩)) ∧ w8.drew.cell? ⟨bb, j * 5, none⟩ = some (.int .i64 x.k) ∧ w8.drew.cell? ⟨bb, j * 5 + 1, none⟩ = some (.int .i64 x.p) ∧ w8.drew.cell? ⟨bb, j * 5 + 2, none⟩ = some (.int .i64 x.q) ∧ w8.drew.cell? ⟨bb, j * 5 + 3, none⟩ = some (.string x.s) ∧ w8.drew.cell? ⟨bb, j * 5 + 4, none⟩ = some (.int .i64 x.r)) := hid ⟨hc1h.out, d0, d1, d2, d3, d4⟩
              have hblh := hid hbl
              have hO9 := hid (hrb8.out.one.none_ ((Chg.refl (fun _ => False) w8).drew))
              have hO8d := hid (hO8.out.none_ ((Chg.refl (fun _ => False) w8).drew))
              have hkjl := hid (keepJ_len q m j)
              clear hin d0 d1 d2 d3 d4
              refine (Classical.em (1 ≤ p)).elim ?ge1 ?lt1
              case' ge1 =>
                intro h1
                have u1 : decide (p < 1) = false := by simp; omega
                have u2 : decide ((q : Int) < p) = true := by
                  have := hnot.out
                  simp at this ⊢
                  exact this h1
                clear h1
              case' lt1 =>
                intro h1
                have u1 : decide (p < 1) = true := by simp; omega
                clear h1
              all_goals
                clear hnot
                go_wp2_with fail
                refine wp_region_rc (id := 14) [.rd [0, 1, 2, 3, 4, 5, 6, 7, 8, 9, 10, 11, 12], .act 13] [14] [] (fun w' => w'.cell? ⟨r, 1, none⟩ = some (.pointer (some ⟨c8, 0, none⟩)) ∧ w'.cell? ⟨bb, j * 5, none⟩ = some (.int .i64 x.k) ∧ w'.cell? ⟨bb, j * 5 + 1, none⟩ = some (.int .i64 x.p) ∧ w'.cell? ⟨bb, j * 5 + 2, none⟩ = some (.int .i64 x.q) ∧ w'.cell? ⟨bb, j * 5 + 3, none⟩ = some (.string x.s) ∧ w'.cell? ⟨bb, j * 5 + 4, none⟩ = some (.int .i64 x.r)) (by kernel_rfl) 90 rfl (by kernel_rfl) (fun _ _ _ _ _ h => h) hS14.out ?_
                refine steps_rdW ?_
                apply Exists.intro
                refine ⟨?_, ?_⟩
                focus
                  rintro w' ⟨k1, y0, y1, y2, y3, y4⟩
                  iterate 13 (refine stW_step rfl (fun K hK => ?_); go_simp; refine hK _ ?_; clear hK K)
                  exact stW_nil rfl
                refine steps_act (o := ⟨_, _, _, _, _, _⟩) rfl (fun K2 hK2 => ?_)
                go_wp2_with fail
                refine (hO8d.out.get hbm.out x hget.out).mono ?_
                rintro e w9 ⟨rfl, hc9'⟩
                have hS15 := hid (show w9.cell? ⟨r, 1, none⟩ = some (.pointer (some ⟨c8, 0, none⟩)) ∧ w9.cell? ⟨bb, j * 5, none⟩ = some (.int .i64 x.k) ∧ w9.cell? ⟨bb, j * 5 + 1, none⟩ = some (.int .i64 x.p) ∧ w9.cell? ⟨bb, j * 5 + 2, none⟩ = some (.int .i64 x.q) ∧ w9.cell? ⟨bb, j * 5 + 3, none⟩ = some (.string x.s) ∧ w9.cell? ⟨bb, j * 5 + 4, none⟩ = some (.int .i64 x.r) from ⟨(hc9'.cell (p := ⟨r, 1, none⟩) hol8 id).trans hS14.out.1, (hc9'.cell (p := ⟨bb, j * 5, none⟩) hblh.out id).trans hS14.out.2.1, (hc9'.cell (p := ⟨bb, j * 5 + 1, none⟩) hblh.out id).trans hS14.out.2.2.1, (hc9'.cell (p := ⟨bb, j * 5 + 2, none⟩) hblh.out id).trans hS14.out.2.2.2.1, (hc9'.cell (p := ⟨bb, j * 5 + 3, none⟩) hblh.out id).trans hS14.out.2.2.2.2.1, (hc9'.cell (p := ⟨bb, j * 5 + 4, none⟩) hblh.out id).trans hS14.out.2.2.2.2.2⟩)
                have hO10 := hid (hO9.out.none_ hc9')
                have hrb9 := hid ((hrb8.out.none_ ((Chg.refl (fun _ => False) w8).drew)).none_ hc9')
                clear hc9' hS14 hO9 hrb8 hT8
                go_wp2_with fail
                refine hK2 _ _ hS15.out rfl ?_
                clear hK2 K2
                refine steps_nil (l := [⟨_, _, _, _, _, _⟩]) rfl (fun K2 hK2 => ?_)
                go_wp2_with fail
                refine (hO10.out.set hrb9.out.size (by have := hkjl.out; omega) hset.out).mono ?_
                rintro e w10 ⟨rfl, hO11, hc10⟩
                have fin : Hid (RRebSt w6 w10 S9 c9 (keepJ q m (j + 1))) := hid ⟨hO11, hrb9.out.chg.trans hc10 (fun k hk e => by
                  rcases e with e | e
                  · exact e
                  · omega), Nat.le_trans hrb9.out.size hc10.size⟩
                clear hO11 hc10 hrb9 hO10
                go_wp2_with fail
                refine hK2 _ _ rfl ?_
                clear hK2 K2
                refine stI_nil ?_
                go_wp2_with fail
                go_roundw
                case rel => exact ⟨j + 1, by omega, by go_num, fin⟩
                case measure => simp [intOf]; omega
          case' done2 =>
            intro hlt
            have hjn : j = n := by omega
            subst hjn
            have fin : Hid (((∃ m', ((m' = m ∧ ∀ i : Nat, lo ≤ i → i ≤ a.length → lastIx m (kI (i : Int)) = none) ∨ m' = keepM a.length m) ∧ RTab (w7.setCell ⟨r, 1, none⟩ (.pointer (some ⟨c9, 0, none⟩))) S N r a m') ∧ Chg (fun k => S k ∨ N ≤ k) w (w7.setCell ⟨r, 1, none⟩ (.pointer (some ⟨c9, 0, none⟩))))) := hid (by
              have h7 : RTab w7 S N r a m := hT7.out.weaken (fun k e => (hS2.out k e).2) (by have := hwN.out; omega)
              have h9 := h7.newmap hrb.out.one (fun k e => by
                rcases e with e | e
                · exact .inr (by have := (hS9.out k e).2; have := hwN.out; omega)
                · exact .inr (by have := hwN.out; omega))
              refine ⟨⟨keepM a.length m, .inr rfl, ?_⟩, (hC6.out.trans hrb.out.chg fun k hk e => .inr (by have := (hS9.out k e).2; have := hwN.out; omega)).trans_same h9.2⟩
              rw [hq.out, ← keepJ_all, hn.out]
              exact h9.1)
            have hof : ∀ jj, w7.frozen? ⟨r, jj, none⟩ = false := fun jj => by
              obtain ⟨av, c, vs, hm, -⟩ := hT7.out
              exact hm.blk.frozen jj
            obtain ⟨A8, cap8, c8, c0, c1, -, -, -⟩ := hT7.out.cells hq.out
            have hol8 := hT7.out.lt
            clear hrb hT7 hR7
            go_wp2_with fail
            go_end0
            exact ⟨rfl, fin.out.1, fin.out.2⟩
end
end Go.Proofs.Ytoelgnjnbelokaa
