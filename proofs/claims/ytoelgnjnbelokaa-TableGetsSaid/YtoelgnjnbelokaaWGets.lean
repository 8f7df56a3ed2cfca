/-
  TableGets: the walk.
-/
import Derived.Test.YtoelgnjnbelokaaTGets
namespace Go.Proofs.Ytoelgnjnbelokaa
open Go.RowKit Go.Maps

/-- What the law reads in a round: the call's cells, its key, the value that is tracked. -/
def GetsS (w : World) (b p : Nat) (x : OpV) (g0 g1 : Nat) (k y : V) : Prop := OpC w b p x ∧ Bk w g0 26 k.cs ∧ Bk w g1 26 y.cs
section
variable {w w' : World} {b p g0 g1 : Nat} {x : OpV} {k y : V}
theorem GetsS.none_ (h : GetsS w b p x g0 g1 k y) (hc : Chg (fun _ => False) w w') : GetsS w' b p x g0 g1 k y := ⟨h.1.none_ hc, h.2.1.none_ hc, h.2.2.none_ hc⟩
theorem GetsS.chg {S : Nat → Prop} (h : GetsS w b p x g0 g1 k y) (hc : Chg S w w') (h1 : ¬ S b) (h2 : ¬ S g0) (h3 : ¬ S g1) : GetsS w' b p x g0 g1 k y := ⟨h.1.chg hc h1, h.2.1.chg hc h2, h.2.2.chg hc h3⟩
end
/-- What holds between two rounds. -/
structure GetsI (w wr : World) (S1 : Nat → Prop) (o g0 g1 : Nat) (k : V) (j : Nat) (a : List V) (m : List Sl) (y : V) : Prop where
  tab : Tab wr S1 (g1 + 1) o (j * 400000) a m
  inv : TInv a m
  len : a.length + nOf m ≤ j
  mlen : m.length ≤ j
  key : Bk wr g0 26 k.cs
  val : Bk wr g1 26 y.cs
  get : getT a m k = y
  chg : Chg (fun _ => False) w wr
set_option maxRecDepth 100000 in
theorem gets_big (w : World) (A : Option Addr) (q lk : Nat) (k : V) (hbad : 200 < q) :
    Calls Try.prog 5 #[.slice A q lk, (.agg #[.int .i64 k.k, .int .i64 k.p, .int .i64 k.q, .string k.s, .int .i64 k.r])] w fun e w' => e = .returned (.bool true) ∧ Below w.heap.size w w' := by
  have hC0 := hid ((Chg.refl (fun _ => False) w).alloc (.cells k.cs.toArray 26))
  have ht : decide (200 < q) = true := decide_eq_true hbad
  clear hbad
  go_enter Try.func5, Try.ntmps5
  go_wp2_with fail
  refine (t_large _ A q lk).mono ?_
  rintro e w1 ⟨rfl, hw⟩
  subst hw
  rw [ht]
  go_wp2_with fail
  refine (awake_true _).mono ?_
  rintro e w3 ⟨rfl, hc3⟩
  have fin := hid (none_below (hC0.out.trans_same hc3))
  clear hc3
  go_wp2_with fail
  go_ret
  exact ⟨rfl, fin.out⟩
set_option maxRecDepth 100000 in
set_option maxHeartbeats 16000000 in
theorem gets_true (w : World) (A : Option Addr) (l : List OpV) (lk : Nat) (k : V) (hl : OpsRd w A l) (hkw : k.wf) :
    Calls Try.prog 5 #[.slice A l.length lk, (.agg #[.int .i64 k.k, .int .i64 k.p, .int .i64 k.q, .string k.s, .int .i64 k.r])] w fun e w' => e = .returned (.bool true) ∧ Below w.heap.size w w' := by
  by_cases hbad : 200 < l.length
  · exact gets_big w A l.length lk k hbad
  have hC0 := hid ((Chg.refl (fun _ => False) w).alloc (.cells k.cs.toArray 26))
  have hK0 := hid (Bk.new w 26 k.cs)
  have hlh := hid hl
  have hkwh := hid hkw
  obtain ⟨lim, hlim⟩ : ∃ lim, Hid (l.length = lim) := ⟨_, hid rfl⟩
  rw [hlim.out] at hbad ⊢
  have ht : decide (200 < lim) = false := decide_eq_false hbad
  have hlim2 : lim ≤ 200 := by omega
  clear hbad hl hkw
  go_enter Try.func5, Try.ntmps5
  go_wp2_with fail
  refine (t_large _ A lim lk).mono ?_
  rintro e w1 ⟨rfl, hw⟩
  subst hw
  rw [ht]
  go_wp2_with fail
  refine (t_new _).mono ?_
  rintro e w1 ⟨o, rfl, hT', hc1⟩
  obtain ⟨S1, hS1', hfix1⟩ := hT'.fix
  have hS1 : Hid (∀ b, S1 b → b < w1.heap.size ∧ w.heap.size + 1 ≤ b) := hid fun b e => ⟨(hS1' b e).1, by have h1 := (hS1' b e).2.elim False.elim id; simpa using h1⟩
  have hz1 : w.heap.size + 1 ≤ w1.heap.size := by have := hc1.size; simpa using this
  have hstart : Hid (GetsI w (w1.alloc (.cells V.zero.cs.toArray 26)) S1 o w.heap.size w1.heap.size k 0 [] [] V.zero) := hid
    { tab := (hfix1 (w1.alloc (.cells V.zero.cs.toArray 26)) (w1.heap.size + 1) ((Chg.refl _ w1).alloc _)).mono (by omega)
      inv := TInv.nil
      len := by simp [nOf, liveL]
      mlen := by simp
      key := (hK0.out.none_ hc1).alloc _
      val := Bk.new w1 26 V.zero.cs
      get := by
        unfold getT
        split
        · rfl
        · rw [if_neg (by simp [inN]; omega)]
          rfl
      chg := (hC0.out.trans_same hc1).alloc _ }
  clear hT' hc1 hS1' hfix1 hC0 hK0
  go_wp2_with fail
  clear ht
  go_loopw [7] (fun i wr => ∃ j : Nat, j ≤ lim ∧ i = .int .i64 j ∧ Hid (∃ a m y, GetsI w wr S1 o w.heap.size w1.heap.size k j a m y)) (fun i _ => lim - (intOf i).toNat)
  case atStart => exact ⟨0, Nat.zero_le _, rfl, hid ⟨_, _, _, hstart.out⟩⟩
  case round =>
    obtain ⟨j, hj, rfl, hG'⟩ := hrel
    clear hstart
    obtain ⟨a, m, y, hG⟩ := hG'.out
    have hG := hid hG
    refine (Classical.em (j < lim)).elim ?more ?done
    case' more =>
      intro hlt
      obtain ⟨x, bx, ox, rfl, -, hxm', hxw', hcx'⟩ := (hlh.out.none_ hG.out.chg).at_ (j := j) (by rw [hlim.out]; exact hlt)
      have hxw := hid hxw'
      have hbx : Hid (bx < w.heap.size) := hid (by
        obtain ⟨b, o', e, hb, -⟩ := hlh.out.1.2 (by rw [hlim.out]; omega)
        injection e with e
        injection e with e
        omega)
      have hS0 : Hid (GetsS wr bx (ox + j * 12) x w.heap.size w1.heap.size k y) := hid ⟨hcx', hG.out.key, hG.out.val⟩
      have hT0 := hid hG.out.tab
      clear hG' hcx' hxw' hxm'
      go_wp2_with fail
      refine wp_region_rc (id := 10) [.rd [0, 1, 2, 3, 4, 5, 6, 7, 8, 9, 10]] [11, 12] [] (fun w' => GetsS w' bx (ox + j * 12) x w.heap.size w1.heap.size k y) (by kernel_rfl) 91 rfl (by kernel_rfl) (fun _ _ _ _ _ h => h) hS0.out ?_
      refine steps_rdW ?_
      apply Exists.intro
      refine ⟨?_, ?_⟩
      focus
        rintro w' ⟨hSa, -, -⟩
        obtain ⟨hb, c0, c1, c2, c3, c4, c5, c6, c7, c8, c9, c10, c11⟩ := hSa.cells
        clear hSa
        iterate 11 (refine stW_step rfl (fun K hK => ?_); go_simp; refine hK _ ?_; clear hK K)
        exact stW_nil rfl
      refine steps_nil (l := [⟨_, _, _, _, _, _⟩, ⟨_, _, _, _, _, _⟩]) rfl (fun K2 hK2 => ?_)
      have hTd : Hid (Tab wr.drew S1 (w1.heap.size + 1) o (j * 400000) a m) := hid (hT0.out.none_ ((Chg.refl (fun _ => False) wr).drew))
      have hSd : Hid (GetsS wr.drew bx (ox + j * 12) x w.heap.size w1.heap.size k y) := hid (hS0.out.none_ ((Chg.refl (fun _ => False) wr).drew))
      have hzr : Hid (w1.heap.size + 1 ≤ wr.heap.size) := hid (by have := hG.out.val.lt; omega)
      clear hT0 hS0
      go_wp2_with fail
      refine (t_set hTd.out hzr.out (by have h1 := hG.out.len; have h2 := hG.out.mlen; omega) (by have h2 := hG.out.mlen; omega) (by omega) hxw.out).mono ?_
      rintro e w4 ⟨e1, a', m', rfl, hR', hT4', hc4⟩
      have hR := hid hR'
      have hb9 : a.length + nOf m ≤ 1000 := by have := hG.out.len; omega
      obtain ⟨y', hy'⟩ : ∃ y', Hid ((if e1 = 0 ∧ k = x.k then x.v else y) = y') := ⟨_, hid rfl⟩
      have hns : ∀ b, b ≤ w1.heap.size → ¬ S1 b → ¬ (S1 b ∨ w1.heap.size + 1 ≤ b) := fun b h1 h2 e => e.elim h2 fun h => by omega
      have hs0 : ¬ S1 w.heap.size := fun e => by have := hS1.out _ e; omega
      have hs1 : ¬ S1 w1.heap.size := fun e => by have := hS1.out _ e; omega
      have hsx : ¬ S1 bx := fun e => by have := hS1.out _ e; have := hbx.out; omega
      have hS4 := hid (hSd.out.chg hc4 (hns _ (by have := hbx.out; omega) hsx) (hns _ (by omega) hs0) (hns _ (by omega) hs1))
      have hC4 : Hid (Chg (fun _ => False) w w4) := hid (hG.out.chg.drew.trans hc4 fun b hb e => by
        rcases e with e | e
        · have := hS1.out b e; omega
        · omega)
      have hN : Hid (∀ wz, Tab wz S1 (w1.heap.size + 1) o ((j + 1) * 400000) a' m' → GetsS wz bx (ox + j * 12) x w.heap.size w1.heap.size k y' → Chg (fun _ => False) w wz → ∃ a m y, GetsI w wz S1 o w.heap.size w1.heap.size k (j + 1) a m y) := hid fun wz h1 h2 h3 => by
        have hle := hR'.len hG.out.inv.inv (by omega)
        have h4 := hG.out.len
        have h5 := hG.out.mlen
        exact ⟨a', m', y', { tab := h1, inv := (hR'.law hG.out.inv (by omega) (hR'.bnd hG.out.inv hb9)).1, len := by omega, mlen := by omega, key := h2.2.1, val := h2.2.2, get := by rw [hR'.get hG.out.inv hb9 k, hG.out.get]; exact hy'.out, chg := h3 }⟩
      have hga : Hid (getT a' m' k = y' ∧ a'.length ≤ 1000000) := hid ⟨by rw [hR'.get hG.out.inv hb9 k, hG.out.get]; exact hy'.out, hR'.bnd hG.out.inv hb9⟩
      have hT4 : Hid (Tab w4 S1 (w1.heap.size + 1) o ((j + 1) * 400000) a' m') := hid (hT4'.mono (by omega))
      have hE := hid (hR'.err (by omega))
      clear hR' hT4' hc4 hns hs0 hs1 hsx hTd hSd hzr hG hR hb9
      obtain ⟨hb, c0, c1, c2, c3, c4, c5, c6, c7, c8, c9, c10, c11⟩ := hS4.out.1.cells
      go_wp2_with fail
      refine hK2 _ _ rfl ?_
      clear hK2 K2
      refine stI_nil ?_
      refine hE.out.elim (fun h => ?bad) (fun h => h.elim (fun h => ?arg) (fun h => ?good))
      case' bad =>
        obtain ⟨hk, rfl⟩ := h
        have hyy : y' = y := by rw [← hy'.out, if_neg (by simp)]
        subst hyy
        clear hE hy'
        by_cases h0 : x.k.k = 0
        · have e0 : (x.k.k != 0) = false := by simpa using h0
          clear h0 hk
          go_wp2_with fail
          refine wp_region_rc (id := 14) [.rd [0, 1, 2, 3, 4, 5, 6, 7, 8, 9, 10]] [] [] (fun w' => GetsS w' bx (ox + j * 12) x w.heap.size w1.heap.size k y') (by kernel_rfl) 91 rfl (by kernel_rfl) (fun _ _ _ _ _ h => h) hS4.out ?_
          refine steps_rdW ?_
          apply Exists.intro
          refine ⟨?_, ?_⟩
          focus
            rintro w' ⟨hSa, hSb, -⟩
            obtain ⟨hb, c0, c1, c2, c3, c4, c5, c6, c7, c8, c9, c10, c11⟩ := hSa.cells
            obtain ⟨x0, x1, x2, x3, x4⟩ := V.box hSb
            clear hSa hSb
            iterate 11 (refine stW_step rfl (fun K hK => ?_); go_simp; refine hK _ ?_; clear hK K)
            exact stW_nil rfl
          refine steps_end rfl ?_
          have hSz := hid (show GetsS w4.drew.drew bx (ox + j * 12) x w.heap.size w1.heap.size k y' from (hS4.out.none_ ((Chg.refl (fun _ => False) _).drew.drew)))
          have hTz := hid (show Tab w4.drew.drew S1 (w1.heap.size + 1) o ((j + 1) * 400000) a' m' from (hT4.out.none_ ((Chg.refl (fun _ => False) _).drew.drew)))
          have hCz := hid (show Chg (fun _ => False) w w4.drew.drew from hC4.out.drew.drew)
          clear hS4 hT4 hC4
          clear hb c0 c1 c2 c3 c4 c5 c6 c7 c8 c9 c10 c11
          go_wp2_with fail
          
          refine wp_region_rc (id := 16) [.rd [0, 1, 3], .act 2, .wl [4]] [] [] (fun w' => GetsS w' bx (ox + j * 12) x w.heap.size w1.heap.size k y') (by kernel_rfl) 91 rfl (by kernel_rfl) (fun _ _ _ _ _ h => h) hSz.out ?_
          refine steps_rdW ?_
          apply Exists.intro
          refine ⟨?_, ?_⟩
          focus
            rintro w' ⟨-, hSb, hSc⟩
            obtain ⟨x0, x1, x2, x3, x4⟩ := V.box hSb
            obtain ⟨z0, z1, z2, z3, z4⟩ := V.box hSc
            clear hSb hSc
            iterate 3 (refine stW_step rfl (fun K hK => ?_); go_simp; refine hK _ ?_; clear hK K)
            exact stW_nil rfl
          refine steps_act (o := ⟨_, _, _, _, _, _⟩) rfl (fun K2 hK2 => ?_)
          go_wp2_with fail
          refine (t_get hTz.out hga.out.2 hkwh.out hga.out.1).mono ?_
          rintro e w9 ⟨rfl, hc⟩
          have hS9 := hid (hSz.out.none_ hc)
          have fin := hid (hN.out _ (hTz.out.none_ hc) hS9.out (hCz.out.trans_same hc))
          clear hc hSz hTz hCz hN
          go_wp2
          refine hK2 _ _ hS9.out rfl ?_
          clear hK2 K2
          refine steps_wlW ?_
          apply Exists.intro
          refine ⟨?_, ?_⟩
          focus
            intro w'
            iterate 1 (refine stW_step rfl (fun K hK => ?_); go_simp; refine hK _ ?_; clear hK K)
            exact stW_nil rfl
          refine steps_end rfl ?_
          go_wp2_with fail
          go_roundw
          case rel => exact ⟨j + 1, by omega, by go_num, fin⟩
          case measure => simp [intOf]; omega
        · have e0 : (x.k.k != 0) = true := by simpa using h0
          have hv := hid (hk.resolve_left h0)
          clear h0 hk
          go_wp2_with fail
          refine (ref_valid_eq hv.out).mono ?_
          rintro e w5 ⟨rfl, hc⟩
          have hS5 := hid (hS4.out.none_ hc)
          have hT5 := hid (hT4.out.none_ hc)
          have hC5 := hid (hC4.out.trans_same hc)
          clear hc hS4 hT4 hC4
          clear hb c0 c1 c2 c3 c4 c5 c6 c7 c8 c9 c10 c11
          obtain ⟨hb, c0, c1, c2, c3, c4, c5, c6, c7, c8, c9, c10, c11⟩ := hS5.out.1.cells
          go_wp2_with fail
          refine wp_region_rc (id := 14) [.rd [0, 1, 2, 3, 4, 5, 6, 7, 8, 9, 10]] [] [] (fun w' => GetsS w' bx (ox + j * 12) x w.heap.size w1.heap.size k y') (by kernel_rfl) 91 rfl (by kernel_rfl) (fun _ _ _ _ _ h => h) hS5.out ?_
          refine steps_rdW ?_
          apply Exists.intro
          refine ⟨?_, ?_⟩
          focus
            rintro w' ⟨hSa, hSb, -⟩
            obtain ⟨hb, c0, c1, c2, c3, c4, c5, c6, c7, c8, c9, c10, c11⟩ := hSa.cells
            obtain ⟨x0, x1, x2, x3, x4⟩ := V.box hSb
            clear hSa hSb
            iterate 11 (refine stW_step rfl (fun K hK => ?_); go_simp; refine hK _ ?_; clear hK K)
            exact stW_nil rfl
          refine steps_end rfl ?_
          have hSz := hid (show GetsS w5.drew.drew bx (ox + j * 12) x w.heap.size w1.heap.size k y' from (hS5.out.none_ ((Chg.refl (fun _ => False) _).drew.drew)))
          have hTz := hid (show Tab w5.drew.drew S1 (w1.heap.size + 1) o ((j + 1) * 400000) a' m' from (hT5.out.none_ ((Chg.refl (fun _ => False) _).drew.drew)))
          have hCz := hid (show Chg (fun _ => False) w w5.drew.drew from hC5.out.drew.drew)
          clear hS5 hT5 hC5
          clear hb c0 c1 c2 c3 c4 c5 c6 c7 c8 c9 c10 c11
          go_wp2_with fail
          
          refine wp_region_rc (id := 16) [.rd [0, 1, 3], .act 2, .wl [4]] [] [] (fun w' => GetsS w' bx (ox + j * 12) x w.heap.size w1.heap.size k y') (by kernel_rfl) 91 rfl (by kernel_rfl) (fun _ _ _ _ _ h => h) hSz.out ?_
          refine steps_rdW ?_
          apply Exists.intro
          refine ⟨?_, ?_⟩
          focus
            rintro w' ⟨-, hSb, hSc⟩
            obtain ⟨x0, x1, x2, x3, x4⟩ := V.box hSb
            obtain ⟨z0, z1, z2, z3, z4⟩ := V.box hSc
            clear hSb hSc
            iterate 3 (refine stW_step rfl (fun K hK => ?_); go_simp; refine hK _ ?_; clear hK K)
            exact stW_nil rfl
          refine steps_act (o := ⟨_, _, _, _, _, _⟩) rfl (fun K2 hK2 => ?_)
          go_wp2_with fail
          refine (t_get hTz.out hga.out.2 hkwh.out hga.out.1).mono ?_
          rintro e w9 ⟨rfl, hc⟩
          have hS9 := hid (hSz.out.none_ hc)
          have fin := hid (hN.out _ (hTz.out.none_ hc) hS9.out (hCz.out.trans_same hc))
          clear hc hSz hTz hCz hN
          go_wp2
          refine hK2 _ _ hS9.out rfl ?_
          clear hK2 K2
          refine steps_wlW ?_
          apply Exists.intro
          refine ⟨?_, ?_⟩
          focus
            intro w'
            iterate 1 (refine stW_step rfl (fun K hK => ?_); go_simp; refine hK _ ?_; clear hK K)
            exact stW_nil rfl
          refine steps_end rfl ?_
          go_wp2_with fail
          go_roundw
          case rel => exact ⟨j + 1, by omega, by go_num, fin⟩
          case measure => simp [intOf]; omega
      case' arg =>
        obtain ⟨hk, hv', rfl⟩ := h
        have hyy : y' = y := by rw [← hy'.out, if_neg (by simp)]
        subst hyy
        have e0 : (x.k.k != 0) = true := by simpa using fun e => hk (.inl e)
        have hv : Hid (vok x.k = true) := hid (by cases e : vok x.k with | true => rfl | false => exact absurd (.inr e) hk)
        have hvv := hid hv'
        clear hk hv' hE
        clear hy'
        go_wp2_with fail
        refine (ref_valid_eq hv.out).mono ?_
        rintro e w5 ⟨rfl, hc⟩
        have hS5 := hid (hS4.out.none_ hc)
        have hT5 := hid (hT4.out.none_ hc)
        have hC5 := hid (hC4.out.trans_same hc)
        clear hc hS4 hT4 hC4
        clear hb c0 c1 c2 c3 c4 c5 c6 c7 c8 c9 c10 c11
        obtain ⟨hb, c0, c1, c2, c3, c4, c5, c6, c7, c8, c9, c10, c11⟩ := hS5.out.1.cells
        go_wp2_with fail
        refine (ref_valid_eq hvv.out).mono ?_
        rintro e w6 ⟨rfl, hc⟩
        have hS6 := hid (hS5.out.none_ hc)
        have hT6 := hid (hT5.out.none_ hc)
        have hC6 := hid (hC5.out.trans_same hc)
        clear hc hS5 hT5 hC5
        clear hb c0 c1 c2 c3 c4 c5 c6 c7 c8 c9 c10 c11
        obtain ⟨hb, c0, c1, c2, c3, c4, c5, c6, c7, c8, c9, c10, c11⟩ := hS6.out.1.cells
        go_wp2_with fail
        refine wp_region_rc (id := 14) [.rd [0, 1, 2, 3, 4, 5, 6, 7, 8, 9, 10]] [] [] (fun w' => GetsS w' bx (ox + j * 12) x w.heap.size w1.heap.size k y') (by kernel_rfl) 91 rfl (by kernel_rfl) (fun _ _ _ _ _ h => h) hS6.out ?_
        refine steps_rdW ?_
        apply Exists.intro
        refine ⟨?_, ?_⟩
        focus
          rintro w' ⟨hSa, hSb, -⟩
          obtain ⟨hb, c0, c1, c2, c3, c4, c5, c6, c7, c8, c9, c10, c11⟩ := hSa.cells
          obtain ⟨x0, x1, x2, x3, x4⟩ := V.box hSb
          clear hSa hSb
          iterate 11 (refine stW_step rfl (fun K hK => ?_); go_simp; refine hK _ ?_; clear hK K)
          exact stW_nil rfl
        refine steps_end rfl ?_
        have hSz := hid (show GetsS w6.drew.drew bx (ox + j * 12) x w.heap.size w1.heap.size k y' from (hS6.out.none_ ((Chg.refl (fun _ => False) _).drew.drew)))
        have hTz := hid (show Tab w6.drew.drew S1 (w1.heap.size + 1) o ((j + 1) * 400000) a' m' from (hT6.out.none_ ((Chg.refl (fun _ => False) _).drew.drew)))
        have hCz := hid (show Chg (fun _ => False) w w6.drew.drew from hC6.out.drew.drew)
        clear hS6 hT6 hC6
        clear hb c0 c1 c2 c3 c4 c5 c6 c7 c8 c9 c10 c11
        go_wp2_with fail

        refine wp_region_rc (id := 16) [.rd [0, 1, 3], .act 2, .wl [4]] [] [] (fun w' => GetsS w' bx (ox + j * 12) x w.heap.size w1.heap.size k y') (by kernel_rfl) 91 rfl (by kernel_rfl) (fun _ _ _ _ _ h => h) hSz.out ?_
        refine steps_rdW ?_
        apply Exists.intro
        refine ⟨?_, ?_⟩
        focus
          rintro w' ⟨-, hSb, hSc⟩
          obtain ⟨x0, x1, x2, x3, x4⟩ := V.box hSb
          obtain ⟨z0, z1, z2, z3, z4⟩ := V.box hSc
          clear hSb hSc
          iterate 3 (refine stW_step rfl (fun K hK => ?_); go_simp; refine hK _ ?_; clear hK K)
          exact stW_nil rfl
        refine steps_act (o := ⟨_, _, _, _, _, _⟩) rfl (fun K2 hK2 => ?_)
        go_wp2_with fail
        refine (t_get hTz.out hga.out.2 hkwh.out hga.out.1).mono ?_
        rintro e w9 ⟨rfl, hc⟩
        have hS9 := hid (hSz.out.none_ hc)
        have fin := hid (hN.out _ (hTz.out.none_ hc) hS9.out (hCz.out.trans_same hc))
        clear hc hSz hTz hCz hN
        go_wp2
        refine hK2 _ _ hS9.out rfl ?_
        clear hK2 K2
        refine steps_wlW ?_
        apply Exists.intro
        refine ⟨?_, ?_⟩
        focus
          intro w'
          iterate 1 (refine stW_step rfl (fun K hK => ?_); go_simp; refine hK _ ?_; clear hK K)
          exact stW_nil rfl
        refine steps_end rfl ?_
        go_wp2_with fail
        go_roundw
        case rel => exact ⟨j + 1, by omega, by go_num, fin⟩
        case measure => simp [intOf]; omega
      case' good =>
        obtain ⟨hk, hv', rfl⟩ := h
        have e0 : (x.k.k != 0) = true := by simpa using fun e => hk (.inl e)
        have hv : Hid (vok x.k = true) := hid (by cases e : vok x.k with | true => rfl | false => exact absurd (.inr e) hk)
        have hvv := hid hv'
        clear hk hv' hE
        go_wp2_with fail
        refine (ref_valid_eq hv.out).mono ?_
        rintro e w5 ⟨rfl, hc⟩
        have hS5 := hid (hS4.out.none_ hc)
        have hT5 := hid (hT4.out.none_ hc)
        have hC5 := hid (hC4.out.trans_same hc)
        clear hc hS4 hT4 hC4
        clear hb c0 c1 c2 c3 c4 c5 c6 c7 c8 c9 c10 c11
        obtain ⟨hb, c0, c1, c2, c3, c4, c5, c6, c7, c8, c9, c10, c11⟩ := hS5.out.1.cells
        go_wp2_with fail
        refine (ref_valid_eq hvv.out).mono ?_
        rintro e w6 ⟨rfl, hc⟩
        have hS6 := hid (hS5.out.none_ hc)
        have hT6 := hid (hT5.out.none_ hc)
        have hC6 := hid (hC5.out.trans_same hc)
        clear hc hS5 hT5 hC5
        clear hb c0 c1 c2 c3 c4 c5 c6 c7 c8 c9 c10 c11
        obtain ⟨hb, c0, c1, c2, c3, c4, c5, c6, c7, c8, c9, c10, c11⟩ := hS6.out.1.cells
        by_cases hkk : k = x.k
        · have hyy : y' = x.v := by rw [← hy'.out]; simp [hkk]
          subst hyy
          clear hy'
          have hkh := hid hkk
          clear hkk
          go_wp2_with fail
          refine wp_region_rc (id := 14) [.rd [0, 1, 2, 3, 4, 5, 6, 7, 8, 9, 10]] [] [] (fun w' => GetsS w' bx (ox + j * 12) x w.heap.size w1.heap.size k y) (by kernel_rfl) 91 rfl (by kernel_rfl) (fun _ _ _ _ _ h => h) hS6.out ?_
          refine steps_rdW ?_
          apply Exists.intro
          refine ⟨?_, ?_⟩
          focus
            rintro w' ⟨hSa, hSb, -⟩
            obtain ⟨hb, c0, c1, c2, c3, c4, c5, c6, c7, c8, c9, c10, c11⟩ := hSa.cells
            obtain ⟨x0, x1, x2, x3, x4⟩ := V.box hSb
            clear hSa hSb
            have hkk := hkh.out
            rw [← hkk] at c2 c3 c4 c5 c6
            clear hkk
            iterate 11 (refine stW_step rfl (fun K hK => ?_); go_simp; refine hK _ ?_; clear hK K)
            exact stW_nil rfl
          refine steps_end rfl ?_
          obtain ⟨z0, z1, z2, z3, z4⟩ := V.box hS6.out.2.2
          have hzl := hS6.out.2.2.lt
          have hzf := fun jj => hS6.out.2.2.frozen jj
          have hbg : bx ≠ w1.heap.size := by have := hbx.out; omega
          have hbg2 : w1.heap.size ≠ bx := fun e => hbg e.symm
          have hS7 : Hid (GetsS (put5 w6 w1.heap.size 0 x.v) bx (ox + j * 12) x w.heap.size w1.heap.size k x.v) := hid ⟨hS6.out.1.chg (put5_chg w6 w1.heap.size 0 x.v) hbg, hS6.out.2.1.chg (put5_chg w6 w1.heap.size 0 x.v) (by omega), put5_bk hS6.out.2.2⟩
          have hT7 : Hid (Tab (put5 w6 w1.heap.size 0 x.v) S1 (w1.heap.size + 1) o ((j + 1) * 400000) a' m') := hid (hT6.out.chg (put5_chg w6 w1.heap.size 0 x.v) (fun b _ hb e => by
            rcases hb with hb | hb
            · have := hS1.out b hb; omega
            · omega))
          have hC7 : Hid (Chg (fun _ => False) w (put5 w6 w1.heap.size 0 x.v)) := hid (hC6.out.trans (put5_chg w6 w1.heap.size 0 x.v) (fun jj hjj e => by omega))
          clear hS6 hT6 hC6
          have hSz := hid (show GetsS (put5 w6 w1.heap.size 0 x.v).drew.drew bx (ox + j * 12) x w.heap.size w1.heap.size k x.v from (hS7.out.none_ ((Chg.refl (fun _ => False) _).drew.drew)))
          have hTz := hid (show Tab (put5 w6 w1.heap.size 0 x.v).drew.drew S1 (w1.heap.size + 1) o ((j + 1) * 400000) a' m' from (hT7.out.none_ ((Chg.refl (fun _ => False) _).drew.drew)))
          have hCz := hid (show Chg (fun _ => False) w (put5 w6 w1.heap.size 0 x.v).drew.drew from hC7.out.drew.drew)
          clear hS7 hT7 hC7
          go_wp2_with fail
          clear hb c0 c1 c2 c3 c4 c5 c6 c7 c8 c9 c10 c11
          clear z0 z1 z2 z3 z4 hzl hzf hbg hbg2
          refine wp_region_rc (id := 16) [.rd [0, 1, 3], .act 2, .wl [4]] [] [] (fun w' => GetsS w' bx (ox + j * 12) x w.heap.size w1.heap.size k x.v) (by kernel_rfl) 91 rfl (by kernel_rfl) (fun _ _ _ _ _ h => h) hSz.out ?_
          refine steps_rdW ?_
          apply Exists.intro
          refine ⟨?_, ?_⟩
          focus
            rintro w' ⟨-, hSb, hSc⟩
            obtain ⟨x0, x1, x2, x3, x4⟩ := V.box hSb
            obtain ⟨z0, z1, z2, z3, z4⟩ := V.box hSc
            clear hSb hSc
            iterate 3 (refine stW_step rfl (fun K hK => ?_); go_simp; refine hK _ ?_; clear hK K)
            exact stW_nil rfl
          refine steps_act (o := ⟨_, _, _, _, _, _⟩) rfl (fun K2 hK2 => ?_)
          go_wp2_with fail
          refine (t_get hTz.out hga.out.2 hkwh.out hga.out.1).mono ?_
          rintro e w9 ⟨rfl, hc⟩
          have hS9 := hid (hSz.out.none_ hc)
          have fin := hid (hN.out _ (hTz.out.none_ hc) hS9.out (hCz.out.trans_same hc))
          clear hc hSz hTz hCz hN
          go_wp2
          refine hK2 _ _ hS9.out rfl ?_
          clear hK2 K2
          refine steps_wlW ?_
          apply Exists.intro
          refine ⟨?_, ?_⟩
          focus
            intro w'
            iterate 1 (refine stW_step rfl (fun K hK => ?_); go_simp; refine hK _ ?_; clear hK K)
            exact stW_nil rfl
          refine steps_end rfl ?_
          go_wp2_with fail
          go_roundw
          case rel => exact ⟨j + 1, by omega, by go_num, fin⟩
          case measure => simp [intOf]; omega
        · have hyy : y' = y := by rw [← hy'.out]; simp [hkk]
          subst hyy
          clear hy'
          have hcs := V.ne_cases (fun e => hkk e.symm)
          clear hkk
          rcases hcs with h | ⟨h1, h⟩ | ⟨h1, h2, h⟩ | ⟨h1, h2, h3, h⟩ | ⟨h1, h2, h3, h4, h⟩
          · go_wp2_with fail
            refine wp_region_rc (id := 14) [.rd [0, 1, 2, 3, 4, 5, 6, 7, 8, 9, 10]] [] [] (fun w' => GetsS w' bx (ox + j * 12) x w.heap.size w1.heap.size k y') (by kernel_rfl) 91 rfl (by kernel_rfl) (fun _ _ _ _ _ h => h) hS6.out ?_
            refine steps_rdW ?_
            apply Exists.intro
            refine ⟨?_, ?_⟩
            focus
              rintro w' ⟨hSa, hSb, -⟩
              obtain ⟨hb, c0, c1, c2, c3, c4, c5, c6, c7, c8, c9, c10, c11⟩ := hSa.cells
              obtain ⟨x0, x1, x2, x3, x4⟩ := V.box hSb
              clear hSa hSb
              iterate 11 (refine stW_step rfl (fun K hK => ?_); go_simp; refine hK _ ?_; clear hK K)
              exact stW_nil rfl
            refine steps_end rfl ?_
            have hSz := hid (show GetsS w6.drew.drew bx (ox + j * 12) x w.heap.size w1.heap.size k y' from (hS6.out.none_ ((Chg.refl (fun _ => False) _).drew.drew)))
            have hTz := hid (show Tab w6.drew.drew S1 (w1.heap.size + 1) o ((j + 1) * 400000) a' m' from (hT6.out.none_ ((Chg.refl (fun _ => False) _).drew.drew)))
            have hCz := hid (show Chg (fun _ => False) w w6.drew.drew from hC6.out.drew.drew)
            clear hS6 hT6 hC6
            clear hb c0 c1 c2 c3 c4 c5 c6 c7 c8 c9 c10 c11
            go_wp2_with fail

            refine wp_region_rc (id := 16) [.rd [0, 1, 3], .act 2, .wl [4]] [] [] (fun w' => GetsS w' bx (ox + j * 12) x w.heap.size w1.heap.size k y') (by kernel_rfl) 91 rfl (by kernel_rfl) (fun _ _ _ _ _ h => h) hSz.out ?_
            refine steps_rdW ?_
            apply Exists.intro
            refine ⟨?_, ?_⟩
            focus
              rintro w' ⟨-, hSb, hSc⟩
              obtain ⟨x0, x1, x2, x3, x4⟩ := V.box hSb
              obtain ⟨z0, z1, z2, z3, z4⟩ := V.box hSc
              clear hSb hSc
              iterate 3 (refine stW_step rfl (fun K hK => ?_); go_simp; refine hK _ ?_; clear hK K)
              exact stW_nil rfl
            refine steps_act (o := ⟨_, _, _, _, _, _⟩) rfl (fun K2 hK2 => ?_)
            go_wp2_with fail
            refine (t_get hTz.out hga.out.2 hkwh.out hga.out.1).mono ?_
            rintro e w9 ⟨rfl, hc⟩
            have hS9 := hid (hSz.out.none_ hc)
            have fin := hid (hN.out _ (hTz.out.none_ hc) hS9.out (hCz.out.trans_same hc))
            clear hc hSz hTz hCz hN
            go_wp2
            refine hK2 _ _ hS9.out rfl ?_
            clear hK2 K2
            refine steps_wlW ?_
            apply Exists.intro
            refine ⟨?_, ?_⟩
            focus
              intro w'
              iterate 1 (refine stW_step rfl (fun K hK => ?_); go_simp; refine hK _ ?_; clear hK K)
              exact stW_nil rfl
            refine steps_end rfl ?_
            go_wp2_with fail
            go_roundw
            case rel => exact ⟨j + 1, by omega, by go_num, fin⟩
            case measure => simp [intOf]; omega
          · have g1 := hid h1
            clear h1
            go_wp2_with fail
            refine wp_region_rc (id := 14) [.rd [0, 1, 2, 3, 4, 5, 6, 7, 8, 9, 10]] [] [] (fun w' => GetsS w' bx (ox + j * 12) x w.heap.size w1.heap.size k y') (by kernel_rfl) 91 rfl (by kernel_rfl) (fun _ _ _ _ _ h => h) hS6.out ?_
            refine steps_rdW ?_
            apply Exists.intro
            refine ⟨?_, ?_⟩
            focus
              rintro w' ⟨hSa, hSb, -⟩
              obtain ⟨hb, c0, c1, c2, c3, c4, c5, c6, c7, c8, c9, c10, c11⟩ := hSa.cells
              obtain ⟨x0, x1, x2, x3, x4⟩ := V.box hSb
              clear hSa hSb
              have hq := g1.out
              rw [hq] at c2
              clear hq
              iterate 11 (refine stW_step rfl (fun K hK => ?_); go_simp; refine hK _ ?_; clear hK K)
              exact stW_nil rfl
            refine steps_end rfl ?_
            have hSz := hid (show GetsS w6.drew.drew bx (ox + j * 12) x w.heap.size w1.heap.size k y' from (hS6.out.none_ ((Chg.refl (fun _ => False) _).drew.drew)))
            have hTz := hid (show Tab w6.drew.drew S1 (w1.heap.size + 1) o ((j + 1) * 400000) a' m' from (hT6.out.none_ ((Chg.refl (fun _ => False) _).drew.drew)))
            have hCz := hid (show Chg (fun _ => False) w w6.drew.drew from hC6.out.drew.drew)
            clear hS6 hT6 hC6
            clear hb c0 c1 c2 c3 c4 c5 c6 c7 c8 c9 c10 c11
            go_wp2_with fail

            refine wp_region_rc (id := 16) [.rd [0, 1, 3], .act 2, .wl [4]] [] [] (fun w' => GetsS w' bx (ox + j * 12) x w.heap.size w1.heap.size k y') (by kernel_rfl) 91 rfl (by kernel_rfl) (fun _ _ _ _ _ h => h) hSz.out ?_
            refine steps_rdW ?_
            apply Exists.intro
            refine ⟨?_, ?_⟩
            focus
              rintro w' ⟨-, hSb, hSc⟩
              obtain ⟨x0, x1, x2, x3, x4⟩ := V.box hSb
              obtain ⟨z0, z1, z2, z3, z4⟩ := V.box hSc
              clear hSb hSc
              iterate 3 (refine stW_step rfl (fun K hK => ?_); go_simp; refine hK _ ?_; clear hK K)
              exact stW_nil rfl
            refine steps_act (o := ⟨_, _, _, _, _, _⟩) rfl (fun K2 hK2 => ?_)
            go_wp2_with fail
            refine (t_get hTz.out hga.out.2 hkwh.out hga.out.1).mono ?_
            rintro e w9 ⟨rfl, hc⟩
            have hS9 := hid (hSz.out.none_ hc)
            have fin := hid (hN.out _ (hTz.out.none_ hc) hS9.out (hCz.out.trans_same hc))
            clear hc hSz hTz hCz hN
            go_wp2
            refine hK2 _ _ hS9.out rfl ?_
            clear hK2 K2
            refine steps_wlW ?_
            apply Exists.intro
            refine ⟨?_, ?_⟩
            focus
              intro w'
              iterate 1 (refine stW_step rfl (fun K hK => ?_); go_simp; refine hK _ ?_; clear hK K)
              exact stW_nil rfl
            refine steps_end rfl ?_
            go_wp2_with fail
            go_roundw
            case rel => exact ⟨j + 1, by omega, by go_num, fin⟩
            case measure => simp [intOf]; omega
          · have g1 := hid h1
            have g2 := hid h2
            clear h1 h2
            go_wp2_with fail
            refine wp_region_rc (id := 14) [.rd [0, 1, 2, 3, 4, 5, 6, 7, 8, 9, 10]] [] [] (fun w' => GetsS w' bx (ox + j * 12) x w.heap.size w1.heap.size k y') (by kernel_rfl) 91 rfl (by kernel_rfl) (fun _ _ _ _ _ h => h) hS6.out ?_
            refine steps_rdW ?_
            apply Exists.intro
            refine ⟨?_, ?_⟩
            focus
              rintro w' ⟨hSa, hSb, -⟩
              obtain ⟨hb, c0, c1, c2, c3, c4, c5, c6, c7, c8, c9, c10, c11⟩ := hSa.cells
              obtain ⟨x0, x1, x2, x3, x4⟩ := V.box hSb
              clear hSa hSb
              have hq := g1.out
              rw [hq] at c2
              clear hq
              have hq := g2.out
              rw [hq] at c3
              clear hq
              iterate 11 (refine stW_step rfl (fun K hK => ?_); go_simp; refine hK _ ?_; clear hK K)
              exact stW_nil rfl
            refine steps_end rfl ?_
            have hSz := hid (show GetsS w6.drew.drew bx (ox + j * 12) x w.heap.size w1.heap.size k y' from (hS6.out.none_ ((Chg.refl (fun _ => False) _).drew.drew)))
            have hTz := hid (show Tab w6.drew.drew S1 (w1.heap.size + 1) o ((j + 1) * 400000) a' m' from (hT6.out.none_ ((Chg.refl (fun _ => False) _).drew.drew)))
            have hCz := hid (show Chg (fun _ => False) w w6.drew.drew from hC6.out.drew.drew)
            clear hS6 hT6 hC6
            clear hb c0 c1 c2 c3 c4 c5 c6 c7 c8 c9 c10 c11
            go_wp2_with fail

            refine wp_region_rc (id := 16) [.rd [0, 1, 3], .act 2, .wl [4]] [] [] (fun w' => GetsS w' bx (ox + j * 12) x w.heap.size w1.heap.size k y') (by kernel_rfl) 91 rfl (by kernel_rfl) (fun _ _ _ _ _ h => h) hSz.out ?_
            refine steps_rdW ?_
            apply Exists.intro
            refine ⟨?_, ?_⟩
            focus
              rintro w' ⟨-, hSb, hSc⟩
              obtain ⟨x0, x1, x2, x3, x4⟩ := V.box hSb
              obtain ⟨z0, z1, z2, z3, z4⟩ := V.box hSc
              clear hSb hSc
              iterate 3 (refine stW_step rfl (fun K hK => ?_); go_simp; refine hK _ ?_; clear hK K)
              exact stW_nil rfl
            refine steps_act (o := ⟨_, _, _, _, _, _⟩) rfl (fun K2 hK2 => ?_)
            go_wp2_with fail
            refine (t_get hTz.out hga.out.2 hkwh.out hga.out.1).mono ?_
            rintro e w9 ⟨rfl, hc⟩
            have hS9 := hid (hSz.out.none_ hc)
            have fin := hid (hN.out _ (hTz.out.none_ hc) hS9.out (hCz.out.trans_same hc))
            clear hc hSz hTz hCz hN
            go_wp2
            refine hK2 _ _ hS9.out rfl ?_
            clear hK2 K2
            refine steps_wlW ?_
            apply Exists.intro
            refine ⟨?_, ?_⟩
            focus
              intro w'
              iterate 1 (refine stW_step rfl (fun K hK => ?_); go_simp; refine hK _ ?_; clear hK K)
              exact stW_nil rfl
            refine steps_end rfl ?_
            go_wp2_with fail
            go_roundw
            case rel => exact ⟨j + 1, by omega, by go_num, fin⟩
            case measure => simp [intOf]; omega
          · have g1 := hid h1
            have g2 := hid h2
            have g3 := hid h3
            clear h1 h2 h3
            have h := bytes_ne h
            go_wp2_with fail
            refine wp_region_rc (id := 14) [.rd [0, 1, 2, 3, 4, 5, 6, 7, 8, 9, 10]] [] [] (fun w' => GetsS w' bx (ox + j * 12) x w.heap.size w1.heap.size k y') (by kernel_rfl) 91 rfl (by kernel_rfl) (fun _ _ _ _ _ h => h) hS6.out ?_
            refine steps_rdW ?_
            apply Exists.intro
            refine ⟨?_, ?_⟩
            focus
              rintro w' ⟨hSa, hSb, -⟩
              obtain ⟨hb, c0, c1, c2, c3, c4, c5, c6, c7, c8, c9, c10, c11⟩ := hSa.cells
              obtain ⟨x0, x1, x2, x3, x4⟩ := V.box hSb
              clear hSa hSb
              have hq := g1.out
              rw [hq] at c2
              clear hq
              have hq := g2.out
              rw [hq] at c3
              clear hq
              have hq := g3.out
              rw [hq] at c4
              clear hq
              iterate 11 (refine stW_step rfl (fun K hK => ?_); go_simp; refine hK _ ?_; clear hK K)
              exact stW_nil rfl
            refine steps_end rfl ?_
            have hSz := hid (show GetsS w6.drew.drew bx (ox + j * 12) x w.heap.size w1.heap.size k y' from (hS6.out.none_ ((Chg.refl (fun _ => False) _).drew.drew)))
            have hTz := hid (show Tab w6.drew.drew S1 (w1.heap.size + 1) o ((j + 1) * 400000) a' m' from (hT6.out.none_ ((Chg.refl (fun _ => False) _).drew.drew)))
            have hCz := hid (show Chg (fun _ => False) w w6.drew.drew from hC6.out.drew.drew)
            clear hS6 hT6 hC6
            clear hb c0 c1 c2 c3 c4 c5 c6 c7 c8 c9 c10 c11
            go_wp2_with fail

            refine wp_region_rc (id := 16) [.rd [0, 1, 3], .act 2, .wl [4]] [] [] (fun w' => GetsS w' bx (ox + j * 12) x w.heap.size w1.heap.size k y') (by kernel_rfl) 91 rfl (by kernel_rfl) (fun _ _ _ _ _ h => h) hSz.out ?_
            refine steps_rdW ?_
            apply Exists.intro
            refine ⟨?_, ?_⟩
            focus
              rintro w' ⟨-, hSb, hSc⟩
              obtain ⟨x0, x1, x2, x3, x4⟩ := V.box hSb
              obtain ⟨z0, z1, z2, z3, z4⟩ := V.box hSc
              clear hSb hSc
              iterate 3 (refine stW_step rfl (fun K hK => ?_); go_simp; refine hK _ ?_; clear hK K)
              exact stW_nil rfl
            refine steps_act (o := ⟨_, _, _, _, _, _⟩) rfl (fun K2 hK2 => ?_)
            go_wp2_with fail
            refine (t_get hTz.out hga.out.2 hkwh.out hga.out.1).mono ?_
            rintro e w9 ⟨rfl, hc⟩
            have hS9 := hid (hSz.out.none_ hc)
            have fin := hid (hN.out _ (hTz.out.none_ hc) hS9.out (hCz.out.trans_same hc))
            clear hc hSz hTz hCz hN
            go_wp2
            refine hK2 _ _ hS9.out rfl ?_
            clear hK2 K2
            refine steps_wlW ?_
            apply Exists.intro
            refine ⟨?_, ?_⟩
            focus
              intro w'
              iterate 1 (refine stW_step rfl (fun K hK => ?_); go_simp; refine hK _ ?_; clear hK K)
              exact stW_nil rfl
            refine steps_end rfl ?_
            go_wp2_with fail
            go_roundw
            case rel => exact ⟨j + 1, by omega, by go_num, fin⟩
            case measure => simp [intOf]; omega
          · have g1 := hid h1
            have g2 := hid h2
            have g3 := hid h3
            have g4 := hid h4
            clear h1 h2 h3 h4
            go_wp2_with fail
            refine wp_region_rc (id := 14) [.rd [0, 1, 2, 3, 4, 5, 6, 7, 8, 9, 10]] [] [] (fun w' => GetsS w' bx (ox + j * 12) x w.heap.size w1.heap.size k y') (by kernel_rfl) 91 rfl (by kernel_rfl) (fun _ _ _ _ _ h => h) hS6.out ?_
            refine steps_rdW ?_
            apply Exists.intro
            refine ⟨?_, ?_⟩
            focus
              rintro w' ⟨hSa, hSb, -⟩
              obtain ⟨hb, c0, c1, c2, c3, c4, c5, c6, c7, c8, c9, c10, c11⟩ := hSa.cells
              obtain ⟨x0, x1, x2, x3, x4⟩ := V.box hSb
              clear hSa hSb
              have hq := g1.out
              rw [hq] at c2
              clear hq
              have hq := g2.out
              rw [hq] at c3
              clear hq
              have hq := g3.out
              rw [hq] at c4
              clear hq
              have hq := g4.out
              rw [hq] at c5
              clear hq
              iterate 11 (refine stW_step rfl (fun K hK => ?_); go_simp; refine hK _ ?_; clear hK K)
              exact stW_nil rfl
            refine steps_end rfl ?_
            have hSz := hid (show GetsS w6.drew.drew bx (ox + j * 12) x w.heap.size w1.heap.size k y' from (hS6.out.none_ ((Chg.refl (fun _ => False) _).drew.drew)))
            have hTz := hid (show Tab w6.drew.drew S1 (w1.heap.size + 1) o ((j + 1) * 400000) a' m' from (hT6.out.none_ ((Chg.refl (fun _ => False) _).drew.drew)))
            have hCz := hid (show Chg (fun _ => False) w w6.drew.drew from hC6.out.drew.drew)
            clear hS6 hT6 hC6
            clear hb c0 c1 c2 c3 c4 c5 c6 c7 c8 c9 c10 c11
            go_wp2_with fail

            refine wp_region_rc (id := 16) [.rd [0, 1, 3], .act 2, .wl [4]] [] [] (fun w' => GetsS w' bx (ox + j * 12) x w.heap.size w1.heap.size k y') (by kernel_rfl) 91 rfl (by kernel_rfl) (fun _ _ _ _ _ h => h) hSz.out ?_
            refine steps_rdW ?_
            apply Exists.intro
            refine ⟨?_, ?_⟩
            focus
              rintro w' ⟨-, hSb, hSc⟩
              obtain ⟨x0, x1, x2, x3, x4⟩ := V.box hSb
              obtain ⟨z0, z1, z2, z3, z4⟩ := V.box hSc
              clear hSb hSc
              iterate 3 (refine stW_step rfl (fun K hK => ?_); go_simp; refine hK _ ?_; clear hK K)
              exact stW_nil rfl
            refine steps_act (o := ⟨_, _, _, _, _, _⟩) rfl (fun K2 hK2 => ?_)
            go_wp2_with fail
            refine (t_get hTz.out hga.out.2 hkwh.out hga.out.1).mono ?_
            rintro e w9 ⟨rfl, hc⟩
            have hS9 := hid (hSz.out.none_ hc)
            have fin := hid (hN.out _ (hTz.out.none_ hc) hS9.out (hCz.out.trans_same hc))
            clear hc hSz hTz hCz hN
            go_wp2
            refine hK2 _ _ hS9.out rfl ?_
            clear hK2 K2
            refine steps_wlW ?_
            apply Exists.intro
            refine ⟨?_, ?_⟩
            focus
              intro w'
              iterate 1 (refine stW_step rfl (fun K hK => ?_); go_simp; refine hK _ ?_; clear hK K)
              exact stW_nil rfl
            refine steps_end rfl ?_
            go_wp2_with fail
            go_roundw
            case rel => exact ⟨j + 1, by omega, by go_num, fin⟩
            case measure => simp [intOf]; omega
    case' done =>
      intro hlt
      have hjl : j = lim := by omega
      subst hjl
      have hC := hid hG.out.chg
      clear hG hG'
      go_wp2_with fail
      refine (awake_true _).mono ?_
      rintro e w5 ⟨rfl, hc5⟩
      have fin := hid (none_below (hC.out.trans_same hc5))
      clear hc5
      go_wp2_with fail
      go_ret
      exact ⟨rfl, fin.out⟩
end Go.Proofs.Ytoelgnjnbelokaa
