/-
  OrderedRemoves: the walk.
-/
import Derived.Test.YtabodabfiklbnaaNextW
import Derived.Test.YtabodabfiklbnaaRows2
namespace Go.Proofs.Ytabodabfiklbnaa
open Go.RowKit Go.Maps

/-- What the law holds on the way: the map with some slots removed, in blocks of S0 or from N on. -/
structure RemSt (w2 wr : World) (S0 : Nat → Prop) (N o : Nat) (L : List Sl) (f : Nat → Bool) (j : Nat) : Prop where
  st : ∃ L' M, One wr S0 N o M L' ∧ Rem L L' f j ∧ M ≤ 400000 + j * 1000
  chg : Chg S0 w2 wr
  size : N ≤ wr.heap.size
section
variable {w2 wr w3 w4 : World} {S0 : Nat → Prop} {N o j : Nat} {L : List Sl} {f : Nat → Bool}
theorem RemSt.none_ (h : RemSt w2 wr S0 N o L f j) (hc : Chg (fun _ => False) wr w3) : RemSt w2 w3 S0 N o L f j := by
  obtain ⟨L', M, h1, h2, h3⟩ := h.st
  exact ⟨⟨L', M, h1.none_ hc, h2, h3⟩, h.chg.trans hc fun _ _ e => e.elim, Nat.le_trans h.size hc.size⟩
theorem RemSt.put (h : RemSt w2 wr S0 N o L f j) {g : Nat} (hc : Chg (fun k => k = g) wr w3) (hg : w2.heap.size = g) (hN : g < N) (hS : ∀ k, S0 k → k < w2.heap.size) : RemSt w2 w3 S0 N o L f j := by
  obtain ⟨L', M, h1, h2, h3⟩ := h.st
  refine ⟨⟨L', M, h1.chg hc fun k hk e => ?_, h2, h3⟩, h.chg.trans hc fun k hk e => by omega, Nat.le_trans h.size hc.size⟩
  rcases hk with hk | hk
  · have := hS k hk; omega
  · omega
end
set_option maxRecDepth 100000 in
set_option maxHeartbeats 16000000 in
theorem removes_true (w : World) (A : Option Addr) (l : List OpV) (k : Nat) (B : Option Addr) (ml : List Bool) (mk : Nat) (hl : OpsRd w A l) (hml : BoolRd w B ml) :
    Calls Try.prog 4 #[.slice A l.length k, .slice B ml.length mk] w fun e w' => e = .returned (.bool true) ∧ Below w.heap.size w w' := by
  by_cases hs : 400 < l.length
  · have ht : decide ((400 : Int) < (l.length : Int)) = true := by simp; omega
    go_enter Try.func4, Try.ntmps4
    go_wp2_with fail
    refine (made_no w A l.length k hs).mono ?_
    rintro e w1 ⟨rfl, hc1⟩
    have hC1 := hid hc1
    clear hc1
    go_wp2_with fail
    refine (lives_true _).mono ?_
    rintro e w2 ⟨rfl, hc2⟩
    have fin := hid (none_below (hC1.out.trans_same hc2))
    clear hc2
    go_wp2_with fail
    go_ret
    exact ⟨rfl, fin.out⟩
  have hl := hid hl
  have hmlh := hid hml
  obtain ⟨mn, hmn⟩ : ∃ mn, Hid (ml.length = mn) := ⟨_, hid rfl⟩
  rw [hmn.out]
  have hs2 : l.length ≤ 400 := by omega
  clear hs hml
  go_enter Try.func4, Try.ntmps4
  go_wp2_with fail
  refine (made_true w A l k hl.out hs2).mono ?_
  rintro e w1 ⟨o, r, rfl, L, hT', hm', hC'⟩
  have hO := hid hT'.one
  have hI := hid hT'.inv
  have hW := hid hT'.one.wf
  have hC := hid hC'
  obtain ⟨n, hn⟩ : ∃ n, Hid (nOf L = n) := ⟨_, hid rfl⟩
  have hLl : Hid (L.length ≤ 400) := hid (by omega)
  have hn4 : n ≤ 400 := by have := nOf_le L; have := hn.out; omega
  have hlm : Hid (l.length * 1000 ≤ 400000) := hid (by omega)
  clear hT' hm' hC'
  go_wp2_with fail
  refine (o_keys hO.out (by have := hLl.out; omega) hn.out).mono ?_
  rintro e w2 ⟨A2, k2, rfl, hR', hc2⟩
  have hR := hid hR'
  obtain ⟨S0, hS0', hfix0⟩ := hO.out.fix
  have hC2 := hid (hC.out.trans_same hc2)
  have hS0lt : Hid (∀ k, S0 k → k < w1.heap.size) := hid fun k hk => (hS0' k hk).1
  have hS0lo : Hid (∀ k, S0 k → w.heap.size ≤ k) := hid fun k hk => (hS0' k hk).2.elim False.elim id
  have h12 : w1.heap.size ≤ w2.heap.size := hc2.size
  have hB0 := hid (Bk.new w2 28 V.zero.cs)
  have hst0 : Hid (RemSt w2 (w2.alloc (.cells V.zero.cs.toArray 28)) S0 (w2.heap.size + 1) o L (maskF ml) 0) := hid ⟨⟨L, _, hfix0 _ _ (hc2.alloc _), Rem.start L (maskF ml), by have := hlm.out; omega⟩, (Chg.refl _ w2).alloc _, by simp⟩
  have hkl : Hid ((keysM L).length = n) := hid (by rw [keysM_len]; exact hn.out)
  clear hR' hc2 hO hC hS0' hfix0
  go_wp2_with fail
  go_loopw [10] (fun i wr => ∃ j : Nat, j ≤ n ∧ i = .int .i64 j ∧ Hid (RemSt w2 wr S0 (w2.heap.size + 1) o L (maskF ml) j) ∧ Hid (Bk wr w2.heap.size 28 (prevK L j).cs)) (fun i _ => n - (intOf i).toNat)
  case atStart => exact ⟨0, Nat.zero_le _, rfl, hst0, hB0⟩
  case round =>
    obtain ⟨j, hj, rfl, hst, hB⟩ := hrel
    clear hst0 hB0
    have hwf : Hid ((prevK L j).wf) := hid (prevK_wf hW.out (by rw [hn.out]; exact hj))
    obtain ⟨L', M, hOr', hRm', hM'⟩ := hst.out.st
    have hOr := hid hOr'
    have hRm := hid hRm'
    have hMh := hid hM'
    have hLl' : Hid (L'.length ≤ 400) := hid (by rw [hRm'.less.len]; exact hLl.out)
    have hRr := hid (hR.out.chg hst.out.chg (fun k hk e => by have := hR.out.lo k hk; have := hS0lt.out k e; omega))
    have hmr := hid (Rd.chg hmlh.out (Chg.trans (S := fun _ => False) hC2.out hst.out.chg (fun k hk e => by have := hS0lo.out k e; omega)) (fun _ _ _ e => e))
    clear hOr' hRm' hM'
    refine (Classical.em (j < n)).elim ?more ?done
    case' more =>
      intro hlt
      obtain ⟨i, hi', hie'⟩ := nth_ex (L := L) (j := j) (by rw [hn.out]; exact hlt)
      have hx0 := next_at hI.out hRm.out.less hi' (hRm.out.ahead hi')
      obtain ⟨bb, rfl, hbl, hblo, c0, c1, c2, c3, c4⟩ := row_at hRr.out hkl.out hlt
      rw [keysM_at hi' hie'] at c0 c1 c2 c3 c4
      have hkw0 := hW.out i hi'.1
      have hps0 : prevK L (j + 1) = (slAt L i).k := prevK_succ hie'
      have hdr := hid (fun hf => hRm.out.drop hI.out hi' (j := j) hf)
      generalize (slAt L i).k = x at hx0 c0 c1 c2 c3 c4 hkw0 hps0 hdr
      generalize (slAt L i).v = y at hx0
      obtain ⟨p, hp⟩ : ∃ p, Hid (prevK L j = p) := ⟨_, hid rfl⟩
      rw [hp.out] at hx0 hB hwf
      have hx := hid hx0
      have hkw := hid hkw0
      have hps := hid hps0
      obtain ⟨z0, z1, z2, z3, z4⟩ := V.box hB.out
      have hzl := hB.out.lt
      have hw2r := hst.out.size
      clear hi' hie' hx0 hkw0 hps0
      have hrow := hid (show wr.cell? ⟨bb, j * 5, none⟩ = some (.int .i64 x.k) ∧ wr.cell? ⟨bb, j * 5 + 1, none⟩ = some (.int .i64 x.p) ∧ wr.cell? ⟨bb, j * 5 + 2, none⟩ = some (.int .i64 x.q) ∧ wr.cell? ⟨bb, j * 5 + 3, none⟩ = some (.string x.s) ∧ wr.cell? ⟨bb, j * 5 + 4, none⟩ = some (.int .i64 x.r) ∧ bb < wr.heap.size from ⟨c0, c1, c2, c3, c4, hbl⟩)
      clear c0 c1 c2 c3 c4 hbl hblo
      go_wp2_with fail
      refine (o_next hOr.out (by have := hLl'.out; omega) hwf.out hx.out).mono ?_
      rintro e w3 ⟨rfl, hc3⟩
      have hS0 : Hid (NextS ((w3.alloc (.cells x.cs.toArray 28)).alloc (.cells y.cs.toArray 28)).drew w3.heap.size bb j x y) := hid (by
        obtain ⟨c0, c1, c2, c3, c4, c5⟩ := hrow.out
        have hc : Chg (fun _ => False) wr ((w3.alloc (.cells x.cs.toArray 28)).alloc (.cells y.cs.toArray 28)).drew := ((hc3.alloc _).alloc _).drew
        have hb := Bk.new_at (w3.alloc (.cells x.cs.toArray 28)) 28 y.cs.toArray (w3.heap.size + 1) (by simp)
        exact ⟨((Bk.new w3 28 x.cs).alloc _).drew, hb.drew, (hc.cell (p := ⟨bb, j * 5, none⟩) c5 id).trans c0, (hc.cell (p := ⟨bb, j * 5 + 1, none⟩) c5 id).trans c1, (hc.cell (p := ⟨bb, j * 5 + 2, none⟩) c5 id).trans c2, (hc.cell (p := ⟨bb, j * 5 + 3, none⟩) c5 id).trans c3, (hc.cell (p := ⟨bb, j * 5 + 4, none⟩) c5 id).trans c4, Nat.lt_of_lt_of_le c5 hc.size⟩)
      obtain ⟨S1, hS1', hfix1⟩ := (hOr.out.none_ hc3).fix
      have hB3 := hid (hB.out.none_ (((hc3.alloc (.cells x.cs.toArray 28)).alloc (.cells y.cs.toArray 28)).drew))
      have hst3 := hid (hst.out.none_ (((hc3.alloc (.cells x.cs.toArray 28)).alloc (.cells y.cs.toArray 28)).drew))
      have hm3 := hid (hmr.out.none_ (((hc3.alloc (.cells x.cs.toArray 28)).alloc (.cells y.cs.toArray 28)).drew))
      have hO3 : Hid (One ((w3.alloc (.cells x.cs.toArray 28)).alloc (.cells y.cs.toArray 28)).drew S1 (w3.heap.size + 2) o M L') := hid (hfix1 _ _ ((((Chg.refl _ w3).alloc _).alloc _).drew))
      have hS1lt : Hid (∀ k, S1 k → k < w3.heap.size) := hid fun k hk => (hS1' k hk).1
      have hS1lo : Hid (∀ k, S1 k → S0 k ∨ w2.heap.size + 1 ≤ k) := hid fun k hk => (hS1' k hk).2
      have hz3 : Hid (w2.heap.size + 1 ≤ w3.heap.size) := hid (Nat.le_trans hw2r hc3.size)
      clear hc3 hB hrow z0 z1 z2 z3 z4 hS1' hfix1 hst hmr hRr hOr
      have hjn : (j : Int) < (n : Int) := by omega
      go_wp2_with fail
      refine wp_region_rc (id := 10) [.rd [0, 1, 2, 3, 4, 5, 6, 7, 8, 9, 10, 11, 12, 13]] [] [] (fun w' => NextS w' w3.heap.size bb j x y) (by kernel_rfl) 125 rfl (by kernel_rfl) (fun _ _ _ _ _ h => h) hS0.out ?_
      refine steps_rdW ?_
      apply Exists.intro
      refine ⟨?_, ?_⟩
      focus
        rintro w' ⟨hSa, hSb, c0, c1, c2, c3, c4, -⟩
        obtain ⟨x0, x1, x2, x3, x4⟩ := V.box hSa
        clear hSa hSb
        iterate 14 (refine stW_step rfl (fun K hK => ?_); go_simp; refine hK _ ?_; clear hK K)
        exact stW_nil rfl
      refine steps_end rfl ?_
      have hS3 := hid (show Bk ((w3.alloc (.cells x.cs.toArray 28)).alloc (.cells y.cs.toArray 28)).drew w3.heap.size 28 x.cs from hS0.out.1)
      clear hS0
      have hsz : Hid (((w3.alloc (.cells x.cs.toArray 28)).alloc (.cells y.cs.toArray 28)).drew.heap.size = w3.heap.size + 2) := hid (by simp [World.drew])
      have hS3 := hid (show Bk ((w3.alloc (.cells #[.int .i64 x.k, .int .i64 x.p, .int .i64 x.q, .string x.s, .int .i64 x.r] 28)).alloc (.cells #[.int .i64 y.k, .int .i64 y.p, .int .i64 y.q, .string y.s, .int .i64 y.r] 28)).drew w3.heap.size 28 x.cs from hS3.out)
      have hB4 := hid (show Bk ((w3.alloc (.cells #[.int .i64 x.k, .int .i64 x.p, .int .i64 x.q, .string x.s, .int .i64 x.r] 28)).alloc (.cells #[.int .i64 y.k, .int .i64 y.p, .int .i64 y.q, .string y.s, .int .i64 y.r] 28)).drew w2.heap.size 28 p.cs from hB3.out)
      have hst4 := hid (show RemSt w2 ((w3.alloc (.cells #[.int .i64 x.k, .int .i64 x.p, .int .i64 x.q, .string x.s, .int .i64 x.r] 28)).alloc (.cells #[.int .i64 y.k, .int .i64 y.p, .int .i64 y.q, .string y.s, .int .i64 y.r] 28)).drew S0 (w2.heap.size + 1) o L (maskF ml) j from hst3.out)
      have hm4 := hid (show Rd ((w3.alloc (.cells #[.int .i64 x.k, .int .i64 x.p, .int .i64 x.q, .string x.s, .int .i64 x.r] 28)).alloc (.cells #[.int .i64 y.k, .int .i64 y.p, .int .i64 y.q, .string y.s, .int .i64 y.r] 28)).drew 1 B ml.length (ml.flatMap fun b => [.bool b]) from hm3.out)
      have hO4 := hid (show One ((w3.alloc (.cells #[.int .i64 x.k, .int .i64 x.p, .int .i64 x.q, .string x.s, .int .i64 x.r] 28)).alloc (.cells #[.int .i64 y.k, .int .i64 y.p, .int .i64 y.q, .string y.s, .int .i64 y.r] 28)).drew S1 (w3.heap.size + 2) o M L' from hO3.out)
      have hsz4 := hid (show ((w3.alloc (.cells #[.int .i64 x.k, .int .i64 x.p, .int .i64 x.q, .string x.s, .int .i64 x.r] 28)).alloc (.cells #[.int .i64 y.k, .int .i64 y.p, .int .i64 y.q, .string y.s, .int .i64 y.r] 28)).drew.heap.size = w3.heap.size + 2 from hsz.out)
      clear hB3 hst3 hm3 hO3 hsz
      generalize ((w3.alloc (.cells #[.int .i64 x.k, .int .i64 x.p, .int .i64 x.q, .string x.s, .int .i64 x.r] 28)).alloc (.cells #[.int .i64 y.k, .int .i64 y.p, .int .i64 y.q, .string y.s, .int .i64 y.r] 28)).drew = w4 at hS3 hB4 hst4 hm4 hO4 hsz4 ⊢
      refine (Classical.em (j < mn)).elim ?inn ?out
      case' inn =>
        intro hjm
        obtain ⟨mb, mo, rfl, hmbl, mc⟩ := mask_at hm4.out (j := j) (by rw [hmn.out]; exact hjm)
        obtain ⟨fb, hfb⟩ : ∃ fb, Hid (maskF ml j = fb) := ⟨_, hid rfl⟩
        rw [hfb.out] at mc
        cases fb
        case' true =>
          obtain ⟨hset', hrm1'⟩ := hdr.out hfb.out
          have hset := hid hset'
          have hrm1 := hid hrm1'
          obtain ⟨x0, x1, x2, x3, x4⟩ := V.box hS3.out
          have hxl := hS3.out.lt
          clear hset' hrm1'
          go_wp2_with fail
          refine (o_set hO4.out (by have := hsz4.out; omega) (by have := hLl'.out; omega) (by have := hMh.out; omega) hkw.out hset.out).mono ?_
          rintro e w5 ⟨rfl, hO5, hc5⟩
          have hst5 : Hid (RemSt w2 w5 S0 (w2.heap.size + 1) o L (maskF ml) (j + 1)) := hid ⟨⟨_, _, hO5.weaken hS1lo.out (by have := hz3.out; omega), hrm1.out, by have := hMh.out; omega⟩, hst4.out.chg.trans hc5 (fun k hk e => by
            rcases e with e | e
            · rcases hS1lo.out k e with e2 | e2
              · exact e2
              · omega
            · have := hz3.out; omega), by have := hst4.out.size; have := hc5.size; omega⟩
          have hS5 := hid (hS3.out.oneChg hc5 (fun e => by have := hS1lt.out _ e; omega) (by omega))
          have hB5 := hid (hB4.out.oneChg hc5 (fun e => by
            rcases hS1lo.out _ e with e2 | e2
            · have := hS0lt.out _ e2; omega
            · omega) (by have := hz3.out; omega))
          clear hO5 hc5 hst4 hO4 x0 x1 x2 x3 x4 hxl mc hset hrm1 hm4
        case' false =>
          have hst5 : Hid (RemSt w2 w4 S0 (w2.heap.size + 1) o L (maskF ml) (j + 1)) := hid (by
            obtain ⟨L1, M1, g1, g2, g3⟩ := hst4.out.st
            exact ⟨⟨L1, M1, g1, g2.skip hfb.out, by omega⟩, hst4.out.chg, hst4.out.size⟩)
          have hS5 := hS3
          have hB5 := hB4
          clear hst4 hO4 hm4
      case' out =>
        intro hjm
        have hst5 : Hid (RemSt w2 w4 S0 (w2.heap.size + 1) o L (maskF ml) (j + 1)) := hid (by
          obtain ⟨L1, M1, g1, g2, g3⟩ := hst4.out.st
          exact ⟨⟨L1, M1, g1, g2.skip (mask_out (by rw [hmn.out]; exact hjm)), by omega⟩, hst4.out.chg, hst4.out.size⟩)
        have hS5 := hS3
        have hB5 := hB4
        clear hst4 hO4 hm4
      all_goals
        obtain ⟨x0, x1, x2, x3, x4⟩ := V.box hS5.out
        have hxl := hS5.out.lt
        obtain ⟨z0, z1, z2, z3, z4⟩ := V.box hB5.out
        have hzl4 := hB5.out.lt
        have hzf := fun jj => hB5.out.frozen jj
        have fin := hid (And.intro (hst5.out.put (put5_chg _ w2.heap.size 0 x) rfl (Nat.lt_succ_self _) (fun k e => by have := hS0lt.out k e; omega)) (put5_bk (y := x) hB5.out))
        clear hS5 hB5 hst5 hS3 hB4
        go_wp2_with fail
        go_roundw
        case rel => exact ⟨j + 1, by omega, by go_num, hid fin.out.1, hid (by rw [hps.out]; exact fin.out.2)⟩
        case measure => simp [intOf]; omega
    case' done =>
      intro hlt
      have hjn : j = n := by omega
      subst hjn
      have hx : Hid (nextM L' (prevK L j) = (V.zero, V.zero, false, 0)) := hid (by rw [← hn.out]; exact next_end hI.out hRm.out.less)
      obtain ⟨p, hp⟩ : ∃ p, Hid (prevK L j = p) := ⟨_, hid rfl⟩
      rw [hp.out] at hx hB hwf
      obtain ⟨z0, z1, z2, z3, z4⟩ := V.box hB.out
      have hzl := hB.out.lt
      go_wp2_with fail
      refine (o_next_end hOr.out (by have := hLl'.out; omega) hwf.out hx.out).mono ?_
      rintro e w3 ⟨rfl, hc3⟩
      have hO3 := hid (hOr.out.none_ ((hc3.alloc (.cells V.zero.cs.toArray 28)).alloc (.cells V.zero.cs.toArray 28)))
      have hR3 := hid (hRr.out.none_ ((hc3.alloc (.cells V.zero.cs.toArray 28)).alloc (.cells V.zero.cs.toArray 28)))
      have hm3 := hid (hmr.out.none_ ((hc3.alloc (.cells V.zero.cs.toArray 28)).alloc (.cells V.zero.cs.toArray 28)))
      have hC3 : Hid (Chg (fun _ => False) w ((w3.alloc (.cells V.zero.cs.toArray 28)).alloc (.cells V.zero.cs.toArray 28))) := hid ((hC2.out.trans hst.out.chg (fun k hk e => by have := hS0lo.out k e; omega)).trans_same ((hc3.alloc (.cells V.zero.cs.toArray 28)).alloc (.cells V.zero.cs.toArray 28)))
      have hI' := hid hOr.out.inv
      clear hc3 z0 z1 z2 z3 z4 hB hOr hC2 hst hRr hmr hR hmlh hl
      go_wp2_with fail
      have hc6 : Hid (Chg (fun _ => False) ((w3.alloc (.cells V.zero.cs.toArray 28)).alloc (.cells V.zero.cs.toArray 28)) ((w3.alloc (.cells V.zero.cs.toArray 28)).alloc (.cells V.zero.cs.toArray 28))) := hid (Chg.refl _ _)
      have hO6 := hid (show One ((w3.alloc (.cells #[.int .i64 0, .int .i64 0, .int .i64 0, .string ⟨#[]⟩, .int .i64 0] 28)).alloc (.cells #[.int .i64 0, .int .i64 0, .int .i64 0, .string ⟨#[]⟩, .int .i64 0] 28)) S0 (w2.heap.size + 1) o M L' from hO3.out)
      have hR6 := hid (show OwnR w1 ((w3.alloc (.cells #[.int .i64 0, .int .i64 0, .int .i64 0, .string ⟨#[]⟩, .int .i64 0] 28)).alloc (.cells #[.int .i64 0, .int .i64 0, .int .i64 0, .string ⟨#[]⟩, .int .i64 0] 28)) 28 5 (.slice A2 j k2) j ((keysM L).flatMap V.cs) from hR3.out)
      have hm6 := hid (show Rd ((w3.alloc (.cells #[.int .i64 0, .int .i64 0, .int .i64 0, .string ⟨#[]⟩, .int .i64 0] 28)).alloc (.cells #[.int .i64 0, .int .i64 0, .int .i64 0, .string ⟨#[]⟩, .int .i64 0] 28)) 1 B ml.length (ml.flatMap fun b => [.bool b]) from hm3.out)
      have hC6 := hid (show Chg (fun _ => False) w ((w3.alloc (.cells #[.int .i64 0, .int .i64 0, .int .i64 0, .string ⟨#[]⟩, .int .i64 0] 28)).alloc (.cells #[.int .i64 0, .int .i64 0, .int .i64 0, .string ⟨#[]⟩, .int .i64 0] 28)) from hC3.out)
      have hc7 := hid (show Chg (fun _ => False) ((w3.alloc (.cells #[.int .i64 0, .int .i64 0, .int .i64 0, .string ⟨#[]⟩, .int .i64 0] 28)).alloc (.cells #[.int .i64 0, .int .i64 0, .int .i64 0, .string ⟨#[]⟩, .int .i64 0] 28)) ((w3.alloc (.cells #[.int .i64 0, .int .i64 0, .int .i64 0, .string ⟨#[]⟩, .int .i64 0] 28)).alloc (.cells #[.int .i64 0, .int .i64 0, .int .i64 0, .string ⟨#[]⟩, .int .i64 0] 28)) from hc6.out)
      clear hO3 hR3 hm3 hC3 hc6
      generalize ((w3.alloc (.cells #[.int .i64 0, .int .i64 0, .int .i64 0, .string ⟨#[]⟩, .int .i64 0] 28)).alloc (.cells #[.int .i64 0, .int .i64 0, .int .i64 0, .string ⟨#[]⟩, .int .i64 0] 28)) = w6 at hO6 hR6 hm6 hC6 hc7 ⊢
      go_loopw [19] (fun i wr => ∃ jj : Nat, jj ≤ j ∧ i = .int .i64 jj ∧ Hid (Chg (fun _ => False) w6 wr)) (fun i _ => j - (intOf i).toNat)
      case atStart => exact ⟨0, Nat.zero_le _, rfl, hc7⟩
      case round =>
        obtain ⟨jj, hjj, rfl, hcr⟩ := hrel
        clear hc7
        have hOr := hid (hO6.out.none_ hcr.out)
        refine (Classical.em (jj < j)).elim ?more2 ?done2
        case' more2 =>
          intro hlt2
          obtain ⟨i, hi', hie'⟩ := nth_ex (L := L) (j := jj) (by rw [hn.out]; exact hlt2)
          obtain ⟨bb, rfl, hbl, -, c0, c1, c2, c3, c4⟩ := row_at (hR6.out.none_ hcr.out) hkl.out hlt2
          rw [keysM_at hi' hie'] at c0 c1 c2 c3 c4
          have hkw := hid (hW.out i hi'.1)
          obtain ⟨y, hy'⟩ : ∃ y, getM L' (slAt L i).k = y := ⟨_, rfl⟩
          have hyk0 := Rem.get hI.out hI'.out (by rw [hn.out]; exact hRm.out) hi' hy'
          have hy := hid hy'
          generalize (slAt L i).k = x at hy c0 c1 c2 c3 c4 hkw
          have hmr := hid (hm6.out.none_ hcr.out)
          have hfd : ∀ w : World, (Instr.field 28 (.agg #[.int .i64 y.k, .int .i64 y.p, .int .i64 y.q, .string y.s, .int .i64 y.r]) 0).run Try.prog w = .ok (.int .i64 y.k) w := fun _ => by kernel_rfl
          have hjn : (jj : Int) < (j : Int) := by omega
          clear hi' hie' hy'
          refine (Classical.em (jj < mn)).elim ?inn2 ?out2
          case' inn2 =>
            intro hjm
            obtain ⟨mb, mo, rfl, hmbl, mc⟩ := mask_at hmr.out (j := jj) (by rw [hmn.out]; exact hjm)
            obtain ⟨fb, hfb⟩ : ∃ fb, Hid (maskF ml jj = fb) := ⟨_, hid rfl⟩
            rw [hfb.out] at mc hyk0
            have hmch := hid (And.intro hmbl mc)
            clear mc hmbl
            have hyk := hyk0
            clear hyk0
            go_wp2_with fail
            refine (o_get hOr.out hkw.out hy.out).mono ?_
            rintro e w7 ⟨rfl, hc8_⟩
            have mc7 := (hc8_.cell (p := ⟨mb, mo + jj, none⟩) hmch.out.1 id).trans hmch.out.2
            have fin := hid (hcr.out.trans_same hc8_)
            clear hc8_ c0 c1 c2 c3 c4 hcr hOr
            cases fb
            all_goals
              go_wp2_with fail
              go_roundw
              case rel => exact ⟨jj + 1, by omega, by go_num, fin⟩
              case measure => simp [intOf]; omega
          case' out2 =>
            intro hjm
            rw [mask_out (by rw [hmn.out]; exact hjm)] at hyk0
            have hyk := hyk0
            clear hyk0
            go_wp2_with fail
            refine (o_get hOr.out hkw.out hy.out).mono ?_
            rintro e w7 ⟨rfl, hc8_⟩
            have fin := hid (hcr.out.trans_same hc8_)
            clear hc8_ c0 c1 c2 c3 c4 hcr hOr
            go_wp2_with fail
            go_roundw
            case rel => exact ⟨jj + 1, by omega, by go_num, fin⟩
            case measure => simp [intOf]; omega
        case' done2 =>
          intro hlt2
          have hC4 := hid (hC6.out.trans_same hcr.out)
          clear hcr hOr
          go_wp2_with fail
          refine (lives_true _).mono ?_
          rintro e w5 ⟨rfl, hc5⟩
          have fin := hid (none_below (hC4.out.trans_same hc5))
          clear hc5
          go_wp2_with fail
          go_ret
          exact ⟨rfl, fin.out⟩
end Go.Proofs.Ytabodabfiklbnaa
