/-
  OrderedNext: the walk.
-/
import Derived.Test.YtabodabfiklbnaaSeq
namespace Go.Proofs.Ytabodabfiklbnaa
open Go.RowKit Go.Maps

/-- The law's two values of a round, and the row of keys. -/
def NextS (w : World) (g b j : Nat) (x y : V) : Prop := Bk w g 28 x.cs ∧ Bk w (g + 1) 28 y.cs ∧ w.cell? ⟨b, j * 5, none⟩ = some (.int .i64 x.k) ∧ w.cell? ⟨b, j * 5 + 1, none⟩ = some (.int .i64 x.p) ∧ w.cell? ⟨b, j * 5 + 2, none⟩ = some (.int .i64 x.q) ∧
  w.cell? ⟨b, j * 5 + 3, none⟩ = some (.string x.s) ∧ w.cell? ⟨b, j * 5 + 4, none⟩ = some (.int .i64 x.r) ∧ b < w.heap.size
theorem NextS.none_ {w w' : World} {g b j : Nat} {x y : V} (h : NextS w g b j x y) (hc : Chg (fun _ => False) w w') : NextS w' g b j x y := by
  obtain ⟨h1, h2, h3, h4, h5, h6, h7, h8⟩ := h
  exact ⟨h1.none_ hc, h2.none_ hc, (hc.cell (p := ⟨b, j * 5, none⟩) h8 id).trans h3, (hc.cell (p := ⟨b, j * 5 + 1, none⟩) h8 id).trans h4, (hc.cell (p := ⟨b, j * 5 + 2, none⟩) h8 id).trans h5, (hc.cell (p := ⟨b, j * 5 + 3, none⟩) h8 id).trans h6, (hc.cell (p := ⟨b, j * 5 + 4, none⟩) h8 id).trans h7, Nat.lt_of_lt_of_le h8 hc.size⟩
/-- A key of the row. -/
theorem row_at {w0 w : World} {A : Option Addr} {n k : Nat} {rs : List V} (h : OwnR w0 w 28 5 (.slice A n k) n (rs.flatMap V.cs)) (hn : rs.length = n) {j : Nat} (hj : j < n) :
    ∃ b, A = some ⟨b, 0, none⟩ ∧ b < w.heap.size ∧ w0.heap.size ≤ b ∧ w.cell? ⟨b, j * 5, none⟩ = some (.int .i64 (vAt rs j).k) ∧ w.cell? ⟨b, j * 5 + 1, none⟩ = some (.int .i64 (vAt rs j).p) ∧ w.cell? ⟨b, j * 5 + 2, none⟩ = some (.int .i64 (vAt rs j).q) ∧
      w.cell? ⟨b, j * 5 + 3, none⟩ = some (.string (vAt rs j).s) ∧ w.cell? ⟨b, j * 5 + 4, none⟩ = some (.int .i64 (vAt rs j).r) := by
  subst hn
  obtain ⟨A', cap', e1, _, _, hA, -⟩ := own_form h.own
  injection e1 with e1 _ e3
  subst e1; subst e3
  obtain ⟨b, rfl⟩ := hA (by omega)
  have hr : Vs w (some ⟨b, 0, none⟩) rs := Rd.of_own h.own
  obtain ⟨b', o', e2, hb, x⟩ := hr.at_ hj
  injection e2 with e2
  injection e2 with e2 e3
  subst e2; subst e3
  exact ⟨b, rfl, hb, h.lo b rfl, by simpa using x⟩
theorem o_next_end {w : World} {S : Nat → Prop} {N o M : Nat} {L : List Sl} (h : One w S N o M L) (hn : L.length ≤ 1000000) {k : V} (hk : k.wf) (hx : nextM L k = (V.zero, V.zero, false, 0)) :
    Calls Try.prog 18 #[.pointer (some ⟨o, 0, none⟩), (.agg #[.int .i64 k.k, .int .i64 k.p, .int .i64 k.q, .string k.s, .int .i64 k.r])] w fun e w' => e = .returned (.tuple #[(.agg #[.int .i64 0, .int .i64 0, .int .i64 0, .string ⟨#[]⟩, .int .i64 0]), (.agg #[.int .i64 0, .int .i64 0, .int .i64 0, .string ⟨#[]⟩, .int .i64 0]), .bool false, .int .i64 0]) ∧ Chg (fun _ => False) w w' := o_next h hn hk hx
set_option maxRecDepth 100000 in
set_option maxHeartbeats 16000000 in
theorem next_true (w : World) (A : Option Addr) (l : List OpV) (k : Nat) (hl : OpsRd w A l) :
    Calls Try.prog 7 #[.slice A l.length k] w fun e w' => e = .returned (.bool true) ∧ Below w.heap.size w w' := by
  by_cases hs : 400 < l.length
  · have ht : decide ((400 : Int) < (l.length : Int)) = true := by simp; omega
    go_enter Try.func7, Try.ntmps7
    go_wp2_with fail
    refine (made_no w A l.length k hs).mono ?_
    rintro e w1 ⟨rfl, hc1⟩
    have hC1 := hid hc1
    clear hc1
    go_wp2_with fail
    refine (lives_true _).mono ?_
    rintro e w2 ⟨rfl, hc2⟩
    have fin := hid (none_below (hC1.out.trans_same hc2))
    clear hc2
    go_wp2_with fail
    go_ret
    exact ⟨rfl, fin.out⟩
  have hl := hid hl
  have hs2 : l.length ≤ 400 := by omega
  clear hs
  go_enter Try.func7, Try.ntmps7
  go_wp2_with fail
  refine (made_true w A l k hl.out hs2).mono ?_
  rintro e w1 ⟨o, r, rfl, L, hT', hm', hC'⟩
  have hO := hid hT'.one
  have hI := hid hT'.inv
  have hW := hid hT'.one.wf
  have hC := hid hC'
  obtain ⟨n, hn⟩ : ∃ n, Hid (nOf L = n) := ⟨_, hid rfl⟩
  have hLl : Hid (L.length ≤ 400) := hid (by omega)
  have hn4 : n ≤ 400 := by have := nOf_le L; have := hn.out; omega
  clear hT' hm' hC'
  go_wp2_with fail
  refine (o_keys hO.out (by have := hLl.out; omega) hn.out).mono ?_
  rintro e w2 ⟨A2, k2, rfl, hR', hc2⟩
  have hR := hid hR'
  have hO2 := hid (hO.out.none_ hc2)
  have hC2 := hid (hC.out.trans_same hc2)
  have hB0 := hid (Bk.new w2 28 V.zero.cs)
  have hcw : Hid (Chg (fun _ => False) w2 (w2.alloc (.cells V.zero.cs.toArray 28))) := hid ((Chg.refl _ w2).alloc _)
  have hkl : Hid ((keysM L).length = n) := hid (by rw [keysM_len]; exact hn.out)
  clear hR' hc2 hO hC
  go_wp2_with fail
  go_loopw [8] (fun i wr => ∃ j : Nat, j ≤ n ∧ i = .int .i64 j ∧ Hid (Chg (fun _ => False) w2 wr) ∧ Hid (Bk wr w2.heap.size 28 (prevK L j).cs)) (fun i _ => n - (intOf i).toNat)
  case atStart => exact ⟨0, Nat.zero_le _, rfl, hcw, hB0⟩
  case round =>
    obtain ⟨j, hj, rfl, hcr, hB⟩ := hrel
    clear hcw hB0
    have hwf : Hid ((prevK L j).wf) := hid (prevK_wf hW.out (by rw [hn.out]; exact hj))
    have hOr := hid (hO2.out.none_ hcr.out)
    refine (Classical.em (j < n)).elim ?more ?done
    case' more =>
      intro hlt
      obtain ⟨i, hi', hie'⟩ := nth_ex (L := L) (j := j) (by rw [hn.out]; exact hlt)
      have hi := hid hi'
      have hie := hid hie'
      have hx0 := next_at hI.out (Less.refl L) hi' (fun _ _ => rfl)
      have hv0 := hI.out.val i hi'.1 hi'.2.1
      have hg0 : getM L (slAt L i).k = (slAt L i).v := getM_some (there_of hI.out hi'.1 hi'.2.1).1
      obtain ⟨bb, rfl, hbl, -, c0, c1, c2, c3, c4⟩ := row_at (hR.out.none_ hcr.out) hkl.out hlt
      rw [keysM_at hi' hie'] at c0 c1 c2 c3 c4
      have hkw0 := hW.out i hi'.1
      have hps0 : prevK L (j + 1) = (slAt L i).k := prevK_succ hie'
      generalize (slAt L i).k = x at hx0 hg0 c0 c1 c2 c3 c4 hkw0 hps0
      generalize (slAt L i).v = y at hx0 hv0 hg0
      obtain ⟨p, hp⟩ : ∃ p, Hid (prevK L j = p) := ⟨_, hid rfl⟩
      rw [hp.out] at hx0 hB hwf
      have hx := hid hx0
      have hg := hid hg0
      have hkw := hid hkw0
      have hps := hid hps0
      have hyk : (y.k == 0) = false := by simpa using hv0.2
      obtain ⟨z0, z1, z2, z3, z4⟩ := V.box hB.out
      have hzl := hB.out.lt
      have hw2r := hcr.out.size
      clear hi' hie' hx0 hv0 hg0 hkw0 hps0 hi hie
      have hrow := hid (show wr.cell? ⟨bb, j * 5, none⟩ = some (.int .i64 x.k) ∧ wr.cell? ⟨bb, j * 5 + 1, none⟩ = some (.int .i64 x.p) ∧ wr.cell? ⟨bb, j * 5 + 2, none⟩ = some (.int .i64 x.q) ∧ wr.cell? ⟨bb, j * 5 + 3, none⟩ = some (.string x.s) ∧ wr.cell? ⟨bb, j * 5 + 4, none⟩ = some (.int .i64 x.r) ∧ bb < wr.heap.size from ⟨c0, c1, c2, c3, c4, hbl⟩)
      clear c0 c1 c2 c3 c4 hbl
      go_wp2_with fail
      refine (o_next hOr.out (by have := hLl.out; omega) hwf.out hx.out).mono ?_
      rintro e w3 ⟨rfl, hc3⟩
      have hS0 : Hid (NextS ((w3.alloc (.cells x.cs.toArray 28)).alloc (.cells y.cs.toArray 28)).drew w3.heap.size bb j x y) := hid (by
        obtain ⟨c0, c1, c2, c3, c4, c5⟩ := hrow.out
        have hc : Chg (fun _ => False) wr ((w3.alloc (.cells x.cs.toArray 28)).alloc (.cells y.cs.toArray 28)).drew := ((hc3.alloc _).alloc _).drew
        have hb := Bk.new_at (w3.alloc (.cells x.cs.toArray 28)) 28 y.cs.toArray (w3.heap.size + 1) (by simp)
        exact ⟨((Bk.new w3 28 x.cs).alloc _).drew, hb.drew, (hc.cell (p := ⟨bb, j * 5, none⟩) c5 id).trans c0, (hc.cell (p := ⟨bb, j * 5 + 1, none⟩) c5 id).trans c1, (hc.cell (p := ⟨bb, j * 5 + 2, none⟩) c5 id).trans c2, (hc.cell (p := ⟨bb, j * 5 + 3, none⟩) c5 id).trans c3, (hc.cell (p := ⟨bb, j * 5 + 4, none⟩) c5 id).trans c4, Nat.lt_of_lt_of_le c5 hc.size⟩)
      have hO3 := hid (hOr.out.none_ (((hc3.alloc (.cells x.cs.toArray 28)).alloc (.cells y.cs.toArray 28)).drew))
      have hB3 := hid (hB.out.none_ (((hc3.alloc (.cells x.cs.toArray 28)).alloc (.cells y.cs.toArray 28)).drew))
      have hC3 := hid (hcr.out.trans_same (((hc3.alloc (.cells x.cs.toArray 28)).alloc (.cells y.cs.toArray 28)).drew))
      clear hc3 hOr hB hcr hrow z0 z1 z2 z3 z4
      have hjn : (j : Int) < (n : Int) := by omega
      go_wp2_with fail
      refine wp_region_rc (id := 10) [.rd [0, 1, 2, 3, 4, 5, 6, 7, 8, 9, 10, 11, 12, 13, 14, 15, 16, 17], .act 18, .rd [19, 20, 21, 22, 23, 24, 25]] [] [] (fun w' => NextS w' w3.heap.size bb j x y) (by kernel_rfl) 109 rfl (by kernel_rfl) (fun _ _ _ _ _ h => h) hS0.out ?_
      refine steps_rdW ?_
      apply Exists.intro
      refine ⟨?_, ?_⟩
      focus
        rintro w' ⟨hSa, hSb, c0, c1, c2, c3, c4, -⟩
        obtain ⟨x0, x1, x2, x3, x4⟩ := V.box hSa
        obtain ⟨y0, y1, y2, y3, y4⟩ := V.box hSb
        clear hSa hSb
        iterate 18 (refine stW_step rfl (fun K hK => ?_); go_simp; refine hK _ ?_; clear hK K)
        exact stW_nil rfl
      refine steps_act (o := ⟨_, _, _, _, _, _⟩) rfl (fun K2 hK2 => ?_)
      go_wp2_with fail
      refine (o_get hO3.out hkw.out hg.out).mono ?_
      rintro e w4 ⟨rfl, hc4⟩
      have hS4 := hid (hS0.out.none_ hc4)
      have hB4 := hid (hB3.out.none_ hc4)
      have hC4 := hid (hC3.out.trans_same hc4)
      clear hc4 hS0 hB3 hC3 hO3
      go_wp2_with fail
      refine hK2 _ _ hS4.out rfl ?_
      clear hK2 K2
      refine steps_rdW ?_
      apply Exists.intro
      refine ⟨?_, ?_⟩
      focus
        rintro w' ⟨hSa, hSb, c0, c1, c2, c3, c4, -⟩
        obtain ⟨x0, x1, x2, x3, x4⟩ := V.box hSa
        obtain ⟨y0, y1, y2, y3, y4⟩ := V.box hSb
        clear hSa hSb c0 c1 c2 c3 c4
        iterate 7 (refine stW_step rfl (fun K hK => ?_); go_simp; refine hK _ ?_; clear hK K)
        exact stW_nil rfl
      refine steps_end rfl ?_
      obtain ⟨x0, x1, x2, x3, x4⟩ := V.box hS4.out.1
      have hxl := hS4.out.1.lt
      obtain ⟨z0, z1, z2, z3, z4⟩ := V.box hB4.out
      have hzl4 := hB4.out.lt
      have hzf := fun jj => hB4.out.frozen jj
      have fin := hid (show Chg (fun _ => False) w2 (put5 w4 w2.heap.size 0 x) ∧ Bk (put5 w4 w2.heap.size 0 x) w2.heap.size 28 x.cs from ⟨hC4.out.trans (put5_chg w4 w2.heap.size 0 x) (fun jj hjj e => by omega), put5_bk hB4.out⟩)
      clear hS4 hB4 hC4
      go_wp2_with fail
      go_roundw
      case rel => exact ⟨j + 1, by omega, by go_num, hid fin.out.1, hid (by rw [hps.out]; exact fin.out.2)⟩
      case measure => simp [intOf]; omega
    case' done =>
      intro hlt
      have hjn : j = n := by omega
      subst hjn
      have hx : Hid (nextM L (prevK L j) = (V.zero, V.zero, false, 0)) := hid (by rw [← hn.out]; exact next_end hI.out (Less.refl L))
      obtain ⟨p, hp⟩ : ∃ p, Hid (prevK L j = p) := ⟨_, hid rfl⟩
      rw [hp.out] at hx hB hwf
      obtain ⟨z0, z1, z2, z3, z4⟩ := V.box hB.out
      have hzl := hB.out.lt
      go_wp2_with fail
      refine (o_next_end hOr.out (by have := hLl.out; omega) hwf.out hx.out).mono ?_
      rintro e w3 ⟨rfl, hc3⟩
      have hO3 := hid (hOr.out.none_ ((hc3.alloc (.cells V.zero.cs.toArray 28)).alloc (.cells V.zero.cs.toArray 28)))
      have hC3 := hid (hC2.out.trans_same (hcr.out.trans_same ((hc3.alloc (.cells V.zero.cs.toArray 28)).alloc (.cells V.zero.cs.toArray 28))))
      clear hc3 z0 z1 z2 z3 z4 hB hOr hcr hC2 hO2
      go_wp2_with fail
      refine (o_len hO3.out hn.out).mono ?_
      rintro e w4 ⟨rfl, rfl⟩
      go_wp2_with fail
      refine (lives_true _).mono ?_
      rintro e w5 ⟨rfl, hc5⟩
      have fin := hid (none_below (hC3.out.trans_same hc5))
      clear hc5
      go_wp2_with fail
      go_ret
      exact ⟨rfl, fin.out⟩
end Go.Proofs.Ytabodabfiklbnaa
