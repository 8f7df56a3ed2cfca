/-
  UpvalueCloses: the walk.
-/
import Derived.Test.YtjlefkohokcohaaRows2
import Derived.Test.YtjlefkohokcohaaLaws2
import Derived.Test.YtjlefkohokcohaaAcc
import Derived.Test.YtjlefkohokcohaaRegion2
namespace Go.Proofs.Ytjlefkohokcohaa
open Go.RowKit

theorem Try.info4 : (Try.prog.info? 4).map (fun i => (i.zero, i.size, i.bytes)) = some (some (.bool false), 1, 1) := by kernel_rfl

section
variable {w wc w' : World} {B o r : Nat} {L L' Lr : List Cl} {s : Value} {rs : List V}
/-- More registers behind the law's own. -/
theorem PAt.appended {A1 A' : Option Addr} {m k1 n' k' H : Nat} {ms : List V} (h : PAt w wc B o r L Lr (.slice A1 m k1) rs) (hown : w'.ownsRow 0 33 5 (.slice A' n' k') n' (rs.flatMap V.cs ++ ms.flatMap V.cs)) (hn : n' = rs.length + ms.length)
    (hg : wc.grownBy w' (Value.slice A1 m k1).ownBlock) (hat : ∀ k, (Value.slice A' n' k').ownBlock = some k → (Value.slice A1 m k1).ownBlock = some k ∨ k = H) (hH : wc.heap.size = H) : PAt w w' B o r L Lr (.slice A' n' k') (rs ++ ms) := by
  have hc : TC [33] B wc w' := (Chg.refl (fun k => B ≤ k ∧ OfT wc [33] k) wc).grown hg fun k hk _ => ⟨h.row.2 k hk, own_ofT h.row.1 (by simp) hk⟩
  refine ⟨h.pair.other hc, ⟨?_, fun k hk => (hat k hk).elim (h.row.2 k) fun e => by have := h.hB; omega⟩, Nat.le_trans h.hB hc.size, h.below.trans (hc.below h.hB)⟩
  rw [List.length_append, ← hn, List.flatMap_append]
  exact hown
theorem PAt.close_tc {A : Option Addr} {m k : Nat} (h : PAt w wc B o r L Lr (.slice A m k) rs) (hl : L.length ≤ 1000) (fr : Int) {q : Nat} (hq : cnt L fr = q) :
    Calls Try.prog 18 #[.pointer (some ⟨o, 0, none⟩), .int .i64 fr, .slice A m k] wc fun e w' => e = .returned (.int .i64 q) ∧ PAt w w' B o r (clo L fr rs) Lr (.slice A m k) rs ∧ TC [63, 68, 3] B wc w' := by
  obtain ⟨rfl, _⟩ := h.row.vs
  subst hq
  exact (p_close h.pair h.hB hl h.row fr).mono fun e w' ⟨h1, h2, h3⟩ => ⟨h1, h.tc h2 h3 (by simp), h3⟩
theorem row_nil (w : World) (B : Nat) : Row w B (.slice none 0 0) [] := ⟨⟨by simp, .inl ⟨rfl, rfl⟩⟩, fun k hk => by simp [Value.ownBlock] at hk⟩
end

theorem clo_clo (L : List Cl) (fr : Int) (rs : List V) : clo (clo L fr rs) fr rs = clo L fr rs := by
  unfold clo
  rw [List.map_map]
  refine List.map_congr_left fun c _ => ?_
  show cloF fr rs (cloF fr rs c) = cloF fr rs c
  by_cases h : c.o = true ∧ fr ≤ c.reg
  · have e : cloF fr rs c = cl rs c := by unfold cloF; rw [if_pos h]
    rw [e]
    unfold cloF
    rw [if_neg (fun hh => by have := hh.1; simp [cl] at this)]
  · have e : cloF fr rs c = c := by unfold cloF; rw [if_neg h]
    rw [e, e]

def AccC (w1 wr : World) (L : List Cl) (rs : List V) (fr : Int) (j : Nat) (s f : Value) : Prop :=
  Chg (fun _ => False) w1 wr ∧ OwnR w1 wr 33 5 s j ((upTo (fun i => getV L i rs) j).flatMap V.cs) ∧ OwnR w1 wr 4 1 f j (upTo1 (fun i => .bool (isOpen L i && decide (regOf L i < fr))) j)
theorem AccC.zero (w1 : World) (L : List Cl) (rs : List V) (fr : Int) : AccC w1 w1 L rs fr 0 (.slice none 0 0) (.slice none 0 0) := ⟨Chg.refl _ _, OwnR.nil _ _ _ _, OwnR.nil _ _ _ _⟩
theorem AccC.more {w1 wr w2 w4 w5 : World} {L : List Cl} {rs : List V} {fr : Int} {j k2 k3 k4 k5 : Nat} {A2 A3 A4 A5 : Option Addr} {x : V} {c : Bool} (h : AccC w1 wr L rs fr j (.slice A2 j k2) (.slice A3 j k3)) (hc2 : Chg (fun _ => False) wr w2)
    (hx : getV L j rs = x) (hc : (isOpen L j && decide (regOf L j < fr)) = c)
    (hown4 : w4.ownsRow 0 33 5 (.slice A4 (j + 1) k4) (j + 1) ((upTo (fun i => getV L i rs) j).flatMap V.cs ++ x.cs)) (hg4 : ((w2.alloc (.cells x.cs.toArray 33)).alloc (.cells x.cs.toArray 33)).grownBy w4 (Value.slice A2 j k2).ownBlock)
    (hat4 : ∀ k, (Value.slice A4 (j + 1) k4).ownBlock = some k → (Value.slice A2 j k2).ownBlock = some k ∨ k = w2.heap.size + 2)
    (hown5 : w5.ownsRow 0 4 1 (.slice A5 (j + 1) k5) (j + 1) (upTo1 (fun i => .bool (isOpen L i && decide (regOf L i < fr))) j ++ [.bool c])) (hg5 : (w4.alloc (.cells #[.bool c] 4)).grownBy w5 (Value.slice A3 j k3).ownBlock)
    (hat5 : ∀ k, (Value.slice A5 (j + 1) k5).ownBlock = some k → (Value.slice A3 j k3).ownBlock = some k ∨ k = w4.heap.size + 1) : AccC w1 w5 L rs fr (j + 1) (.slice A4 (j + 1) k4) (.slice A5 (j + 1) k5) := by
  obtain ⟨hC, hS, hF⟩ := h
  subst hx; subst hc
  have e2 : Chg (fun _ => False) wr ((w2.alloc (.cells (getV L j rs).cs.toArray 33)).alloc (.cells (getV L j rs).cs.toArray 33)) := (hc2.alloc _).alloc _
  have hS2 := hS.none_ e2
  have hF2 := hF.none_ e2
  have C4 := hS2.grown (hC.trans_same e2) hg4
  have hF4 := (hF2.other hS2.own (by decide) hg4).alloc (.cells #[.bool (isOpen L j && decide (regOf L j < fr))] 4)
  have hz2 : w1.heap.size ≤ w2.heap.size := Nat.le_trans hC.size hc2.size
  have hS4 : OwnR w1 w4 33 5 (.slice A4 (j + 1) k4) (j + 1) ((upTo (fun i => getV L i rs) (j + 1)).flatMap V.cs) := by
    rw [upTo_succ]
    exact hS2.appended hown4 hat4 (by omega)
  have hz4 : w1.heap.size ≤ w4.heap.size := C4.size
  refine ⟨hF4.grown (C4.alloc _) hg5, (hS4.alloc _).other hF4.own (by decide) hg5, ?_⟩
  rw [upTo1_succ]
  exact hF4.appended hown5 hat5 (by omega)
theorem AccC.tc {w1 wr w' : World} {L : List Cl} {rs : List V} {fr : Int} {j : Nat} {s f : Value} {B : Nat} (h : OwnR w1 wr 33 5 s j ((upTo (fun i => getV L i rs) j).flatMap V.cs) ∧ OwnR w1 wr 4 1 f j (upTo1 (fun i => .bool (isOpen L i && decide (regOf L i < fr))) j)) (hc : TC [63, 68, 3] B wr w') :
    OwnR w1 w' 33 5 s j ((upTo (fun i => getV L i rs) j).flatMap V.cs) ∧ OwnR w1 w' 4 1 f j (upTo1 (fun i => .bool (isOpen L i && decide (regOf L i < fr))) j) :=
  ⟨⟨own_tc h.1.own hc (by simp), h.1.lo⟩, ⟨own_tc h.2.own hc (by simp), h.2.lo⟩⟩

set_option maxRecDepth 100000 in
set_option maxHeartbeats 4000000 in
theorem closes_true (w : World) (A : Option Addr) (l : List OpV) (k : Nat) (fr : Int) (Am : Option Addr) (ms : List V) (km : Nat) (hl : Rd w 8 A l.length (l.flatMap OpV.cs)) (hm : Vs w Am ms) (hmx : ms.length ≤ maxLen) :
    Calls Try.prog 6 #[.slice A l.length k, .int .i64 fr, .slice Am ms.length km] w fun e w' => e = .returned (.bool true) ∧ Below w.heap.size w w' := by
  have hl := hid hl
  have hm := hid hm
  unfold maxLen at hmx
  by_cases h200 : 200 < l.length
  · have hlt : (200 : Int) < l.length := by omega
    go_enter Try.func6, Try.ntmps6
    go_wp2_with (go_at_call 13; refine (lives_true _).mono ?_; rintro e w5 ⟨rfl, hc5⟩; have fin := hid hc5)
    go_ret
    exact ⟨rfl, fin.out⟩
  have hlt : ¬ (200 : Int) < l.length := by omega
  have hd1 : decide ((200 : Int) < l.length) = false := by simp; omega
  by_cases h300 : 300 < ms.length
  · have hlt : (300 : Int) < ms.length := by omega
    go_enter Try.func6, Try.ntmps6
    go_wp2_with (go_at_call 13; refine (lives_true _).mono ?_; rintro e w5 ⟨rfl, hc5⟩; have fin := hid hc5)
    go_ret
    exact ⟨rfl, fin.out⟩
  have hlt3 : ¬ (300 : Int) < ms.length := by omega
  have hd2 : decide ((300 : Int) < ms.length) = false := by simp; omega
  have hmade := hid (made_at w A l k 39 39 rfl (by omega) hl.out (by omega))
  have hones := hid (V.ones ms)
  obtain ⟨i33, hi33, hz33, hs33, hb33⟩ := info_parts Try.info33
  obtain ⟨i4, hi4, hz4, hs4, hb4⟩ := info_parts Try.info4
  go_enter Try.func6, Try.ntmps6
  go_wp2_with fail
  refine hmade.out.mono ?_
  rintro e w1 ⟨B, o, r, L, rs, A1, k1, rfl, hlen', hLl, hBw, hX'⟩
  have hlen := hid hlen'
  have hmr := hid (Rd.below hm.out (hX'.below.mono hBw) (Nat.le_refl _))
  have hX := hid hX'
  clear hX' hmade hlen'
  go_wp2_with ((with_reducible show wpList _ _ _ ((⟨some 44, _, _, _, _, _⟩ : Oper) :: _) _ _); refine wpList_append_rd (o := ⟨some 44, _, _, _, _, _⟩) rfl (.tmp 42) (.tmp 43) 27 rfl 33 i33 _ 5 48 Try.underlying27 hi33 hz33 hs33 hb33 rfl (by omega) (.slice A1 39 k1) 39 _ rfl (by have h := hX.out.row.1; rw [hlen.out] at h; exact h) Am ms.length km (ms.flatMap V.cs) rfl hmr.out hones.out (by unfold maxLen; omega) (by omega) w1.heap.size rfl ?_; intro A2 k2 w2 hown2 hg2 hat2; have hY := hid (hX.out.appended hown2 (by rw [hlen.out]) hg2 hat2 rfl); clear hown2 hg2 hat2 hX hmr)
  have hn2 : 39 + ms.length ≤ 339 := by omega
  have hlen2 : Hid ((rs ++ ms).length = 39 + ms.length) := hid (by rw [List.length_append, hlen.out])
  generalize hrs : rs ++ ms = rt at hY hlen2
  clear hrs
  generalize hmt : 39 + ms.length = mt at hY hlen2 hn2
  clear hmt
  go_wp2_with fail
  go_loopw [10, 11, 12, 13] (fun s f n i wr => ∃ j q : Nat, j ≤ L.length ∧ q ≤ j ∧ n = .int .i64 q ∧ i = .int .i64 j ∧ Hid (AccC w2 wr L rt fr j s f) ∧ Hid (cntT L fr j = q) ∧ Hid (∀ i : Nat, i < j → chk L i mt = 0)) (fun _ _ _ i _ => L.length - (intOf i).toNat)
  case atStart => exact ⟨0, 0, Nat.zero_le _, Nat.zero_le _, rfl, rfl, hid (AccC.zero w2 L rt fr), hid rfl, hid fun i hi => absurd hi (by omega)⟩
  case round =>
    obtain ⟨j, q, hj, hqj, rfl, rfl, hA, hq, hz⟩ := hrel
    obtain ⟨A3, k3, rfl⟩ := hA.out.2.1.form
    obtain ⟨A4, k4, rfl⟩ := hA.out.2.2.form
    have hYr := hid (hY.out.none_ hA.out.1)
    by_cases hlt2 : j < L.length
    · obtain ⟨x, hx⟩ : ∃ x, Hid (getV L j rt = x) := ⟨_, hid rfl⟩
      obtain ⟨rg, hrg⟩ : ∃ rg, Hid (regOf L j = rg) := ⟨_, hid rfl⟩
      rcases chk_cases L j mt with ⟨h6, hr⟩ | ⟨h19, -, -⟩ | ⟨h0', -, -⟩
      · omega
      · have hop : Hid (isOpen L j = true) := hid (by
          rw [(regOf_in hlt2).2]
          rw [chk_at hlt2] at h19
          split at h19
          · rename_i h; exact h.1
          · cases h19)
        have h0 := hid h19
        clear h19
        go_wp2_with (first
          | (go_at_call 15; refine hYr.out.count.mono ?_; rintro e w' ⟨rfl, rfl⟩)
          | (go_at_call 19; refine (hYr.out.get hYr.out.row hx.out h0.out).mono ?_; rintro e w3 ⟨rfl, hc3'⟩; have hY3 := hid ((hYr.out.none_ hc3').none_ ((Chg.refl _ w3).alloc (.cells #[.int .i64 x.k, .int .i64 x.p, .int .i64 x.q, .string x.s, .int .i64 x.r] 33))); clear hc3')
          | (go_at_call 17; refine (hY3.out.register hrg.out hop.out).mono ?_; rintro e w' ⟨rfl, rfl⟩)
          | (go_at_call 13; refine (lives_true _).mono ?_; rintro e w9 ⟨rfl, hc9⟩; have fin := hid (hY3.out.below.trans (hc9.mono hY3.out.hB))))
        go_ret
        exact ⟨rfl, fin.out.mono hBw⟩
      · have h0 := hid h0'
        have h00 := hid h0'
        clear h0'
        have hst := hid (cntT_step (fr := fr) hlt2)
        rcases Bool.eq_false_or_eq_true (isOpen L j) with ho | ho
        · have hop := hid ho
          clear ho
          by_cases hfr : rg < fr
          · have hfl : Hid ((isOpen L j && decide (regOf L j < fr)) = true) := hid (by rw [hop.out, hrg.out]; simpa using hfr)
            have hq1 : Hid (cntT L fr (j + 1) = q) := hid (by rw [hst.out, hq.out, hop.out, hrg.out, if_neg (by omega), Nat.add_zero])
            have hdf : decide (rg < fr) = true := by simpa using hfr
            have hdg : decide (fr ≤ rg) = false := by simp; omega
            clear hst
            go_wp2_with (first
              | (go_at_call 15; refine hYr.out.count.mono ?_; rintro e w' ⟨rfl, rfl⟩)
              | (go_at_call 19; refine (hYr.out.get hYr.out.row hx.out h0.out).mono ?_; rintro e w3 ⟨rfl, hc3'⟩; have hc3 := hid hc3'; have hY3 := hid ((hYr.out.none_ hc3').none_ ((Chg.refl _ w3).alloc (.cells #[.int .i64 x.k, .int .i64 x.p, .int .i64 x.q, .string x.s, .int .i64 x.r] 33))); clear hc3')
              | (go_at_call 17; refine (hY3.out.register hrg.out hop.out).mono ?_; rintro e w' ⟨rfl, rfl⟩)
              | ((with_reducible show wpList _ _ _ ((⟨some 73, _, _, _, _, _⟩ : Oper) :: _) _ _); refine wpList_append_rd (o := ⟨some 73, _, _, _, _, _⟩) rfl (.tmp 70) (.tmp 72) 27 rfl 33 i33 _ 5 48 Try.underlying27 hi33 hz33 hs33 hb33 rfl (by omega) (.slice A3 j k3) j _ rfl (((hA.out.2.1.none_ hc3.out).alloc _).alloc _).own (some ⟨w3.heap.size + 1, 0, none⟩) 1 1 x.cs rfl (Rd.one _ 33 5 x.cs rfl _ (by simp)) (V.ones1 x) (by unfold maxLen; omega) (by omega) (w3.heap.size + 2) (by simp) ?_; intro A5 k5 w5 hown5' hg5' hat5'; have hown5 := hid hown5'; have hg5 := hid hg5'; have hat5 := hid hat5'; clear hown5' hg5' hat5')
              | ((with_reducible show wpList _ _ _ ((⟨some 82, _, _, _, _, _⟩ : Oper) :: _) _ _); refine wpList_append_rd (o := ⟨some 82, _, _, _, _, _⟩) rfl (.tmp 74) (.tmp 81) 55 rfl 4 i4 _ 1 1 Try.underlying55 hi4 hz4 hs4 hb4 rfl (by omega) (.slice A4 j k4) j _ rfl ((((hA.out.2.2.none_ ((hc3.out.alloc _).alloc _)).other (((hA.out.2.1.none_ hc3.out).alloc _).alloc _).own (by decide) hg5.out).alloc _).own) (some ⟨w5.heap.size, 0, none⟩) 1 1 [.bool true] rfl (Rd.one w5 4 1 [_] rfl _ rfl) (by simp [Value.oneCell']) (by unfold maxLen; omega) (by omega) (w5.heap.size + 1) (by simp) ?_; intro A6 k6 w6 hown6' hg6' hat6'; have fin := hid (hA.out.more hc3.out hx.out hfl.out hown5.out hg5.out hat5.out hown6' hg6' hat6'); clear hown6' hg6' hat6' hown5 hg5 hat5 hA hc3 hx h0 hYr hY3))
            go_roundw
            case rel => exact ⟨j + 1, q, by omega, by omega, rfl, by go_num, fin, hid hq1.out, hid fun i hi => by
              by_cases e : i = j
              · subst e; exact h00.out
              · exact hz.out i (by omega)⟩
            case measure => simp [intOf]; omega
          · have hfl : Hid ((isOpen L j && decide (regOf L j < fr)) = false) := hid (by rw [hop.out, hrg.out]; simp; omega)
            have hq1 : Hid (cntT L fr (j + 1) = q + 1) := hid (by rw [hst.out, hq.out, hop.out, hrg.out, if_pos ⟨rfl, by omega⟩])
            have hdf : decide (rg < fr) = false := by simpa using hfr
            have hdg : decide (fr ≤ rg) = true := by simp; omega
            clear hst
            go_wp2_with (first
              | (go_at_call 15; refine hYr.out.count.mono ?_; rintro e w' ⟨rfl, rfl⟩)
              | (go_at_call 19; refine (hYr.out.get hYr.out.row hx.out h0.out).mono ?_; rintro e w3 ⟨rfl, hc3'⟩; have hc3 := hid hc3'; have hY3 := hid ((hYr.out.none_ hc3').none_ ((Chg.refl _ w3).alloc (.cells #[.int .i64 x.k, .int .i64 x.p, .int .i64 x.q, .string x.s, .int .i64 x.r] 33))); clear hc3')
              | (go_at_call 17; refine (hY3.out.register hrg.out hop.out).mono ?_; rintro e w' ⟨rfl, rfl⟩)
              | ((with_reducible show wpList _ _ _ ((⟨some 73, _, _, _, _, _⟩ : Oper) :: _) _ _); refine wpList_append_rd (o := ⟨some 73, _, _, _, _, _⟩) rfl (.tmp 70) (.tmp 72) 27 rfl 33 i33 _ 5 48 Try.underlying27 hi33 hz33 hs33 hb33 rfl (by omega) (.slice A3 j k3) j _ rfl (((hA.out.2.1.none_ hc3.out).alloc _).alloc _).own (some ⟨w3.heap.size + 1, 0, none⟩) 1 1 x.cs rfl (Rd.one _ 33 5 x.cs rfl _ (by simp)) (V.ones1 x) (by unfold maxLen; omega) (by omega) (w3.heap.size + 2) (by simp) ?_; intro A5 k5 w5 hown5' hg5' hat5'; have hown5 := hid hown5'; have hg5 := hid hg5'; have hat5 := hid hat5'; clear hown5' hg5' hat5')
              | ((with_reducible show wpList _ _ _ ((⟨some 82, _, _, _, _, _⟩ : Oper) :: _) _ _); refine wpList_append_rd (o := ⟨some 82, _, _, _, _, _⟩) rfl (.tmp 74) (.tmp 81) 55 rfl 4 i4 _ 1 1 Try.underlying55 hi4 hz4 hs4 hb4 rfl (by omega) (.slice A4 j k4) j _ rfl ((((hA.out.2.2.none_ ((hc3.out.alloc _).alloc _)).other (((hA.out.2.1.none_ hc3.out).alloc _).alloc _).own (by decide) hg5.out).alloc _).own) (some ⟨w5.heap.size, 0, none⟩) 1 1 [.bool false] rfl (Rd.one w5 4 1 [_] rfl _ rfl) (by simp [Value.oneCell']) (by unfold maxLen; omega) (by omega) (w5.heap.size + 1) (by simp) ?_; intro A6 k6 w6 hown6' hg6' hat6'; have fin := hid (hA.out.more hc3.out hx.out hfl.out hown5.out hg5.out hat5.out hown6' hg6' hat6'); clear hown6' hg6' hat6' hown5 hg5 hat5 hA hc3 hx h0 hYr hY3))
            go_roundw
            case rel => exact ⟨j + 1, q + 1, by omega, by omega, by go_num, by go_num, fin, hid hq1.out, hid fun i hi => by
              by_cases e : i = j
              · subst e; exact h00.out
              · exact hz.out i (by omega)⟩
            case measure => simp [intOf]; omega
        · have hop := hid ho
          have hfl : Hid ((isOpen L j && decide (regOf L j < fr)) = false) := hid (by rw [hop.out]; rfl)
          have hq1 : Hid (cntT L fr (j + 1) = q) := hid (by rw [hst.out, hq.out, hop.out, if_neg (by simp), Nat.add_zero])
          clear hst ho
          go_wp2_with (first
            | (go_at_call 15; refine hYr.out.count.mono ?_; rintro e w' ⟨rfl, rfl⟩)
            | (go_at_call 19; refine (hYr.out.get hYr.out.row hx.out h0.out).mono ?_; rintro e w3 ⟨rfl, hc3'⟩; have hc3 := hid hc3'; have hY3 := hid ((hYr.out.none_ hc3').none_ ((Chg.refl _ w3).alloc (.cells #[.int .i64 x.k, .int .i64 x.p, .int .i64 x.q, .string x.s, .int .i64 x.r] 33))); clear hc3')
            | (go_at_call 17; refine (hY3.out.register hrg.out hop.out).mono ?_; rintro e w' ⟨rfl, rfl⟩)
            | ((with_reducible show wpList _ _ _ ((⟨some 73, _, _, _, _, _⟩ : Oper) :: _) _ _); refine wpList_append_rd (o := ⟨some 73, _, _, _, _, _⟩) rfl (.tmp 70) (.tmp 72) 27 rfl 33 i33 _ 5 48 Try.underlying27 hi33 hz33 hs33 hb33 rfl (by omega) (.slice A3 j k3) j _ rfl (((hA.out.2.1.none_ hc3.out).alloc _).alloc _).own (some ⟨w3.heap.size + 1, 0, none⟩) 1 1 x.cs rfl (Rd.one _ 33 5 x.cs rfl _ (by simp)) (V.ones1 x) (by unfold maxLen; omega) (by omega) (w3.heap.size + 2) (by simp) ?_; intro A5 k5 w5 hown5' hg5' hat5'; have hown5 := hid hown5'; have hg5 := hid hg5'; have hat5 := hid hat5'; clear hown5' hg5' hat5')
            | ((with_reducible show wpList _ _ _ ((⟨some 82, _, _, _, _, _⟩ : Oper) :: _) _ _); refine wpList_append_rd (o := ⟨some 82, _, _, _, _, _⟩) rfl (.tmp 74) (.tmp 81) 55 rfl 4 i4 _ 1 1 Try.underlying55 hi4 hz4 hs4 hb4 rfl (by omega) (.slice A4 j k4) j _ rfl ((((hA.out.2.2.none_ ((hc3.out.alloc _).alloc _)).other (((hA.out.2.1.none_ hc3.out).alloc _).alloc _).own (by decide) hg5.out).alloc _).own) (some ⟨w5.heap.size, 0, none⟩) 1 1 [.bool false] rfl (Rd.one w5 4 1 [_] rfl _ rfl) (by simp [Value.oneCell']) (by unfold maxLen; omega) (by omega) (w5.heap.size + 1) (by simp) ?_; intro A6 k6 w6 hown6' hg6' hat6'; have fin := hid (hA.out.more hc3.out hx.out hfl.out hown5.out hg5.out hat5.out hown6' hg6' hat6'); clear hown6' hg6' hat6' hown5 hg5 hat5 hA hc3 hx h0 hYr hY3))
          go_roundw
          case rel => exact ⟨j + 1, q, by omega, by omega, rfl, by go_num, fin, hid hq1.out, hid fun i hi => by
            by_cases e : i = j
            · subst e; exact h00.out
            · exact hz.out i (by omega)⟩
          case measure => simp [intOf]; omega
    · obtain rfl : j = L.length := by omega
      have hqc : Hid (cnt L fr = q) := hid (by have h := hq.out; unfold cntT at h; rw [List.take_length] at h; exact h)
      have hI := hid hY.out.inv
      go_wp2_with (go_at_call 15; refine hYr.out.count.mono ?_; rintro e w' ⟨rfl, rfl⟩)
      have hz0 := hid hz.out
      have hB2 := hid hA.out.2
      clear hz hA hq hY
      refine (hYr.out.close_tc (by omega) fr hqc.out).mono ?_
      rintro e w7 ⟨rfl, hZ', hc7⟩
      have hB2' := hid (AccC.tc hB2.out hc7)
      have hZ := hid hZ'
      clear hZ' hc7 hYr
      go_wp2_with fail
      refine (hZ.out.close_tc (by rw [clo_len]; omega) fr (cnt_clo L fr rt)).mono ?_
      rintro e w8 ⟨rfl, hW', hc8⟩
      have hB3 := hid (AccC.tc hB2'.out hc8)
      rw [clo_clo] at hW'
      have hW := hid hW'
      clear hW' hc8 hZ hB2'
      go_wp2_with fail
      go_loopw [18] (fun i wq => ∃ j : Nat, j ≤ L.length ∧ i = .int .i64 j ∧ Hid (Chg (fun _ => False) w8 wq)) (fun i _ => L.length - (intOf i).toNat)
      case atStart => exact ⟨0, Nat.zero_le _, rfl, hid (Chg.refl _ _)⟩
      case round =>
        obtain ⟨j, hj2, rfl, hC⟩ := hrel
        have hWr := hid (hW.out.none_ hC.out)
        by_cases hlt2 : j < L.length
        · obtain ⟨bS, rfl, hbS, hS0, s0', s1', s2', s3', s4'⟩ := (hB3.out.1.none_ hC.out).val_at hlt2
          obtain ⟨bF, rfl, hbF, hF0, f0'⟩ := (hB3.out.2.none_ hC.out).one_at hlt2
          clear hS0 hF0 s0' s1' s2' s3' s4' f0'
          obtain ⟨x, hx⟩ : ∃ x, Hid (getV L j rt = x) := ⟨_, hid rfl⟩
          have hgc := hid (getV_clo hI.out hlt2 fr (rs := rt) (by rw [hlen2.out]; exact hz0.out j hlt2))
          have hgx : Hid (getV (clo L fr rt) j rt = x) := hid (hgc.out.1.trans hx.out)
          have hck : Hid (chk (clo L fr rt) j mt = 0) := hid (by have h := hgc.out.2; rw [hlen2.out] at h; exact h)
          obtain ⟨rg, hrg⟩ : ∃ rg, Hid (regOf (clo L fr rt) j = rg) := ⟨_, hid rfl⟩
          have hio := hid (isOpen_clo hlt2 fr rt)
          have hlt4 : Hid (j < (clo L fr rt).length) := hid (by rw [clo_len]; exact hlt2)
          rcases Bool.eq_false_or_eq_true (isOpen (clo L fr rt) j) with ho | ho
          · have hop := hid ho
            have hfo : Hid ((isOpen L j && decide (regOf L j < fr)) = true) := hid (hio.out.symm.trans ho)
            clear ho hio hgc
            go_wp2_with (first
              | (go_at_call 19; refine (hWr.out.get hWr.out.row hgx.out hck.out).mono ?_; rintro e w9 ⟨rfl, hc9⟩; have hbS9 : bS < w9.heap.size := Nat.lt_of_lt_of_le hbS hc9.size; have hbF9 : bF < w9.heap.size := Nat.lt_of_lt_of_le hbF hc9.size; obtain ⟨b9, e9, -, -, f0⟩ := (hB3.out.2.none_ (hC.out.trans_same hc9)).one_at hlt2; injection e9 with e9; injection e9 with e9 _; subst e9; rw [hfo.out] at f0; obtain ⟨b9, e9, -, -, s0, s1, s2, s3, s4⟩ := (hB3.out.1.none_ (hC.out.trans_same hc9)).val_at hlt2; injection e9 with e9; injection e9 with e9 _; subst e9; rw [hx.out] at s0 s1 s2 s3 s4; have fin := hid (hC.out.trans_same hc9); have hW9 := hid ((hWr.out.none_ hc9).none_ ((Chg.refl _ w9).alloc (.cells #[.int .i64 x.k, .int .i64 x.p, .int .i64 x.q, .string x.s, .int .i64 x.r] 33))); clear hc9)
              | (go_at_call 17; refine (hW9.out.register hrg.out hop.out).mono ?_; rintro e w' ⟨rfl, rfl⟩))
            (refine wp_region_rc (id := 27) [.rd [0, 1, 2, 3, 4, 5, 6, 7, 8, 9, 10, 11, 12, 13, 14, 15, 16, 17]] [] [] (fun w' => w' = _) (by kernel_rfl) 157 rfl (by kernel_rfl) (fun _ _ _ _ _ h => h) rfl ?_; refine steps_rdW ?_; apply Exists.intro; refine ⟨?_, ?_⟩; (focus (rintro w' rfl; (iterate 18 (refine stW_step rfl (fun K hK => ?_); go_simp; refine hK _ ?_; clear hK K)); exact stW_nil rfl)); refine steps_end rfl ?_)
            go_wp2
            go_roundw
            case rel => exact ⟨j + 1, by omega, by go_num, hid ((fin.out.alloc _).drew)⟩
            case measure => simp [intOf]; omega
          · have hop := hid ho
            have hfo : Hid ((isOpen L j && decide (regOf L j < fr)) = false) := hid (hio.out.symm.trans ho)
            clear ho hio hgc
            go_wp2_with (first
              | (go_at_call 19; refine (hWr.out.get hWr.out.row hgx.out hck.out).mono ?_; rintro e w9 ⟨rfl, hc9⟩; have hbS9 : bS < w9.heap.size := Nat.lt_of_lt_of_le hbS hc9.size; have hbF9 : bF < w9.heap.size := Nat.lt_of_lt_of_le hbF hc9.size; obtain ⟨b9, e9, -, -, f0⟩ := (hB3.out.2.none_ (hC.out.trans_same hc9)).one_at hlt2; injection e9 with e9; injection e9 with e9 _; subst e9; rw [hfo.out] at f0; obtain ⟨b9, e9, -, -, s0, s1, s2, s3, s4⟩ := (hB3.out.1.none_ (hC.out.trans_same hc9)).val_at hlt2; injection e9 with e9; injection e9 with e9 _; subst e9; rw [hx.out] at s0 s1 s2 s3 s4; have fin := hid (hC.out.trans_same hc9); have hW9 := hid ((hWr.out.none_ hc9).none_ ((Chg.refl _ w9).alloc (.cells #[.int .i64 x.k, .int .i64 x.p, .int .i64 x.q, .string x.s, .int .i64 x.r] 33))); clear hc9)
              | (go_at_call 17; refine (hW9.out.register hrg.out hop.out).mono ?_; rintro e w' ⟨rfl, rfl⟩))
            (refine wp_region_rc (id := 27) [.rd [0, 1, 2, 3, 4, 5, 6, 7, 8, 9, 10, 11, 12, 13, 14, 15, 16, 17]] [] [] (fun w' => w' = _) (by kernel_rfl) 157 rfl (by kernel_rfl) (fun _ _ _ _ _ h => h) rfl ?_; refine steps_rdW ?_; apply Exists.intro; refine ⟨?_, ?_⟩; (focus (rintro w' rfl; (iterate 18 (refine stW_step rfl (fun K hK => ?_); go_simp; refine hK _ ?_; clear hK K)); exact stW_nil rfl)); refine steps_end rfl ?_)
            have hsh := hid (getV_shut hlt4.out hop.out rt)
            go_wp2_with fail
            refine ((hW9.out.none_ (Chg.drew (Chg.refl _ _))).get (row_nil _ B) (hsh.out.1.trans hgx.out) hsh.out.2).mono ?_
            rintro e w11 ⟨rfl, hc11⟩
            obtain ⟨d0, d1, d2, d3, d4⟩ := V.box ((Bk.new w9 33 x.cs).drew.none_ hc11)
            have hl11 : w9.heap.size < w11.heap.size := ((Bk.new w9 33 x.cs).drew.none_ hc11).lt
            have fin2 := hid ((fin.out.alloc _).drew.trans_same hc11)
            clear hc11 hsh
            go_wp2
            go_roundw
            case rel => exact ⟨j + 1, by omega, by go_num, hid (fin2.out.alloc _)⟩
            case measure => simp [intOf]; omega
        · obtain rfl : j = L.length := by omega
          go_wp2_with (go_at_call 13; refine (lives_true _).mono ?_; rintro e w9 ⟨rfl, hc9⟩; have fin := hid (hWr.out.below.trans (hc9.mono hWr.out.hB)))
          go_ret
          exact ⟨rfl, fin.out.mono hBw⟩
end Go.Proofs.Ytjlefkohokcohaa
