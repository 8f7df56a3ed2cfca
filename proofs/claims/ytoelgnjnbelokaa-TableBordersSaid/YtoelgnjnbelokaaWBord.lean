/-
  TableBorders: the walk.
-/
import Derived.Test.YtoelgnjnbelokaaTBord
namespace Go.Proofs.Ytoelgnjnbelokaa
open Go.RowKit Go.Maps

/-- What holds between two rounds. -/
structure BordI (w wr : World) (o j : Nat) (rb : Bool) (a : List V) (m : List Sl) : Prop where
  tab : Tab wr (fun _ => False) w.heap.size o (j * 400000) a m
  inv : TInv a m
  len : a.length + nOf m ≤ j
  mlen : m.length ≤ j
  full : rb = false → ∀ i, i < a.length → (vAt a i).k ≠ 0
  chg : Chg (fun _ => False) w wr
theorem BordI.none_ {w wr w' : World} {o j : Nat} {rb : Bool} {a : List V} {m : List Sl} (h : BordI w wr o j rb a m) (hc : Chg (fun _ => False) wr w') : BordI w w' o j rb a m :=
  { tab := h.tab.none_ hc, inv := h.inv, len := h.len, mlen := h.mlen, full := h.full, chg := h.chg.trans_same hc }
/-- One key's value, as the law asks for it. -/
theorem bord_get {w wr : World} {o j : Nat} {rb : Bool} {a : List V} {m : List Sl} (h : BordI w wr o j rb a m) (hj : j ≤ 1000) {n : Int} (hn : -2147483647 ≤ n ∧ n ≤ 2147483647) {y : V} (hy : getT a m (kI n) = y) :
    Calls Try.prog 13 #[.pointer (some ⟨o, 0, none⟩), .agg #[.int .i64 2, .int .i64 n, .int .i64 1, .string ⟨#[]⟩, .int .i64 0]] wr fun e w' => e = .returned (.agg #[.int .i64 y.k, .int .i64 y.p, .int .i64 y.q, .string y.s, .int .i64 y.r]) ∧ Chg (fun _ => False) wr w' :=
  t_get h.tab (by have := h.len; omega) (kI_wf hn.1 hn.2) hy
theorem bord_get_zero {w wr : World} {o j : Nat} {rb : Bool} {a : List V} {m : List Sl} (h : BordI w wr o j rb a m) (hj : j ≤ 1000) {n : Int} (hn : -2147483647 ≤ n ∧ n ≤ 2147483647) (hy : getT a m (kI n) = V.zero) :
    Calls Try.prog 13 #[.pointer (some ⟨o, 0, none⟩), .agg #[.int .i64 2, .int .i64 n, .int .i64 1, .string ⟨#[]⟩, .int .i64 0]] wr fun e w' => e = .returned (.agg #[.int .i64 0, .int .i64 0, .int .i64 0, .string ⟨#[]⟩, .int .i64 0]) ∧ Chg (fun _ => False) wr w' := bord_get h hj hn hy
theorem bord_size {w wr : World} {o j : Nat} {rb : Bool} {a : List V} {m : List Sl} (h : BordI w wr o j rb a m) (hj : j ≤ 1000) : Calls Try.prog 19 #[.pointer (some ⟨o, 0, none⟩)] wr fun e w' => ∃ z : Int, e = .returned (.int .i64 z) ∧ 4 + 2 * (a.length : Int) ≤ z ∧ Chg (fun _ => False) wr w' :=
  (t_size h.tab rfl rfl (by have := h.len; have := h.mlen; omega)).mono fun _ _ ⟨h1, h2⟩ => ⟨_, h1, by omega, h2⟩
set_option maxRecDepth 100000 in
theorem borders_big (w : World) (A : Option Addr) (q lk : Nat) (hbad : 200 < q) :
    Calls Try.prog 7 #[.slice A q lk] w fun e w' => e = .returned (.bool true) ∧ Below w.heap.size w w' := by
  have ht : decide (200 < q) = true := decide_eq_true hbad
  clear hbad
  go_enter Try.func7, Try.ntmps7
  go_wp2_with fail
  refine (t_large _ A q lk).mono ?_
  rintro e w1 ⟨rfl, hw⟩
  subst hw
  rw [ht]
  go_wp2_with fail
  refine (awake_true _).mono ?_
  rintro e w3 ⟨rfl, hc3⟩
  have fin := hid (none_below hc3)
  clear hc3
  go_wp2_with fail
  go_ret
  exact ⟨rfl, fin.out⟩
set_option maxRecDepth 100000 in
set_option maxHeartbeats 16000000 in
theorem borders_true (w : World) (A : Option Addr) (l : List OpV) (lk : Nat) (hl : OpsRd w A l) :
    Calls Try.prog 7 #[.slice A l.length lk] w fun e w' => e = .returned (.bool true) ∧ Below w.heap.size w w' := by
  by_cases hbad : 200 < l.length
  · exact borders_big w A l.length lk hbad
  have hlh := hid hl
  obtain ⟨lim, hlim⟩ : ∃ lim, Hid (l.length = lim) := ⟨_, hid rfl⟩
  rw [hlim.out] at hbad ⊢
  have ht : decide (200 < lim) = false := decide_eq_false hbad
  have hlim2 : lim ≤ 200 := by omega
  clear hbad hl
  go_enter Try.func7, Try.ntmps7
  go_wp2_with fail
  refine (t_large _ A lim lk).mono ?_
  rintro e w1 ⟨rfl, hw⟩
  subst hw
  rw [ht]
  go_wp2_with fail
  refine (t_new _).mono ?_
  rintro e w1 ⟨o, rfl, hT', hc1⟩
  have hstart : Hid (BordI w w1 o 0 false [] []) := hid { tab := hT'.mono (by omega), inv := TInv.nil, len := by simp [nOf, liveL], mlen := by simp, full := fun _ i hi => by simp at hi, chg := hc1 }
  clear hT' hc1
  go_wp2_with fail
  clear ht
  go_loopw [4, 5] (fun r i wr => ∃ (j : Nat) (rb : Bool), j ≤ lim ∧ i = .int .i64 j ∧ r = .bool rb ∧ Hid (∃ a m, BordI w wr o j rb a m)) (fun _ i _ => lim - (intOf i).toNat)
  case atStart => exact ⟨0, false, Nat.zero_le _, rfl, rfl, hid ⟨_, _, hstart.out⟩⟩
  case round =>
    obtain ⟨j, rb, hj, rfl, rfl, hG'⟩ := hrel
    clear hstart
    obtain ⟨a, m, hG⟩ := hG'.out
    have hG := hid hG
    refine (Classical.em (j < lim)).elim ?more ?done
    case' more =>
      intro hlt
      obtain ⟨x, bx, ox, rfl, -, -, hxw', hcx'⟩ := (hlh.out.none_ hG.out.chg).at_ (j := j) (by rw [hlim.out]; exact hlt)
      have hxw := hid hxw'
      have hbx : Hid (bx < w.heap.size) := hid (by
        obtain ⟨b, o', e, hb, -⟩ := hlh.out.1.2 (by rw [hlim.out]; omega)
        injection e with e
        injection e with e
        omega)
      have hS0 : Hid (OpC wr bx (ox + j * 12) x) := hid hcx'
      have hT0 := hid hG.out.tab
      clear hG' hcx' hxw'
      go_wp2_with fail
      refine wp_region_rc (id := 10) [.rd [0, 1, 2, 3, 4, 5, 6, 7, 8, 9, 10]] [11] [] (fun w' => OpC w' bx (ox + j * 12) x) (by kernel_rfl) 108 rfl (by kernel_rfl) (fun _ _ _ _ _ h => h) hS0.out ?_
      refine steps_rdW ?_
      apply Exists.intro
      refine ⟨?_, ?_⟩
      focus
        rintro w' hSa
        obtain ⟨hb, c0, c1, c2, c3, c4, c5, c6, c7, c8, c9, c10, c11⟩ := hSa.cells
        clear hSa
        iterate 11 (refine stW_step rfl (fun K hK => ?_); go_simp; refine hK _ ?_; clear hK K)
        exact stW_nil rfl
      refine steps_nil (l := [⟨_, _, _, _, _, _⟩]) rfl (fun K2 hK2 => ?_)
      have hTd : Hid (Tab wr.drew (fun _ => False) w.heap.size o (j * 400000) a m) := hid (hT0.out.none_ ((Chg.refl (fun _ => False) wr).drew))
      have hSd : Hid (OpC wr.drew bx (ox + j * 12) x) := hid (hS0.out.none_ ((Chg.refl (fun _ => False) wr).drew))
      clear hT0 hS0
      go_wp2_with fail
      refine (t_set hTd.out hG.out.chg.size (by have h1 := hG.out.len; have h2 := hG.out.mlen; omega) (by have h2 := hG.out.mlen; omega) (by omega) hxw.out).mono ?_
      rintro e w4 ⟨e1, a', m', rfl, hR', hT4', hc4⟩
      have hb9 : a.length + nOf m ≤ 1000 := by have := hG.out.len; omega
      have hS4 := hid (hSd.out.chg hc4 (fun e => e.elim id fun h => by have := hbx.out; omega))
      obtain ⟨bz, hbz⟩ : ∃ bz, (x.v.k == 0) = bz := ⟨_, rfl⟩
      obtain ⟨rb', hrb⟩ : ∃ rb', Hid ((rb || bz) = rb') := ⟨_, hid rfl⟩
      have hB4 : Hid (BordI w w4 o (j + 1) rb' a' m') := hid (by
        have hle := hR'.len hG.out.inv.inv (by omega)
        have h4 := hG.out.len
        have h5 := hG.out.mlen
        exact { tab := hT4'.mono (by omega), inv := (hR'.law hG.out.inv (by omega) (hR'.bnd hG.out.inv hb9)).1, len := by omega, mlen := by omega,
                full := fun e => by
                  rw [← hrb.out] at e
                  simp only [Bool.or_eq_false_iff] at e
                  refine hR'.full (hG.out.full e.1) ?_
                  have h6 := e.2
                  rw [← hbz] at h6
                  simpa using h6
                chg := hG.out.chg.drew.trans hc4 fun b hb e => e.elim id fun e => by omega })
      clear hR' hT4' hc4 hTd hSd hG hb9
      obtain ⟨hb, c0, c1, c2, c3, c4, c5, c6, c7, c8, c9, c10, c11⟩ := hS4.out.cells
      go_wp2_with fail
      refine hK2 _ _ rfl ?_
      clear hK2 K2
      refine stI_nil ?_
      go_upto_region 11 with fail
      go_cut [4] (fun t wx => t = .bool rb' ∧ wx = w4)
      case first =>
        cases rb
        · go_wp2_with fail
          go_meet
          case rel => exact ⟨by rw [← hrb.out]; simp, rfl⟩
        · go_wp2_with fail
          go_meet
          case rel => exact ⟨by rw [← hrb.out]; simp, rfl⟩
      case rest =>
        obtain ⟨rfl, rfl⟩ := hcut
        clear hb c0 c1 c2 c3 c4 c5 c6 c7 c8 c9 c10 c11 hbz hrb bz
        obtain ⟨q, hq⟩ : ∃ q, Hid (a'.length = q) := ⟨_, hid rfl⟩
        obtain ⟨s, hs⟩ : ∃ s, Hid (m'.length = s) := ⟨_, hid rfl⟩
        obtain ⟨n, hn⟩ : ∃ n, Hid (nOf m' + cntV a' = n) := ⟨_, hid rfl⟩
        have hj2 : Hid (j + 1 ≤ 1000) := hid (by omega)
        have hql : q ≤ j + 1 := by have := hB4.out.len; have := hq.out; omega
        have hsl : s ≤ j + 1 := by have := hB4.out.mlen; have := hs.out; omega
        have hnl : n ≤ j + 1 := by have := hB4.out.len; have := hn.out; have := cntV_le a'; omega
        have hqb : Hid (a'.length ≤ 1000000) := hid (by rw [hq.out]; omega)
        go_wp2_with fail
        refine (t_len hB4.out.tab hq.out).mono ?_
        rintro e w5 ⟨rfl, hw⟩
        subst hw
        go_upto_region 13 with fail
        go_cut [78] (fun t wx => t = .bool false ∧ Hid (BordI w wx o (j + 1) rb' a' m'))
        case first =>
          have t0 : decide ((q : Int) < 0) = false := decide_eq_false (by omega)
          have t1 : decide (lim < q) = false := decide_eq_false (by omega)
          have t1' : decide ((lim : Int) < (q : Int)) = false := decide_eq_false (by omega)
          have hw1 : IntKind.i64.wrap ((q : Int) + 1) = (q : Int) + 1 := by rw [IntKind.wrap_i64]; omega
          have hfz : ∀ w : World, (Instr.field 26 (.agg #[.int .i64 0, .int .i64 0, .int .i64 0, .string ⟨#[]⟩, .int .i64 0]) 0).run Try.prog w = .ok (.int .i64 0) w := fun _ => by kernel_rfl
          go_wp2_with fail
          refine (t_array hB4.out.tab hq.out).mono ?_
          rintro e w5 ⟨rfl, hw⟩
          subst hw
          go_wp2_with fail
          refine (num_k _ _).mono ?_
          rintro e w6 ⟨rfl, hc⟩
          have hB6 := hid (hB4.out.none_ hc)
          clear hc hB4
          go_wp2_with fail
          refine (bord_get_zero hB6.out hj2.out (n := (q : Int) + 1) (by omega) (by rw [← hq.out]; exact border_next hB6.out.inv hqb.out)).mono ?_
          rintro e w7 ⟨rfl, hc⟩
          have hB7 := hid (hB6.out.none_ hc)
          clear hc hB6
          by_cases hq0 : q = 0
          · subst hq0
            go_wp2_with fail
            go_meet
            case rel => exact ⟨rfl, hB7⟩
          · obtain ⟨y, hy⟩ : ∃ y, Hid (getT a' m' (kI (q : Int)) = y) := ⟨_, hid rfl⟩
            have hyk : (y.k == 0) = false := by
              have h := border_last hB7.out.inv hqb.out (by rw [hq.out]; omega)
              rw [hq.out, hy.out] at h
              simpa using h
            have hfd : ∀ w : World, (Instr.field 26 (.agg #[.int .i64 y.k, .int .i64 y.p, .int .i64 y.q, .string y.s, .int .i64 y.r]) 0).run Try.prog w = .ok (.int .i64 y.k) w := fun _ => by kernel_rfl
            have t2 : decide ((0 : Int) < (q : Int)) = true := decide_eq_true (by omega)
            have t2' : decide (0 < q) = true := decide_eq_true (by omega)
            go_wp2_with fail
            refine (num_k _ _).mono ?_
            rintro e w8 ⟨rfl, hc⟩
            have hB8 := hid (hB7.out.none_ hc)
            clear hc hB7
            go_wp2_with fail
            refine (bord_get hB8.out hj2.out (n := (q : Int)) (by omega) hy.out).mono ?_
            rintro e w9 ⟨rfl, hc⟩
            have hB9 := hid (hB8.out.none_ hc)
            clear hc hB8
            go_wp2_with fail
            go_meet
            case rel => exact ⟨rfl, hB9⟩
        case rest =>
          obtain ⟨rfl, hB5⟩ := hcut
          rename World => w5
          clear hB4
          go_wp2_with fail
          go_loopw [7] (fun i wi => ∃ c : Nat, 1 ≤ c ∧ c ≤ q + 1 ∧ i = .int .i64 c ∧ Hid (BordI w wi o (j + 1) rb' a' m')) (fun i _ => q + 1 - (intOf i).toNat)
          case atStart => exact ⟨1, by omega, by omega, rfl, hB5⟩
          case round =>
            obtain ⟨c, hc1, hc2, rfl, hBc⟩ := hrel
            clear hB5
            refine (Classical.em (rb' = false ∧ c ≤ q)).elim ?inn ?out
            case' inn =>
              intro hin
              obtain ⟨hrf, hcq⟩ := hin
              subst hrf
              obtain ⟨y, hy⟩ : ∃ y, Hid (getT a' m' (kI (c : Int)) = y) := ⟨_, hid rfl⟩
              have hyk : (y.k == 0) = false := by
                have h := hBc.out.full rfl (c - 1) (by rw [hq.out]; omega)
                rw [← getT_kI (m := m') hc1 (by rw [hq.out]; exact hcq) hqb.out, hy.out] at h
                simpa using h
              have hfd : ∀ w : World, (Instr.field 26 (.agg #[.int .i64 y.k, .int .i64 y.p, .int .i64 y.q, .string y.s, .int .i64 y.r]) 0).run Try.prog w = .ok (.int .i64 y.k) w := fun _ => by kernel_rfl
              have t3 : decide (c ≤ q) = true := decide_eq_true hcq
              have t3' : decide ((c : Int) ≤ (q : Int)) = true := decide_eq_true (by omega)
              go_wp2_with fail
              refine (num_k _ _).mono ?_
              rintro e w8 ⟨rfl, hc⟩
              have hB8 := hid (hBc.out.none_ hc)
              clear hc hBc
              go_wp2_with fail
              refine (bord_get hB8.out hj2.out (n := (c : Int)) (by omega) hy.out).mono ?_
              rintro e w9 ⟨rfl, hc⟩
              have hB9 := hid (hB8.out.none_ hc)
              clear hc hB8
              go_wp2_with fail
              go_roundw
              case rel => exact ⟨c + 1, by omega, by omega, by go_num, hB9⟩
              case measure => simp [intOf]; omega
            case' out =>
              intro hout
              go_upto_region 16 with fail
              go_cut [85] (fun t wx => t = .bool false ∧ wx = wr)
              case first =>
                by_cases hcq : c ≤ q
                · have hrt : rb' = true := by cases rb' with | true => rfl | false => exact absurd ⟨rfl, hcq⟩ hout
                  subst hrt
                  have t3 : decide (c ≤ q) = true := decide_eq_true hcq
                  have t3' : decide ((c : Int) ≤ (q : Int)) = true := decide_eq_true (by omega)
                  go_wp2_with fail
                  go_meet
                  case rel => exact ⟨rfl, rfl⟩
                · have t3 : decide (c ≤ q) = false := decide_eq_false hcq
                  have t3' : decide ((c : Int) ≤ (q : Int)) = false := decide_eq_false (by omega)
                  go_wp2_with fail
                  go_meet
                  case rel => exact ⟨rfl, rfl⟩
              case rest =>
                obtain ⟨rfl, rfl⟩ := hcut
                have hw1 : IntKind.i64.wrap (2 * (q : Int)) = 2 * (q : Int) := by rw [IntKind.wrap_i64]; omega
                have hw2 : IntKind.i64.wrap (4 + 2 * (q : Int)) = 4 + 2 * (q : Int) := by rw [IntKind.wrap_i64]; omega
                go_wp2_with fail
                refine (bord_size hBc.out hj2.out).mono ?_
                rintro e w8 ⟨z, rfl, hz, hc⟩
                have hB8 := hid (hBc.out.none_ hc)
                have t3 : decide (z < 4 + 2 * (q : Int)) = false := decide_eq_false (by have := hq.out; omega)
                clear hc hBc hz
                have t4 : decide (lim < n) = false := decide_eq_false (by omega)
                have t4' : decide ((lim : Int) < (n : Int)) = false := decide_eq_false (by omega)
                go_wp2_with fail
                refine (t_count hB8.out.tab (by have := hq.out; have := hs.out; omega) hn.out).mono ?_
                rintro e w9 ⟨rfl, hc⟩
                have fin := hid (hB8.out.none_ hc)
                clear hc hB8
                go_wp2_with fail
                go_roundw
                case rel => exact ⟨j + 1, rb', by omega, by go_num, rfl, hid ⟨_, _, fin.out⟩⟩
                case measure => simp [intOf]; omega
    case' done =>
      intro hlt
      have hjl : j = lim := by omega
      subst hjl
      have hC := hid hG.out.chg
      clear hG hG'
      go_wp2_with fail
      refine (awake_true _).mono ?_
      rintro e w5 ⟨rfl, hc5⟩
      have fin := hid (none_below (hC.out.trans_same hc5))
      clear hc5
      go_wp2_with fail
      go_ret
      exact ⟨rfl, fin.out⟩
end Go.Proofs.Ytoelgnjnbelokaa
