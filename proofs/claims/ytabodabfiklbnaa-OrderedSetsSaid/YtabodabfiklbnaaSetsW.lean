/-
  OrderedSets: the walk.
-/
import Derived.Test.YtabodabfiklbnaaApartW
import Derived.Test.YtabodabfiklbnaaRows2
namespace Go.Proofs.Ytabodabfiklbnaa
open Go.RowKit Go.Maps

/-- The law's key, one of the other keys, and what was found for it. -/
def SetS (w : World) (g bo oo br j : Nat) (k x y : V) : Prop := Bk w g 28 k.cs ∧ (w.cell? ⟨bo, oo + j * 5, none⟩ = some (.int .i64 x.k) ∧ w.cell? ⟨bo, oo + j * 5 + 1, none⟩ = some (.int .i64 x.p) ∧ w.cell? ⟨bo, oo + j * 5 + 2, none⟩ = some (.int .i64 x.q) ∧
  w.cell? ⟨bo, oo + j * 5 + 3, none⟩ = some (.string x.s) ∧ w.cell? ⟨bo, oo + j * 5 + 4, none⟩ = some (.int .i64 x.r) ∧ bo < w.heap.size) ∧ (w.cell? ⟨br, j * 5, none⟩ = some (.int .i64 y.k) ∧ w.cell? ⟨br, j * 5 + 1, none⟩ = some (.int .i64 y.p) ∧ w.cell? ⟨br, j * 5 + 2, none⟩ = some (.int .i64 y.q) ∧
  w.cell? ⟨br, j * 5 + 3, none⟩ = some (.string y.s) ∧ w.cell? ⟨br, j * 5 + 4, none⟩ = some (.int .i64 y.r) ∧ br < w.heap.size)
theorem SetS.none_ {w w' : World} {g bo oo br j : Nat} {k x y : V} (h : SetS w g bo oo br j k x y) (hc : Chg (fun _ => False) w w') : SetS w' g bo oo br j k x y := by
  obtain ⟨h0, ⟨a0, a1, a2, a3, a4, a5⟩, ⟨b0, b1, b2, b3, b4, b5⟩⟩ := h
  exact ⟨h0.none_ hc, ⟨(hc.cell (p := ⟨bo, oo + j * 5, none⟩) a5 id).trans a0, (hc.cell (p := ⟨bo, oo + j * 5 + 1, none⟩) a5 id).trans a1, (hc.cell (p := ⟨bo, oo + j * 5 + 2, none⟩) a5 id).trans a2, (hc.cell (p := ⟨bo, oo + j * 5 + 3, none⟩) a5 id).trans a3, (hc.cell (p := ⟨bo, oo + j * 5 + 4, none⟩) a5 id).trans a4, Nat.lt_of_lt_of_le a5 hc.size⟩,
    ⟨(hc.cell (p := ⟨br, j * 5, none⟩) b5 id).trans b0, (hc.cell (p := ⟨br, j * 5 + 1, none⟩) b5 id).trans b1, (hc.cell (p := ⟨br, j * 5 + 2, none⟩) b5 id).trans b2, (hc.cell (p := ⟨br, j * 5 + 3, none⟩) b5 id).trans b3, (hc.cell (p := ⟨br, j * 5 + 4, none⟩) b5 id).trans b4, Nat.lt_of_lt_of_le b5 hc.size⟩⟩
theorem upTo_app (f : Nat → V) (j : Nat) : upTo f (j + 1) = upTo f j ++ [f j] := by simp [upTo, List.range_succ]
/-- The law's two boxes. -/
def Box2 (w : World) (g : Nat) (k v : V) : Prop := Bk w g 28 k.cs ∧ Bk w (g + 1) 28 v.cs
theorem Box2.none_ {w w' : World} {g : Nat} {k v : V} (h : Box2 w g k v) (hc : Chg (fun _ => False) w w') : Box2 w' g k v := ⟨h.1.none_ hc, h.2.none_ hc⟩
theorem Box2.chg {S : Nat → Prop} {w w' : World} {g : Nat} {k v : V} (h : Box2 w g k v) (hc : Chg S w w') (h1 : ¬ S g) (h2 : ¬ S (g + 1)) : Box2 w' g k v := ⟨h.1.chg hc h1, h.2.chg hc h2⟩
/-- What the law knows behind its Set. -/
structure SetK (w1 wr : World) (S1 : Nat → Prop) (N o g on : Nat) (L1 : List Sl) (k v : V) (f : Nat → V) (A5 : Option Addr) (k5 : Nat) : Prop where
  one : ∃ M, One wr S1 N o M L1
  box : Box2 wr g k v
  row : OwnR w1 wr 28 5 (.slice A5 on k5) on ((upTo f on).flatMap V.cs)
theorem SetK.none_ {w1 wr w' : World} {S1 : Nat → Prop} {N o g on : Nat} {L1 : List Sl} {k v : V} {f : Nat → V} {A5 : Option Addr} {k5 : Nat} (h : SetK w1 wr S1 N o g on L1 k v f A5 k5) (hc : Chg (fun _ => False) wr w') : SetK w1 w' S1 N o g on L1 k v f A5 k5 := by
  obtain ⟨M, h1⟩ := h.one
  exact ⟨⟨M, h1.none_ hc⟩, h.box.none_ hc, h.row.none_ hc⟩
set_option maxRecDepth 100000 in
set_option maxHeartbeats 4000000 in
theorem sets_bad (w : World) (A : Option Addr) (l : List OpV) (lk : Nat) (k v : V) (B : Option Addr) (on ok : Nat) (hl : OpsRd w A l) (hbad : 400 < l.length ∨ 40 < on) :
    Calls Try.prog 5 #[.slice A l.length lk, (.agg #[.int .i64 k.k, .int .i64 k.p, .int .i64 k.q, .string k.s, .int .i64 k.r]), (.agg #[.int .i64 v.k, .int .i64 v.p, .int .i64 v.q, .string v.s, .int .i64 v.r]), .slice B on ok] w fun e w' => e = .returned (.bool true) ∧ Below w.heap.size w w' := by
  have hl2 := hid (hl.none_ (((Chg.refl (fun _ => False) w).alloc (.cells k.cs.toArray 28)).alloc (.cells v.cs.toArray 28)))
  have hC0 := hid (((Chg.refl (fun _ => False) w).alloc (.cells k.cs.toArray 28)).alloc (.cells v.cs.toArray 28))
  obtain ⟨ln, hln⟩ : ∃ n, Hid (l.length = n) := ⟨_, hid rfl⟩
  rw [hln.out] at hbad ⊢
  have hbadh := hid hbad
  obtain ⟨b1, hb1⟩ : ∃ b, Hid (decide (ln ≤ 400) = b) := ⟨_, hid rfl⟩
  clear hbad hl
  go_enter Try.func5, Try.ntmps5
  go_wp2_with fail
  refine (made_any _ A l ln lk hl2.out hln.out hb1.out).mono ?_
  rintro e w1 ⟨pa, pb, rfl, hc1⟩
  have hC1 := hid (hC0.out.trans_same hc1)
  clear hc1
  refine (Classical.em (400 < ln)).elim ?ya ?yb
  case' ya =>
    intro h1
    have ht1 : decide ((400 : Int) < (ln : Int)) = true := by simp; omega
    have hbf : b1 = false := by rw [← hb1.out]; simp; omega
    subst hbf
    clear h1
  case' yb =>
    intro h1
    have ht1 : decide ((400 : Int) < (ln : Int)) = false := by simp; omega
    have ht2 : decide ((40 : Int) < (on : Int)) = true := by have := hbadh.out; simp; omega
    have hbf : b1 = true := by rw [← hb1.out]; simp; omega
    subst hbf
    clear h1
  all_goals
    go_wp2_with fail
    refine (lives_true _).mono ?_
    rintro e w3 ⟨rfl, hc3⟩
    have fin := hid (none_below (hC1.out.trans_same hc3))
    clear hc3
    go_wp2_with fail
    go_ret
    exact ⟨rfl, fin.out⟩
set_option maxRecDepth 100000 in
set_option maxHeartbeats 32000000 in
theorem sets_true (w : World) (A : Option Addr) (l : List OpV) (lk : Nat) (k v : V) (B : Option Addr) (ol : List V) (ok : Nat) (hl : OpsRd w A l) (hkw : k.wf) (hol : ValsRd w B ol) :
    Calls Try.prog 5 #[.slice A l.length lk, (.agg #[.int .i64 k.k, .int .i64 k.p, .int .i64 k.q, .string k.s, .int .i64 k.r]), (.agg #[.int .i64 v.k, .int .i64 v.p, .int .i64 v.q, .string v.s, .int .i64 v.r]), .slice B ol.length ok] w fun e w' => e = .returned (.bool true) ∧ Below w.heap.size w w' := by
  by_cases hbad : 400 < l.length ∨ 40 < ol.length
  · exact sets_bad w A l lk k v B ol.length ok hl hbad
  obtain ⟨i28, hi28, hz28, hs28, hb28⟩ := info_parts Try.info28
  have hC0 := hid (((Chg.refl (fun _ => False) w).alloc (.cells k.cs.toArray 28)).alloc (.cells v.cs.toArray 28))
  have hl2 := hid (hl.none_ hC0.out)
  have hX0 : Hid (Box2 ((w.alloc (.cells k.cs.toArray 28)).alloc (.cells v.cs.toArray 28)) w.heap.size k v) := hid ⟨(Bk.new w 28 k.cs).alloc _, Bk.new_at (w.alloc (.cells k.cs.toArray 28)) 28 v.cs.toArray (w.heap.size + 1) (by simp)⟩
  have hsz0 : Hid (((w.alloc (.cells k.cs.toArray 28)).alloc (.cells v.cs.toArray 28)).heap.size = w.heap.size + 2) := hid (by simp)
  have hkwh := hid hkw
  have holh := hid hol
  obtain ⟨ln, hln⟩ : ∃ n, Hid (l.length = n) := ⟨_, hid rfl⟩
  obtain ⟨on, hon⟩ : ∃ n, Hid (ol.length = n) := ⟨_, hid rfl⟩
  rw [hln.out, hon.out] at hbad ⊢
  have hl4 : ln ≤ 400 := by omega
  have ho4 : on ≤ 40 := by omega
  have ht2 : decide ((40 : Int) < (on : Int)) = false := by simp; omega
  clear hbad hl hkw hol
  go_enter Try.func5, Try.ntmps5
  go_wp2_with fail
  have hmd := made_true _ A l lk hl2.out (by rw [hln.out]; exact hl4)
  rw [hln.out] at hmd
  refine hmd.mono ?_
  rintro e w1 ⟨o, r, rfl, L, hT', hL', hC'⟩
  obtain ⟨S1, hS1', hfix1'⟩ := hT'.one.fix
  have hS1 : Hid (∀ b, S1 b → b < w1.heap.size ∧ w.heap.size + 2 ≤ b) := hid fun b e => ⟨(hS1' b e).1, by have h1 := (hS1' b e).2.elim False.elim id; have := hsz0.out; omega⟩
  have hfix1 := hid hfix1'
  have hI := hid hT'.inv
  have hLl : Hid (L.length ≤ 400) := hid (by omega)
  have hC1 := hid (hC0.out.trans_same hC')
  have hX1 := hid (hX0.out.none_ hC')
  have ho1 : Hid (ValsRd w1 B ol) := hid ⟨holh.out.1.none_ hC1.out, holh.out.2⟩
  have h1s : w.heap.size + 2 ≤ w1.heap.size := by have := hC'.size; have := hsz0.out; omega
  obtain ⟨f, hf⟩ : ∃ f : Nat → V, Hid (f = fun i => getM L (vAt ol i)) := ⟨_, hid rfl⟩
  clear hT' hL' hC' hS1' hfix1' hmd hX0 hC0 hsz0 hl2
  go_wp2_with fail
  clear ht2
  go_loopw [12, 13] (fun s i wr => ∃ j : Nat, j ≤ on ∧ i = .int .i64 j ∧ Hid (OwnR w1 wr 28 5 s j ((upTo f j).flatMap V.cs) ∧ Chg (fun _ => False) w1 wr)) (fun _ i _ => on - (intOf i).toNat)
  case atStart => exact ⟨0, Nat.zero_le _, rfl, hid ⟨OwnR.nil w1 w1 28 5, Chg.refl _ w1⟩⟩
  case round =>
    obtain ⟨j, hj, rfl, hS⟩ := hrel
    obtain ⟨A5, k5, rfl⟩ := hS.out.1.form
    refine (Classical.em (j < on)).elim ?more ?done
    case' more =>
      intro hlt
      obtain ⟨b, o', rfl, hb, c0, c1, c2, c3, c4⟩ := Vs.at_ (rs := ol) (Rd.none_ ho1.out.1 hS.out.2) (i := j) (by rw [hon.out]; exact hlt)
      have hxw := hid (ho1.out.2 _ (vAt_mem (l := ol) (j := j) (by rw [hon.out]; exact hlt)))
      have hfj : Hid (f j = getM L (vAt ol j)) := hid (by rw [hf.out])
      generalize vAt ol j = x at c0 c1 c2 c3 c4 hxw hfj
      obtain ⟨y, hy⟩ : ∃ y, Hid (getM L x = y) := ⟨_, hid rfl⟩
      have hup : Hid (upTo f (j + 1) = upTo f j ++ [y]) := hid (by rw [upTo_app, hfj.out, hy.out])
      have hOr := hid (hfix1.out wr wr.heap.size hS.out.2)
      go_wp2_with fail
      refine (o_get hOr.out hxw.out hy.out).mono ?_
      rintro e w4 ⟨rfl, hc4⟩
      have hS4 := hid (And.intro (hS.out.1.none_ hc4) (hS.out.2.trans_same hc4))
      have hz : w1.heap.size ≤ w4.heap.size := hS4.out.2.size
      clear hc4 c0 c1 c2 c3 c4 hOr hS
      go_wp2_with ((with_reducible show wpList _ _ _ ((⟨some 56, _, _, _, _, _⟩ : Oper) :: _) _ _); refine wpList_append_rd (o := ⟨some 56, _, _, _, _, _⟩) rfl (.tmp 48) (.tmp 55) 41 rfl 28 i28 _ 5 48 Try.underlying41 hi28 hz28 hs28 hb28 rfl (by omega) (.slice A5 j k5) j _ rfl (hS4.out.1.alloc _).own (some ⟨w4.heap.size, 0, none⟩) 1 1 y.cs rfl (Rd.one w4 28 5 y.cs rfl w4.heap.size rfl) (V.ones1 y) (by unfold maxLen; omega) (by omega) (w4.heap.size + 1) (by simp) ?_; intro A6 c6 w6 hown6' hg6' hat6'; have fin := hid (keys_more hS4.out.1 hS4.out.2 ((Chg.refl (fun _ => False) _).alloc _) hown6' hg6' hat6' (by omega)); clear hown6' hg6' hat6')
      go_roundw
      case rel => exact ⟨j + 1, by omega, by go_num, hid (by rw [hup.out]; exact fin.out)⟩
      case measure => simp [intOf]; omega
    case' done =>
      intro hlt
      have hjn : j = on := by omega
      subst hjn
      have hOr : Hid (One wr S1 wr.heap.size o (ln * 1000) L) := hid (hfix1.out wr wr.heap.size hS.out.2)
      have hXr := hid (hX1.out.none_ hS.out.2)
      have hRr := hid hS.out.1
      have hCr : Hid (Chg (fun _ => False) w wr) := hid (hC1.out.trans_same hS.out.2)
      have hor : Hid (ValsRd wr B ol) := hid ⟨ho1.out.1.none_ hS.out.2, ho1.out.2⟩
      have hz1 : Hid (w1.heap.size ≤ wr.heap.size) := hid hS.out.2.size
      have hRlt : Hid (∀ b, (Value.slice A5 j k5).ownBlock = some b → b < wr.heap.size ∧ w1.heap.size ≤ b) := hid fun b hb => ⟨own_lt hRr.out.own hb, hRr.out.lo b hb⟩
      obtain ⟨sl, hsl⟩ : ∃ s, Hid (L.length = s) := ⟨_, hid rfl⟩
      obtain ⟨x0, x1, x2, x3, x4⟩ := V.box hXr.out.1
      obtain ⟨u0, u1, u2, u3, u4⟩ := V.box hXr.out.2
      have hxl := hXr.out.1.lt
      have hul := hXr.out.2.lt
      clear hS hX1 hC1 ho1 hfix1
      go_wp2_with fail
      refine (o_slots hOr.out hsl.out).mono ?_
      rintro e w2 ⟨rfl, hw⟩
      subst hw
      obtain ⟨e1, L1, hp'⟩ : ∃ e1 L1, setM L k v = (e1, L1) := ⟨_, _, rfl⟩
      have hp := hid hp'
      clear hp'
      go_wp2_with fail
      refine (o_set hOr.out (Nat.le_refl _) (by have := hLl.out; omega) (by omega) hkwh.out hp.out).mono ?_
      rintro e w6 ⟨rfl, hO6, hc6⟩
      have hns : ∀ b, b < w1.heap.size → ¬ S1 b → ¬ (S1 b ∨ wr.heap.size ≤ b) := fun b h1 h2 e => e.elim h2 fun h => by have := hz1.out; omega
      have hK6 : Hid (SetK w1 w6 S1 wr.heap.size o w.heap.size j L1 k v f A5 k5) := hid ⟨⟨_, hO6⟩, hXr.out.chg hc6 (hns _ (by omega) (fun e => by have := hS1.out _ e; omega)) (hns _ (by omega) (fun e => by have := hS1.out _ e; omega)), hRr.out.chg hc6 fun b hb e => by
        have h1 := hRlt.out b hb
        rcases e with e | e
        · have := hS1.out b e; omega
        · omega⟩
      have hC6 : Hid (Chg (fun _ => False) w w6) := hid (hCr.out.trans hc6 fun b hb e => by
        rcases e with e | e
        · have := hS1.out b e; omega
        · have := hz1.out; omega)
      have ho6 : Hid (ValsRd w6 B ol) := hid ⟨holh.out.1.none_ hC6.out, holh.out.2⟩
      obtain ⟨x0, x1, x2, x3, x4⟩ := V.box hK6.out.box.1
      have hxl6 := hK6.out.box.1.lt
      clear hO6 hc6 hns hOr hXr hRr hCr hor hz1 hRlt u0 u1 u2 u3 u4 hxl hul
      clear x0 x1 x2 x3 x4 hxl6
      obtain ⟨bv, hbv⟩ : ∃ b, Hid (vok v = b) := ⟨_, hid rfl⟩
      obtain ⟨bp, hbp⟩ : ∃ b, Hid ((vok k && (k.k != 0)) = b) := ⟨_, hid rfl⟩
      have hE : Hid ((bp = false ∧ e1 = 13) ∨ (bp = true ∧ bv = false ∧ e1 = 2) ∨ (bp = true ∧ bv = true ∧ e1 = 0 ∧ getM L1 k = v)) := hid (by
        have h := hp.out
        have h1 := hbp.out
        have h2 := hbv.out
        by_cases hb : k.k = 0 ∨ vok k = false
        · left
          unfold setM at h
          rw [if_pos hb] at h
          injection h with h3 h4
          refine ⟨?_, h3.symm⟩
          rw [← h1]
          rcases hb with hb | hb
          · simp [hb]
          · simp [hb]
        · have hkv : vok k = true ∧ k.k ≠ 0 := ⟨by cases e : vok k with | true => rfl | false => exact absurd (.inr e) hb, fun e => hb (.inl e)⟩
          have hbt : bp = true := by rw [← h1, hkv.1]; simpa using hkv.2
          cases hv : vok v with
          | false =>
            right; left
            unfold setM at h
            rw [if_neg hb, if_pos hv] at h
            injection h with h3 h4
            exact ⟨hbt, by rw [← h2, hv], h3.symm⟩
          | true =>
            right; right
            have h5 := setM_ok (L := L) hkv hv
            have h6 := getM_setM_eq hI.out hkv hv
            rw [h] at h5 h6
            exact ⟨hbt, by rw [← h2, hv], h5, h6⟩)
      obtain ⟨x0, x1, x2, x3, x4⟩ := V.box hK6.out.box.1
      have hxl6 := hK6.out.box.1.lt
      go_upto_region 11 with fail
      go_cut [16] (fun t wx => t = .bool bp ∧ Hid (SetK w1 wx S1 wr.heap.size o w.heap.size j L1 k v f A5 k5 ∧ Chg (fun _ => False) w wx ∧ ValsRd wx B ol))
      case first =>
        obtain ⟨bk, hbk⟩ : ∃ b, Hid (vok k = b) := ⟨_, hid rfl⟩
        obtain ⟨bz, hbz⟩ : ∃ b, (k.k != 0) = b := ⟨_, rfl⟩
        have hbb : Hid ((bk && bz) = bp) := hid (by rw [← hbz, ← hbk.out]; exact hbp.out)
        go_wp2_with fail
        refine (doc_valid_eq hbk.out).mono ?_
        rintro e w7 ⟨rfl, hc7⟩
        have hK7 := hid (hK6.out.none_ hc7)
        have hC7 := hid (hC6.out.trans_same hc7)
        have ho7 : Hid (ValsRd w7 B ol) := hid ⟨ho6.out.1.none_ hc7, ho6.out.2⟩
        clear hc7 hK6 hC6 ho6 x0 x1 x2 x3 x4 hxl6
        obtain ⟨x0, x1, x2, x3, x4⟩ := V.box hK7.out.box.1
        have hxl7 := hK7.out.box.1.lt
        cases bk
        all_goals
          go_wp2_with fail
          go_meet
          case rel => exact ⟨by rw [← hbb.out]; simp, hid ⟨hK7.out, hC7.out, ho7.out⟩⟩
      case rest =>
        clear hK6 hC6 ho6 x0 x1 x2 x3 x4 hxl6
        obtain ⟨rfl, hF⟩ := hcut
        rename World => w7
        have hK7d : Hid (SetK w1 w7.drew S1 wr.heap.size o w.heap.size j L1 k v f A5 k5) := hid (hF.out.1.none_ ((Chg.refl (fun _ => False) w7).drew))
        have hC7d := hid hF.out.2.1.drew
        have ho7d : Hid (ValsRd w7.drew B ol) := hid ⟨hF.out.2.2.1.none_ ((Chg.refl (fun _ => False) w7).drew), hF.out.2.2.2⟩
        clear hF
        go_upto_region 12 with fail
        go_cut [115] (fun t wx => t = .bool false ∧ Hid (SetK w1 wx S1 wr.heap.size o w.heap.size j L1 k v f A5 k5 ∧ Chg (fun _ => False) w wx ∧ ValsRd wx B ol))
        case first =>
          refine hE.out.elim ?e13 (fun h => h.elim ?e2 ?e0)
          case' e13 =>
            intro hh
            obtain ⟨rfl, rfl⟩ := hh
            have hsl1 : Hid (L1.length = sl) := hid (by
              have h9 := setM_err (L := L) (k := k) (v := v) (by rw [hp.out]; simp)
              rw [hp.out] at h9
              simp only at h9
              rw [h9]
              exact hsl.out)
            refine wp_region_rc (id := 12) [.rd [0, 1, 2, 3, 4, 5, 6, 7, 8, 9], .act 10, .rd [11, 12, 13, 14, 15, 16, 17, 18, 19, 20, 21], .act 22, .rd [23, 24, 25, 26, 27, 28, 29, 31], .act 30, .wl [32, 33, 34, 35, 36, 37, 38, 39, 40, 42]] [41, 43, 44, 45] [] (fun w' => Box2 w' w.heap.size k v) (by kernel_rfl) 146 rfl (by kernel_rfl) (fun _ _ _ _ _ h => h) hK7d.out.box ?_
            refine steps_rdW ?_
            apply Exists.intro
            refine ⟨?_, ?_⟩
            focus
              rintro w' ⟨hSa, hSb⟩
              obtain ⟨x0, x1, x2, x3, x4⟩ := V.box hSa
              obtain ⟨u0, u1, u2, u3, u4⟩ := V.box hSb
              clear hSa hSb
              iterate 10 (refine stW_step rfl (fun K hK => ?_); go_simp; refine hK _ ?_; clear hK K)
              exact stW_nil rfl
            refine steps_act (o := ⟨_, _, _, _, _, _⟩) rfl (fun K2 hK2 => ?_)
            go_wp2_with fail
            refine hK2 _ _ hK7d.out.box rfl ?_
            clear hK2 K2
            refine steps_rdW ?_
            apply Exists.intro
            refine ⟨?_, ?_⟩
            focus
              rintro w' ⟨hSa, hSb⟩
              obtain ⟨x0, x1, x2, x3, x4⟩ := V.box hSa
              obtain ⟨u0, u1, u2, u3, u4⟩ := V.box hSb
              clear hSa hSb
              iterate 11 (refine stW_step rfl (fun K hK => ?_); go_simp; refine hK _ ?_; clear hK K)
              exact stW_nil rfl
            refine steps_act (o := ⟨_, _, _, _, _, _⟩) rfl (fun K2 hK2 => ?_)
            go_wp2_with fail
            refine hK2 _ _ hK7d.out.box rfl ?_
            clear hK2 K2
            refine steps_rdW ?_
            apply Exists.intro
            refine ⟨?_, ?_⟩
            focus
              rintro w' ⟨hSa, hSb⟩
              obtain ⟨x0, x1, x2, x3, x4⟩ := V.box hSa
              obtain ⟨u0, u1, u2, u3, u4⟩ := V.box hSb
              clear hSa hSb
              iterate 8 (refine stW_step rfl (fun K hK => ?_); go_simp; refine hK _ ?_; clear hK K)
              exact stW_nil rfl
            refine steps_act (o := ⟨_, _, _, _, _, _⟩) rfl (fun K2 hK2 => ?_)
            go_wp2_with fail
            refine hK2 _ _ hK7d.out.box rfl ?_
            clear hK2 K2
            refine steps_wlW ?_
            apply Exists.intro
            refine ⟨?_, ?_⟩
            focus
              intro w'
              iterate 10 (refine stW_step rfl (fun K hK => ?_); go_simp; refine hK _ ?_; clear hK K)
              exact stW_nil rfl
            obtain ⟨Mq, hOq'⟩ := hK7d.out.one
            have hOq := hid (hOq'.none_ (Chg.refl (fun _ => False) w7.drew))
            clear hOq'
            refine steps_nil (l := [⟨_, _, _, _, _, _⟩, ⟨_, _, _, _, _, _⟩, ⟨_, _, _, _, _, _⟩, ⟨_, _, _, _, _, _⟩]) rfl (fun K2 hK2 => ?_)
            go_wp2_with fail
            refine (o_slots hOq.out hsl1.out).mono ?_
            rintro e wz ⟨rfl, hw⟩
            subst hw
            go_wp2_with fail
            refine hK2 _ _ rfl ?_
            clear hK2 K2
            refine stI_nil ?_
            go_wp2_with fail
            go_meet
            case rel => exact ⟨rfl, hid ⟨hK7d.out, hC7d.out, ho7d.out⟩⟩
          case' e2 =>
            intro hh
            obtain ⟨rfl, rfl, rfl⟩ := hh
            have hvb := hbv
            have hsl1 : Hid (L1.length = sl) := hid (by
              have h9 := setM_err (L := L) (k := k) (v := v) (by rw [hp.out]; simp)
              rw [hp.out] at h9
              simp only at h9
              rw [h9]
              exact hsl.out)
            refine wp_region_rc (id := 12) [.rd [0, 1, 2, 3, 4, 5, 6, 7, 8, 9], .act 10, .rd [11, 12, 13, 14, 15, 16, 17, 18, 19, 20, 21], .act 22, .rd [23, 24, 25, 26, 27, 28, 29, 31], .act 30, .wl [32, 33, 34, 35, 36, 37, 38, 39, 40, 42]] [41, 43, 44, 45] [] (fun w' => Box2 w' w.heap.size k v) (by kernel_rfl) 146 rfl (by kernel_rfl) (fun _ _ _ _ _ h => h) hK7d.out.box ?_
            refine steps_rdW ?_
            apply Exists.intro
            refine ⟨?_, ?_⟩
            focus
              rintro w' ⟨hSa, hSb⟩
              obtain ⟨x0, x1, x2, x3, x4⟩ := V.box hSa
              obtain ⟨u0, u1, u2, u3, u4⟩ := V.box hSb
              clear hSa hSb
              iterate 10 (refine stW_step rfl (fun K hK => ?_); go_simp; refine hK _ ?_; clear hK K)
              exact stW_nil rfl
            refine steps_act (o := ⟨_, _, _, _, _, _⟩) rfl (fun K2 hK2 => ?_)
            go_wp2_with fail
            refine (doc_valid_eq hvb.out).mono ?_
            rintro e w8 ⟨rfl, hc⟩
            have hK8 := hid (hK7d.out.none_ hc)
            have hC8 := hid (hC7d.out.trans_same hc)
            have ho8 : Hid (ValsRd w8 B ol) := hid ⟨ho7d.out.1.none_ hc, ho7d.out.2⟩
            clear hc hK7d hC7d ho7d
            go_wp2_with fail
            refine hK2 _ _ hK8.out.box rfl ?_
            clear hK2 K2
            refine steps_rdW ?_
            apply Exists.intro
            refine ⟨?_, ?_⟩
            focus
              rintro w' ⟨hSa, hSb⟩
              obtain ⟨x0, x1, x2, x3, x4⟩ := V.box hSa
              obtain ⟨u0, u1, u2, u3, u4⟩ := V.box hSb
              clear hSa hSb
              iterate 11 (refine stW_step rfl (fun K hK => ?_); go_simp; refine hK _ ?_; clear hK K)
              exact stW_nil rfl
            refine steps_act (o := ⟨_, _, _, _, _, _⟩) rfl (fun K2 hK2 => ?_)
            go_wp2_with fail
            refine (doc_valid_eq hvb.out).mono ?_
            rintro e w9 ⟨rfl, hc⟩
            have hK9 := hid (hK8.out.none_ hc)
            have hC9 := hid (hC8.out.trans_same hc)
            have ho9 : Hid (ValsRd w9 B ol) := hid ⟨ho8.out.1.none_ hc, ho8.out.2⟩
            clear hc hK8 hC8 ho8
            go_wp2_with fail
            refine hK2 _ _ hK9.out.box rfl ?_
            clear hK2 K2
            refine steps_rdW ?_
            apply Exists.intro
            refine ⟨?_, ?_⟩
            focus
              rintro w' ⟨hSa, hSb⟩
              obtain ⟨x0, x1, x2, x3, x4⟩ := V.box hSa
              obtain ⟨u0, u1, u2, u3, u4⟩ := V.box hSb
              clear hSa hSb
              iterate 8 (refine stW_step rfl (fun K hK => ?_); go_simp; refine hK _ ?_; clear hK K)
              exact stW_nil rfl
            refine steps_act (o := ⟨_, _, _, _, _, _⟩) rfl (fun K2 hK2 => ?_)
            go_wp2_with fail
            refine hK2 _ _ hK9.out.box rfl ?_
            clear hK2 K2
            refine steps_wlW ?_
            apply Exists.intro
            refine ⟨?_, ?_⟩
            focus
              intro w'
              iterate 10 (refine stW_step rfl (fun K hK => ?_); go_simp; refine hK _ ?_; clear hK K)
              exact stW_nil rfl
            obtain ⟨Mq, hOq'⟩ := hK9.out.one
            have hOq := hid (hOq'.none_ (Chg.refl (fun _ => False) w9))
            clear hOq'
            refine steps_nil (l := [⟨_, _, _, _, _, _⟩, ⟨_, _, _, _, _, _⟩, ⟨_, _, _, _, _, _⟩, ⟨_, _, _, _, _, _⟩]) rfl (fun K2 hK2 => ?_)
            go_wp2_with fail
            refine (o_slots hOq.out hsl1.out).mono ?_
            rintro e wz ⟨rfl, hw⟩
            subst hw
            go_wp2_with fail
            refine hK2 _ _ rfl ?_
            clear hK2 K2
            refine stI_nil ?_
            go_wp2_with fail
            go_meet
            case rel => exact ⟨rfl, hid ⟨hK9.out, hC9.out, ho9.out⟩⟩
          case' e0 =>
            intro hh
            obtain ⟨rfl, rfl, rfl, hg1'⟩ := hh
            have hvb := hbv
            have hg1 := hid hg1'
            clear hg1'
            refine wp_region_rc (id := 12) [.rd [0, 1, 2, 3, 4, 5, 6, 7, 8, 9], .act 10, .rd [11, 12, 13, 14, 15, 16, 17, 18, 19, 20, 21], .act 22, .rd [23, 24, 25, 26, 27, 28, 29, 31], .act 30, .wl [32, 33, 34, 35, 36, 37, 38, 39, 40, 42]] [41, 43, 44, 45] [] (fun w' => Box2 w' w.heap.size k v) (by kernel_rfl) 146 rfl (by kernel_rfl) (fun _ _ _ _ _ h => h) hK7d.out.box ?_
            refine steps_rdW ?_
            apply Exists.intro
            refine ⟨?_, ?_⟩
            focus
              rintro w' ⟨hSa, hSb⟩
              obtain ⟨x0, x1, x2, x3, x4⟩ := V.box hSa
              obtain ⟨u0, u1, u2, u3, u4⟩ := V.box hSb
              clear hSa hSb
              iterate 10 (refine stW_step rfl (fun K hK => ?_); go_simp; refine hK _ ?_; clear hK K)
              exact stW_nil rfl
            refine steps_act (o := ⟨_, _, _, _, _, _⟩) rfl (fun K2 hK2 => ?_)
            go_wp2_with fail
            refine (doc_valid_eq hvb.out).mono ?_
            rintro e w8 ⟨rfl, hc⟩
            have hK8 := hid (hK7d.out.none_ hc)
            have hC8 := hid (hC7d.out.trans_same hc)
            have ho8 : Hid (ValsRd w8 B ol) := hid ⟨ho7d.out.1.none_ hc, ho7d.out.2⟩
            clear hc hK7d hC7d ho7d
            go_wp2_with fail
            refine hK2 _ _ hK8.out.box rfl ?_
            clear hK2 K2
            refine steps_rdW ?_
            apply Exists.intro
            refine ⟨?_, ?_⟩
            focus
              rintro w' ⟨hSa, hSb⟩
              obtain ⟨x0, x1, x2, x3, x4⟩ := V.box hSa
              obtain ⟨u0, u1, u2, u3, u4⟩ := V.box hSb
              clear hSa hSb
              iterate 11 (refine stW_step rfl (fun K hK => ?_); go_simp; refine hK _ ?_; clear hK K)
              exact stW_nil rfl
            refine steps_act (o := ⟨_, _, _, _, _, _⟩) rfl (fun K2 hK2 => ?_)
            go_wp2_with fail
            refine (doc_valid_eq hvb.out).mono ?_
            rintro e w9 ⟨rfl, hc⟩
            have hK9 := hid (hK8.out.none_ hc)
            have hC9 := hid (hC8.out.trans_same hc)
            have ho9 : Hid (ValsRd w9 B ol) := hid ⟨ho8.out.1.none_ hc, ho8.out.2⟩
            clear hc hK8 hC8 ho8
            go_wp2_with fail
            refine hK2 _ _ hK9.out.box rfl ?_
            clear hK2 K2
            obtain ⟨Mq, hOq'⟩ := hK9.out.one
            have hOq := hid (hOq'.none_ (Chg.refl (fun _ => False) w9))
            clear hOq'
            refine steps_rdW ?_
            apply Exists.intro
            refine ⟨?_, ?_⟩
            focus
              rintro w' ⟨hSa, hSb⟩
              obtain ⟨x0, x1, x2, x3, x4⟩ := V.box hSa
              obtain ⟨u0, u1, u2, u3, u4⟩ := V.box hSb
              clear hSa hSb
              iterate 8 (refine stW_step rfl (fun K hK => ?_); go_simp; refine hK _ ?_; clear hK K)
              exact stW_nil rfl
            refine steps_act (o := ⟨_, _, _, _, _, _⟩) rfl (fun K2 hK2 => ?_)
            go_wp2_with fail
            refine (o_get hOq.out hkwh.out hg1.out).mono ?_
            rintro e w10 ⟨rfl, hc⟩
            have hK10 := hid (hK9.out.none_ hc)
            have hC10 := hid (hC9.out.trans_same hc)
            have ho10 : Hid (ValsRd w10 B ol) := hid ⟨ho9.out.1.none_ hc, ho9.out.2⟩
            clear hc hK9 hC9 ho9
            go_wp2_with fail
            refine hK2 _ _ hK10.out.box rfl ?_
            clear hK2 K2
            refine steps_wlW ?_
            apply Exists.intro
            refine ⟨?_, ?_⟩
            focus
              intro w'
              iterate 10 (refine stW_step rfl (fun K hK => ?_); go_simp; refine hK _ ?_; clear hK K)
              exact stW_nil rfl
            refine steps_nil (l := [⟨_, _, _, _, _, _⟩, ⟨_, _, _, _, _, _⟩, ⟨_, _, _, _, _, _⟩, ⟨_, _, _, _, _, _⟩]) rfl (fun K2 hK2 => ?_)
            go_wp2_with fail
            refine hK2 _ _ rfl ?_
            clear hK2 K2
            refine stI_nil ?_
            go_wp2_with fail
            go_meet
            case rel => exact ⟨rfl, hid ⟨hK10.out, hC10.out, ho10.out⟩⟩
        case rest =>
          clear hK7d hC7d ho7d
          obtain ⟨rfl, hF⟩ := hcut
          rename World => w8
          have hK8 := hid hF.out.1
          have hC8 := hid hF.out.2.1
          have ho8 := hid hF.out.2.2
          clear hF
          go_wp2_with fail
          have hcs0 : Hid (Chg (fun _ => False) w8 w8) := hid (Chg.refl _ _)
          go_loopw [17] (fun i wr => ∃ jj : Nat, jj ≤ j ∧ i = .int .i64 jj ∧ Hid (Chg (fun _ => False) w8 wr)) (fun i _ => j - (intOf i).toNat)
          case atStart => exact ⟨0, Nat.zero_le _, rfl, hcs0⟩
          case round =>
            obtain ⟨jj, hjj, rfl, hcr⟩ := hrel
            clear hcs0
            refine (Classical.em (jj < j)).elim ?more2 ?done2
            case' more2 =>
              intro hlt2
              obtain ⟨bo, oo, rfl, hbo, c0, c1, c2, c3, c4⟩ := Vs.at_ (rs := ol) (Rd.none_ ho8.out.1 hcr.out) (i := jj) (by rw [hon.out]; exact hlt2)
              have hxw := hid (ho8.out.2 _ (vAt_mem (l := ol) (j := jj) (by rw [hon.out]; exact hlt2)))
              obtain ⟨br, rfl, hbr, -, d0, d1, d2, d3, d4⟩ := (hK8.out.none_ hcr.out).row.val_at hlt2
              have hfj : Hid (f jj = getM L (vAt ol jj)) := hid (by rw [hf.out])
              have hbx := (hK8.out.none_ hcr.out).box.1
              obtain ⟨M4, hO4'⟩ := (hK8.out.none_ hcr.out).one
              have hcr2 := hid hcr.out.drew
              have hO4 := hid (hO4'.none_ ((Chg.refl (fun _ => False) wr).drew))
              generalize vAt ol jj = x at c0 c1 c2 c3 c4 hxw hfj
              obtain ⟨y, hy'⟩ : ∃ y, f jj = y := ⟨_, rfl⟩
              rw [hy'] at d0 d1 d2 d3 d4
              have hy : Hid (getM L x = y) := hid (by rw [← hfj.out]; exact hy')
              have hS0 : Hid (SetS wr.drew w.heap.size bo oo br jj k x y) := hid ⟨hbx.drew, ⟨c0, c1, c2, c3, c4, hbo⟩, ⟨d0, d1, d2, d3, d4, hbr⟩⟩
              have hjn : (jj : Int) < (j : Int) := by omega
              clear hO4' hbx c0 c1 c2 c3 c4 d0 d1 d2 d3 d4 hbo hbr hy' hcr
              refine (Classical.em (x = k)).elim ?eqc ?nec
              case' eqc =>
                intro hxk
                have hxy : Hid (x = k) := hid hxk
                refine (Classical.em (e1 = 0)).elim ?z0 ?z1
                case' z0 =>
                  intro hz
                  subst hz
                  rw [hxy.out] at hS0
                  go_wp2_with fail
                  refine wp_region_rc (id := 17) [.rd [0, 1, 2, 3, 4, 5, 6, 7, 8, 9, 10, 11, 12, 13, 14, 15, 17, 18, 19, 20], .act 16, .wl [21, 22]] [] [] (fun w' => SetS w' w.heap.size bo oo br jj k k y) (by kernel_rfl) 146 rfl (by kernel_rfl) (fun _ _ _ _ _ h => h) hS0.out ?_
                  refine steps_rdW ?_
                  apply Exists.intro
                  refine ⟨?_, ?_⟩
                  focus
                    rintro w' ⟨hSa, ⟨c0, c1, c2, c3, c4, -⟩, ⟨d0, d1, d2, d3, d4, -⟩⟩
                    obtain ⟨x0, x1, x2, x3, x4⟩ := V.box hSa
                    clear hSa
                    iterate 20 (refine stW_step rfl (fun K hK => ?_); go_simp; refine hK _ ?_; clear hK K)
                    exact stW_nil rfl
                  refine steps_act (o := ⟨_, _, _, _, _, _⟩) rfl (fun K2 hK2 => ?_)
                  go_wp2_with fail
                  refine hK2 _ _ hS0.out rfl ?_
                  clear hK2 K2
                  refine steps_wlW ?_
                  apply Exists.intro
                  refine ⟨?_, ?_⟩
                  focus
                    intro w'
                    iterate 2 (refine stW_step rfl (fun K hK => ?_); go_simp; refine hK _ ?_; clear hK K)
                    exact stW_nil rfl
                  refine steps_end rfl ?_
                  go_wp2_with fail
                  go_roundw
                  case rel => exact ⟨jj + 1, by omega, by go_num, hcr2⟩
                  case measure => simp [intOf]; omega
                case' z1 =>
                  intro hz
                  have hz1 : (e1 != 0) = true := by simpa using hz
                  have hy3 : Hid (getM L1 k = y) := hid (by
                    have h9 := setM_err (L := L) (k := k) (v := v) (by rw [hp.out]; exact hz)
                    rw [hp.out] at h9
                    simp only at h9
                    rw [h9, ← hxy.out]
                    exact hy.out)
                  clear hz
                  rw [hxy.out] at hS0
                  go_wp2_with fail
                  refine wp_region_rc (id := 17) [.rd [0, 1, 2, 3, 4, 5, 6, 7, 8, 9, 10, 11, 12, 13, 14, 15, 17, 18, 19, 20], .act 16, .wl [21, 22]] [] [] (fun w' => SetS w' w.heap.size bo oo br jj k k y) (by kernel_rfl) 146 rfl (by kernel_rfl) (fun _ _ _ _ _ h => h) hS0.out ?_
                  refine steps_rdW ?_
                  apply Exists.intro
                  refine ⟨?_, ?_⟩
                  focus
                    rintro w' ⟨hSa, ⟨c0, c1, c2, c3, c4, -⟩, ⟨d0, d1, d2, d3, d4, -⟩⟩
                    obtain ⟨x0, x1, x2, x3, x4⟩ := V.box hSa
                    clear hSa
                    iterate 20 (refine stW_step rfl (fun K hK => ?_); go_simp; refine hK _ ?_; clear hK K)
                    exact stW_nil rfl
                  refine steps_act (o := ⟨_, _, _, _, _, _⟩) rfl (fun K2 hK2 => ?_)
                  go_wp2_with fail
                  refine (o_get hO4.out hkwh.out hy3.out).mono ?_
                  rintro e w4 ⟨rfl, hc4⟩
                  have hS4 := hid (hS0.out.none_ hc4)
                  have hcr4 := hid (hcr2.out.trans_same hc4)
                  clear hc4
                  go_wp2_with fail
                  refine hK2 _ _ hS4.out rfl ?_
                  clear hK2 K2
                  refine steps_wlW ?_
                  apply Exists.intro
                  refine ⟨?_, ?_⟩
                  focus
                    intro w'
                    iterate 2 (refine stW_step rfl (fun K hK => ?_); go_simp; refine hK _ ?_; clear hK K)
                    exact stW_nil rfl
                  refine steps_end rfl ?_
                  go_wp2_with fail
                  go_roundw
                  case rel => exact ⟨jj + 1, by omega, by go_num, hcr4⟩
                  case measure => simp [intOf]; omega
              case' nec =>
                intro hxk
                have hcs := V.ne_cases hxk
                have hy2 : Hid (getM L1 x = y) := hid (by have h9 := getM_setM_ne (v := v) hI.out (fun e => hxk e.symm); rw [hp.out] at h9; rw [h9]; exact hy.out)
                obtain ⟨ak, ap, aq, as_, ar⟩ := x
                obtain ⟨kk, kp, kq, ks, kr⟩ := k
                simp only at hcs
                rcases hcs with h | ⟨rfl, h⟩ | ⟨rfl, rfl, h⟩ | ⟨rfl, rfl, rfl, h⟩ | ⟨rfl, rfl, rfl, rfl, h⟩
                case' inr.inr.inr.inl => have h := bytes_ne h
                all_goals
                  go_wp2_with fail
                  refine wp_region_rc (id := 17) [.rd [0, 1, 2, 3, 4, 5, 6, 7, 8, 9, 10, 11, 12, 13, 14, 15, 17, 18, 19, 20], .act 16, .wl [21, 22]] [] [] (fun w' => SetS w' w.heap.size bo oo br jj _ _ y) (by kernel_rfl) 146 rfl (by kernel_rfl) (fun _ _ _ _ _ h => h) hS0.out ?_
                  refine steps_rdW ?_
                  apply Exists.intro
                  refine ⟨?_, ?_⟩
                  focus
                    rintro w' ⟨hSa, ⟨c0, c1, c2, c3, c4, -⟩, ⟨d0, d1, d2, d3, d4, -⟩⟩
                    obtain ⟨x0, x1, x2, x3, x4⟩ := V.box hSa
                    simp only at x0 x1 x2 x3 x4 c0 c1 c2 c3 c4
                    clear hSa
                    iterate 20 (refine stW_step rfl (fun K hK => ?_); go_simp; refine hK _ ?_; clear hK K)
                    exact stW_nil rfl
                  refine steps_act (o := ⟨_, _, _, _, _, _⟩) rfl (fun K2 hK2 => ?_)
                  go_wp2_with fail
                  refine (o_get hO4.out hxw.out hy2.out).mono ?_
                  rintro e w4 ⟨rfl, hc4⟩
                  have hS4 := hid (hS0.out.none_ hc4)
                  have hcr4 := hid (hcr2.out.trans_same hc4)
                  clear hc4
                  go_wp2_with fail
                  refine hK2 _ _ hS4.out rfl ?_
                  clear hK2 K2
                  refine steps_wlW ?_
                  apply Exists.intro
                  refine ⟨?_, ?_⟩
                  focus
                    intro w'
                    iterate 2 (refine stW_step rfl (fun K hK => ?_); go_simp; refine hK _ ?_; clear hK K)
                    exact stW_nil rfl
                  refine steps_end rfl ?_
                  go_wp2_with fail
                  go_roundw
                  case rel => exact ⟨jj + 1, by omega, by go_num, hcr4⟩
                  case measure => simp [intOf]; omega
            case' done2 =>
              intro hlt2
              have hC9 := hid (hC8.out.trans_same hcr.out)
              clear hcr
              go_wp2_with fail
              refine (lives_true _).mono ?_
              rintro e w5 ⟨rfl, hc5⟩
              have fin := hid (none_below (hC9.out.trans_same hc5))
              clear hc5
              go_wp2_with fail
              go_ret
              exact ⟨rfl, fin.out⟩
end Go.Proofs.Ytabodabfiklbnaa
