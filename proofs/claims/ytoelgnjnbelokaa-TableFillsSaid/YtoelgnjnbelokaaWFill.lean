/-
  TableFills: the walk.
-/
import Derived.Test.YtoelgnjnbelokaaWFillM
namespace Go.Proofs.Ytoelgnjnbelokaa
open Go.RowKit Go.Maps

/-- What holds between two Sets. -/
structure FillW (w wr : World) (S1 : Nat → Prop) (o bm j : Nat) (a : List V) (m : List Sl) (S : List Int) : Prop where
  tab : Tab wr S1 (bm + 1) o (j * 400000) a m
  fill : FillI a m S
  mp : FMap wr bm j S
  len : S.length ≤ j
  chg : Chg (fun _ => False) w wr
theorem FillW.none_ {w wr w' : World} {S1 : Nat → Prop} {o bm j : Nat} {a : List V} {m : List Sl} {S : List Int} (h : FillW w wr S1 o bm j a m S) (hc : Chg (fun _ => False) wr w') : FillW w w' S1 o bm j a m S :=
  ⟨h.tab.none_ hc, h.fill, h.mp.none_ hc, h.len, h.chg.trans_same hc⟩
theorem FillW.al {w wr : World} {S1 : Nat → Prop} {o bm j : Nat} {a : List V} {m : List Sl} {S : List Int} (h : FillW w wr S1 o bm j a m S) (hal : a.length ≤ 1000000) : a.length + nOf m ≤ j := by
  have := h.fill.count hal
  have := h.len
  omega
theorem FillW.bnd {w wr : World} {S1 : Nat → Prop} {o bm j : Nat} {a : List V} {m : List Sl} {S : List Int} (h : FillW w wr S1 o bm j a m S) (hal : a.length ≤ 1000000) : a.length + m.length ≤ j := by
  have h1 := h.al hal
  have h2 : nOf m = m.length := by unfold nOf; rw [liveL_self h.fill.live]
  omega
theorem fill_set {w : World} {S1 : Nat → Prop} {N o M : Nat} {a : List V} {m : List Sl} {S : List Int} (h : Tab w S1 N o M a m) (hN : N ≤ w.heap.size) (hb : a.length + m.length ≤ 300) (hM : M ≤ 100000000) {s : Int} (hs : 1 ≤ s ∧ s ≤ 256) (F : FillI a m S) (hS : S.length ≤ 300) (hal : a.length ≤ 1000000) :
    Calls Try.prog 14 #[.pointer (some ⟨o, 0, none⟩), .agg #[.int .i64 2, .int .i64 s, .int .i64 1, .string ⟨#[]⟩, .int .i64 0], .agg #[.int .i64 2, .int .i64 s, .int .i64 1, .string ⟨#[]⟩, .int .i64 0]] w fun e w' => ∃ a' m', e = .returned (.int .i64 0) ∧ FillI a' m' (if s ∈ S then S else S ++ [s]) ∧ Tab w' S1 N o (M + 400000) a' m' ∧ a'.length ≤ 1000000 ∧ Chg (fun k => S1 k ∨ N ≤ k) w w' := by
  refine (t_set h hN (by omega) (by omega) hM (k := kI s) (v := kI s) (kI_wf (by omega) (by omega))).mono ?_
  rintro e w' ⟨x, a', m', rfl, h1, h2, hc⟩
  obtain ⟨rfl, F'⟩ := F.step hS hs hal h1
  exact ⟨a', m', rfl, F', h2, h1.bnd F.inv (by have := F.count hal; omega), hc⟩
/-- The law's boxes in the last loop. -/
def Box3 (w : World) (g1 g2 : Nat) (x : V) : Prop := Bk w g1 26 x.cs ∧ Bk w g2 26 x.cs
theorem Box3.none_ {w w' : World} {g1 g2 : Nat} {x : V} (h : Box3 w g1 g2 x) (hc : Chg (fun _ => False) w w') : Box3 w' g1 g2 x := ⟨h.1.none_ hc, h.2.none_ hc⟩
structure FillZ (w wi : World) (S2 : Nat → Prop) (o g0 M : Nat) (a : List V) (m : List Sl) (p : V) : Prop where
  tab : Tab wi S2 (g0 + 1) o M a m
  box : Bk wi g0 26 p.cs
  chg : Chg (fun _ => False) w wi
theorem FillZ.none_ {w wi w' : World} {S2 : Nat → Prop} {o g0 M : Nat} {a : List V} {m : List Sl} {p : V} (h : FillZ w wi S2 o g0 M a m p) (hc : Chg (fun _ => False) wi w') : FillZ w w' S2 o g0 M a m p := ⟨h.tab.none_ hc, h.box.none_ hc, h.chg.trans_same hc⟩
theorem fill_next {w : World} {S1 : Nat → Prop} {N o M : Nat} {a : List V} {m : List Sl} (h : Tab w S1 N o M a m) (hb : a.length ≤ 1000000 ∧ m.length ≤ 1000000) {k : V} (hk : k.wf) {n : Int} (hx : nextT a m k = (kI n, kI n, true, 0)) :
    Calls Try.prog 11 #[.pointer (some ⟨o, 0, none⟩), (.agg #[.int .i64 k.k, .int .i64 k.p, .int .i64 k.q, .string k.s, .int .i64 k.r])] w fun e w' => e = .returned (.tuple #[.agg #[.int .i64 2, .int .i64 n, .int .i64 1, .string ⟨#[]⟩, .int .i64 0], .agg #[.int .i64 2, .int .i64 n, .int .i64 1, .string ⟨#[]⟩, .int .i64 0], .bool true, .int .i64 0]) ∧ Chg (fun _ => False) w w' := t_next h hb hk hx
theorem fill_size {w : World} {S1 : Nat → Prop} {N o M : Nat} {a : List V} {m : List Sl} (h : Tab w S1 N o M a m) {q : Nat} (hq : a.length = q) (hm : m.length = 0) (hb : q ≤ 1000000) : Calls Try.prog 19 #[.pointer (some ⟨o, 0, none⟩)] w fun e w' => e = .returned (.int .i64 (4 + 2 * (q : Int))) ∧ Chg (fun _ => False) w w' :=
  (t_size h hq hm (by omega)).mono fun _ _ ⟨h1, h2⟩ => ⟨by rw [h1, show (((4 + 2 * q + 4 * 0 : Nat)) : Int) = 4 + 2 * (q : Int) by omega], h2⟩
set_option maxRecDepth 100000 in
theorem fills_big (w : World) (A : Option Addr) (q lk : Nat) (hbad : 200 < q) :
    Calls Try.prog 4 #[.slice A q lk] w fun e w' => e = .returned (.bool true) ∧ Below w.heap.size w w' := by
  have ht : decide ((200 : Int) < (q : Int)) = true := decide_eq_true (by omega)
  clear hbad
  go_enter Try.func4, Try.ntmps4
  go_wp2_with fail
  refine (awake_true _).mono ?_
  rintro e w3 ⟨rfl, hc3⟩
  have fin := hid (none_below hc3)
  clear hc3
  go_wp2_with fail
  go_ret
  exact ⟨rfl, fin.out⟩
set_option maxRecDepth 100000 in
set_option maxHeartbeats 16000000 in
theorem fills_true (w : World) (A : Option Addr) (l : List Nat) (lk : Nat) (hl : U8Rd w A l) :
    Calls Try.prog 4 #[.slice A l.length lk] w fun e w' => e = .returned (.bool true) ∧ Below w.heap.size w w' := by
  by_cases hbad : 200 < l.length
  · exact fills_big w A l.length lk hbad
  have hmm := @run_makeMap Try.prog
  have hlh := hid hl
  obtain ⟨lim, hlim⟩ : ∃ lim, Hid (l.length = lim) := ⟨_, hid rfl⟩
  rw [hlim.out] at hbad ⊢
  have ht : decide ((200 : Int) < (lim : Int)) = false := decide_eq_false (by omega)
  have hlim2 : lim ≤ 200 := by omega
  clear hbad hl
  go_enter Try.func4, Try.ntmps4
  go_wp2_with fail
  refine (t_new _).mono ?_
  rintro e w1 ⟨o, rfl, hT', hc1⟩
  obtain ⟨S1, hS1', hfix1⟩ := hT'.fix
  have hS1 : Hid (∀ b, S1 b → b < w1.heap.size ∧ w.heap.size ≤ b) := hid fun b e => ⟨(hS1' b e).1, (hS1' b e).2.elim False.elim id⟩
  have hz1 : w.heap.size ≤ w1.heap.size := hc1.size
  have hstart : Hid (FillW w (w1.alloc (.map #[] 0)) S1 o w1.heap.size 0 [] [] []) := hid
    { tab := (hfix1 (w1.alloc (.map #[] 0)) (w1.heap.size + 1) ((Chg.refl _ w1).alloc _)).mono (by omega)
      fill := FillI.start
      mp := FMap.made w1
      len := by simp
      chg := hc1.alloc _ }
  clear hT' hc1 hS1' hfix1
  go_wp2_with fail
  clear ht hmm
  go_loopw [5] (fun i wr => ∃ j : Nat, j ≤ lim ∧ i = .int .i64 j ∧ Hid (∃ a m S, FillW w wr S1 o w1.heap.size j a m S ∧ a.length ≤ 1000000)) (fun i _ => lim - (intOf i).toNat)
  case atStart => exact ⟨0, Nat.zero_le _, rfl, hid ⟨_, _, _, hstart.out, by simp⟩⟩
  case round =>
    obtain ⟨j, hj, rfl, hG'⟩ := hrel
    clear hstart
    obtain ⟨a, m, S, hG, hal⟩ := hG'.out
    have hG := hid hG
    have hal := hid hal
    refine (Classical.em (j < lim)).elim ?more ?done
    case' more =>
      intro hlt
      obtain ⟨b, o', x, rfl, hb, hx, hx255⟩ := u8_at (hlh.out.none_ hG.out.chg) (j := j) (by rw [hlim.out]; exact hlt)
      have hw1 : IntKind.i64.wrap (1 + (x : Int)) = 1 + (x : Int) := by rw [IntKind.wrap_i64]; omega
      have hw2 : IntKind.i64.wrap (x : Int) = (x : Int) := by rw [IntKind.wrap_i64]; omega
      have hsr : 1 ≤ 1 + (x : Int) ∧ 1 + (x : Int) ≤ 256 := by omega
      obtain ⟨D, hD', hB'⟩ := hG.out.mp
      have hD := hid hD'
      have hlit : Hid (keyOf Try.prog 3 (.int .i64 (1 + (x : Int))) = some (.int .i64 (1 + (x : Int)))) := hid (keyOf_int_mk Try.underlying3 (int_wf (by omega) (by omega)))
      obtain ⟨S', hS'⟩ : ∃ S' : List Int, Hid ((if 1 + (x : Int) ∈ S then S else S ++ [1 + (x : Int)]) = S') := ⟨_, hid rfl⟩
      have hB : Hid (BoolAt (D.put (.int .i64 (1 + (x : Int))) (.lit (.bool true))) S') := hid (by rw [← hS'.out]; exact hB'.put hD'.isMap (hD'.tidy int_law) (int_law.key hlit.out))
      have hS'l : Hid (S'.length ≤ j + 1) := hid (by
        have := hG.out.len
        rw [← hS'.out]
        split
        · omega
        · rw [List.length_append, List.length_singleton]; omega)
      clear hG' hD' hB'
      go_wp2_with (at_mapUpdate; go_loud (refine wpList_mapUpdate_own _ rfl _ _ _ 46 rfl 3 4 int_law Try.underlying46 _ w1.heap.size j D rfl hD.out (by unfold maxLen; omega) _ _ _ rfl rfl hlit.out _ [] (plainElem_bool Try.underlying4 true) ?_; intro w5 hm5' hg5'; have hm5 := hid hm5'; have hc5 := hid ((Chg.refl (fun k => k = w1.heap.size) wr).grown hg5' fun k hk _ => by injection hk with hk; exact hk.symm); clear hm5' hg5'))
      have hT5 : Hid (Tab w5 S1 (w1.heap.size + 1) o (j * 400000) a m) := hid (hG.out.tab.chg hc5.out (fun b _ hb e => by
        rcases hb with hb | hb
        · have := hS1.out b hb; omega
        · omega))
      have hM5 : Hid (FMap w5 w1.heap.size (j + 1) S') := hid ⟨_, hm5.out, hB.out⟩
      have hC5 : Hid (Chg (fun _ => False) w w5) := hid (hG.out.chg.trans hc5.out (fun b hb e => by omega))
      have hF := hid hG.out.fill
      have hbn : Hid (a.length + m.length ≤ j) := hid (hG.out.bnd hal.out)
      have hSl := hid hG.out.len
      clear hm5 hc5 hB hD hlit hG
      go_wp2_with fail
      refine (num_k _ _).mono ?_
      rintro e w6 ⟨rfl, hc⟩
      have hT6 := hid (hT5.out.none_ hc)
      have hM6 := hid (hM5.out.none_ hc)
      have hC6 := hid (hC5.out.trans_same hc)
      clear hc hT5 hM5 hC5
      go_wp2_with fail
      refine (num_k _ _).mono ?_
      rintro e w7 ⟨rfl, hc⟩
      have hT7 := hid (hT6.out.none_ hc)
      have hM7 := hid (hM6.out.none_ hc)
      have hC7 := hid (hC6.out.trans_same hc)
      clear hc hT6 hM6 hC6
      go_wp2_with fail
      refine (fill_set hT7.out hM7.out.lt (by have := hbn.out; omega) (by omega) hsr hF.out (by have := hSl.out; omega) hal.out).mono ?_
      rintro e w8 ⟨a', m', rfl, hF8', hT8', hal8', hc⟩
      rw [hS'.out] at hF8'
      have fin : Hid (∃ a m S, FillW w w8 S1 o w1.heap.size (j + 1) a m S ∧ a.length ≤ 1000000) := hid ⟨a', m', S', ⟨hT8'.mono (by omega), hF8', hM7.out.chg hc (fun e => by
        rcases e with e | e
        · have := hS1.out _ e; omega
        · omega), hS'l.out, hC7.out.trans hc fun b hb e => by
        rcases e with e | e
        · have := hS1.out b e; omega
        · omega⟩, hal8'⟩
      clear hF8' hT8' hal8' hc hT7 hM7 hC7
      go_wp2_with fail
      go_roundw
      case rel => exact ⟨j + 1, by omega, by go_num, fin⟩
      case measure => simp [intOf]; omega
    case' done =>
      intro hlt
      have hjl : j = lim := by omega
      subst hjl
      clear hG'
      obtain ⟨q, hq⟩ : ∃ q, Hid (a.length = q) := ⟨_, hid rfl⟩
      obtain ⟨ss, hss⟩ : ∃ ss, Hid (S.length = ss) := ⟨_, hid rfl⟩
      have hql : q ≤ j := by have := hG.out.bnd hal.out; have := hq.out; omega
      have hsl : ss ≤ j := by have := hG.out.len; have := hss.out; omega
      have hF := hid hG.out.fill
      go_wp2_with fail
      go_loopw [7] (fun s wi => ∃ c : Nat, c ≤ q ∧ s = .int .i64 c ∧ Hid (FillW w wi S1 o w1.heap.size j a m S)) (fun s _ => q - (intOf s).toNat)
      case atStart => exact ⟨0, Nat.zero_le _, rfl, hG⟩
      case round =>
        obtain ⟨c, hc, rfl, hGc⟩ := hrel
        clear hG
        have hw1 : IntKind.i64.wrap ((c : Int) + 1) = (c : Int) + 1 := by rw [IntKind.wrap_i64]; omega
        refine (Classical.em (c < q)).elim ?in2 ?out2
        case' in2 =>
          intro hcl
          have hrun := hGc.out.mp.look (k := (c : Int) + 1) (by omega) (by omega) (b := true) (decide_eq_true (hF.out.low hal.out (by rw [hq.out]; exact hcl)))
          go_wp2_with fail
          go_roundw
          case rel => exact ⟨c + 1, by omega, by go_num, hGc⟩
          case measure => simp [intOf]; omega
        case' out2 =>
          intro hcl
          have hcj : c = q := by omega
          subst hcj
          have hrun := hGc.out.mp.look (k := (c : Int) + 1) (by omega) (by omega) (b := false) (decide_eq_false (by rw [← hq.out]; exact hF.out.stop hal.out))
          go_upto_region 17 with fail
          go_cut [79] (fun t wx => t = .bool false ∧ Hid (FillW w wx S1 o w1.heap.size j a m S))
          case first =>
            clear hrun
            go_wp2_with fail
            refine (t_array hGc.out.tab hq.out).mono ?_
            rintro e w5 ⟨rfl, hw⟩
            subst hw
            go_wp2_with fail
            refine (t_len hGc.out.tab hq.out).mono ?_
            rintro e w5 ⟨rfl, hw⟩
            subst hw
            go_wp2_with fail
            refine (t_count hGc.out.tab (by have := hGc.out.bnd hal.out; omega) (x := ss) (by rw [hF.out.cnt hal.out]; exact hss.out)).mono ?_
            rintro e w5 ⟨rfl, hc⟩
            have hG5 := hid (hGc.out.none_ hc)
            have hlen := fun ty => hG5.out.mp.len ty hss.out
            clear hc hGc
            by_cases he : c = ss
            · subst he
              have hm0 : Hid (m.length = 0) := hid (hF.out.none hal.out (by rw [hq.out, hss.out]))
              have hw2 : IntKind.i64.wrap (2 * (c : Int)) = 2 * (c : Int) := by rw [IntKind.wrap_i64]; omega
              have hw3 : IntKind.i64.wrap (4 + 2 * (c : Int)) = 4 + 2 * (c : Int) := by rw [IntKind.wrap_i64]; omega
              go_wp2_with fail
              refine (fill_size hG5.out.tab hq.out hm0.out (by omega)).mono ?_
              rintro e w6 ⟨rfl, hc⟩
              have hG6 := hid (hG5.out.none_ hc)
              clear hc hG5
              go_wp2_with fail
              go_meet
              case rel => exact ⟨rfl, hG6⟩
            · have t1 : ((c : Int) == (ss : Int)) = false := by simpa using fun e => he (by omega)
              have t2 : (c == ss) = false := by simpa using he
              have t3 : decide ((c : Int) = (ss : Int)) = false := decide_eq_false (by omega)
              go_wp2_with fail
              go_meet
              case rel => exact ⟨rfl, hG5⟩
          case rest =>
            obtain ⟨rfl, hG5⟩ := hcut
            rename World => w5
            clear hGc hrun
            obtain ⟨S2, hS2', hfix2⟩ := hG5.out.tab.fix
            have hS2 : Hid (∀ b, S2 b → b < w5.heap.size) := hid fun b e => (hS2' b e).1
            have hbm : Hid (a.length ≤ 1000000 ∧ m.length ≤ 1000000) := hid (by have := hG5.out.bnd hal.out; omega)
            have hz0 : Hid (FillZ w (w5.alloc (.cells V.zero.cs.toArray 26)) S2 o w5.heap.size (j * 400000) a m (prevT 0)) := hid ⟨hfix2 _ _ ((Chg.refl _ w5).alloc _), Bk.new w5 26 V.zero.cs, hG5.out.chg.alloc _⟩
            have hz5 : w.heap.size ≤ w5.heap.size := hG5.out.chg.size
            clear hS2' hfix2 hG5
            go_wp2_with fail
            go_loopw [9] (fun s wi => ∃ d : Nat, d ≤ c ∧ s = .int .i64 ((d : Int) + 1) ∧ Hid (FillZ w wi S2 o w5.heap.size (j * 400000) a m (prevT d))) (fun s _ => c + 1 - (intOf s).toNat)
            case atStart => exact ⟨0, Nat.zero_le _, rfl, hz0⟩
            case round =>
              obtain ⟨d, hd, rfl, hZ⟩ := hrel
              clear hz0
              refine (Classical.em (d < c)).elim ?in3 ?out3
              case' in3 =>
                intro hcl
                have t1 : decide ((d : Int) + 1 ≤ (c : Int)) = true := decide_eq_true (by omega)
                have hw2 : IntKind.i64.wrap ((d : Int) + 1 + 1) = (d : Int) + 1 + 1 := by rw [IntKind.wrap_i64]; omega
                obtain ⟨p, hp⟩ : ∃ p, Hid (prevT d = p) := ⟨_, hid rfl⟩
                have hpw : Hid p.wf := hid (by rw [← hp.out]; exact prevT_wf d (by omega))
                have hnx : Hid (nextT a m p = (kI ((d : Int) + 1), kI ((d : Int) + 1), true, 0)) := hid (by rw [← hp.out]; exact hF.out.next hal.out (by rw [hq.out]; exact hcl))
                rw [hp.out] at hZ
                obtain ⟨x0, x1, x2, x3, x4⟩ := V.box hZ.out.box
                have hxl := hZ.out.box.lt
                go_wp2_with fail
                refine (fill_next hZ.out.tab hbm.out hpw.out hnx.out).mono ?_
                rintro e w8 ⟨rfl, hc8⟩
                have hZ8 := hid (hZ.out.none_ (((hc8.alloc (.cells (kI ((d : Int) + 1)).cs.toArray 26)).alloc (.cells (kI ((d : Int) + 1)).cs.toArray 26)).drew))
                have hB8 : Hid (Box3 ((w8.alloc (.cells (kI ((d : Int) + 1)).cs.toArray 26)).alloc (.cells (kI ((d : Int) + 1)).cs.toArray 26)).drew w8.heap.size (w8.heap.size + 1) (kI ((d : Int) + 1))) := hid ⟨((Bk.new w8 26 _).alloc _).drew, (Bk.new_at (w8.alloc (.cells (kI ((d : Int) + 1)).cs.toArray 26)) 26 (kI ((d : Int) + 1)).cs.toArray (w8.heap.size + 1) (by simp)).drew⟩
                have hg0 : w5.heap.size < w8.heap.size := by have := hZ.out.box.lt; have := hc8.size; omega
                clear hc8 hZ x0 x1 x2 x3 x4 hxl
                go_wp2_with fail
                refine wp_region_rc (id := 24) [.rd [0, 1], .act 2, .rd [3, 4, 5, 6], .act 7, .wl [8, 9, 10, 11, 12, 13, 14, 15, 16, 17]] [] [] (fun w' => Box3 w' w8.heap.size (w8.heap.size + 1) (kI ((d : Int) + 1))) (by kernel_rfl) 114 rfl (by kernel_rfl) (fun _ _ _ _ _ h => h) hB8.out ?_
                refine steps_rdW ?_
                apply Exists.intro
                refine ⟨?_, ?_⟩
                focus
                  rintro w' ⟨hSa, hSb⟩
                  obtain ⟨y0, y1, y2, y3, y4⟩ := V.box hSa
                  simp only [kI] at y0 y1 y2 y3 y4
                  clear hSa hSb
                  iterate 2 (refine stW_step rfl (fun K hK => ?_); go_simp; refine hK _ ?_; clear hK K)
                  exact stW_nil rfl
                refine steps_act (o := ⟨_, _, _, _, _, _⟩) rfl (fun K2 hK2 => ?_)
                go_wp2_with fail
                refine (num_k _ _).mono ?_
                rintro e w9 ⟨rfl, hc⟩
                have hZ9 := hid (hZ8.out.none_ hc)
                have hB9 := hid (hB8.out.none_ hc)
                clear hc hZ8 hB8
                go_wp2
                refine hK2 _ _ hB9.out rfl ?_
                clear hK2 K2
                refine steps_rdW ?_
                apply Exists.intro
                refine ⟨?_, ?_⟩
                focus
                  rintro w' ⟨hSa, hSb⟩
                  obtain ⟨y0, y1, y2, y3, y4⟩ := V.box hSb
                  simp only [kI] at y0 y1 y2 y3 y4
                  clear hSa hSb
                  iterate 4 (refine stW_step rfl (fun K hK => ?_); go_simp; refine hK _ ?_; clear hK K)
                  exact stW_nil rfl
                refine steps_act (o := ⟨_, _, _, _, _, _⟩) rfl (fun K2 hK2 => ?_)
                go_wp2_with fail
                refine (num_k _ _).mono ?_
                rintro e wa ⟨rfl, hc⟩
                have hZa := hid (hZ9.out.none_ hc)
                have hBa := hid (hB9.out.none_ hc)
                clear hc hZ9 hB9
                go_wp2
                refine hK2 _ _ hBa.out rfl ?_
                clear hK2 K2
                refine steps_wlW ?_
                apply Exists.intro
                refine ⟨?_, ?_⟩
                focus
                  intro w'
                  iterate 10 (refine stW_step rfl (fun K hK => ?_); go_simp; refine hK _ ?_; clear hK K)
                  exact stW_nil rfl
                refine steps_end rfl ?_
                obtain ⟨y0, y1, y2, y3, y4⟩ := V.box hBa.out.1
                simp only [kI] at y0 y1 y2 y3 y4
                have hyl := hBa.out.1.lt
                obtain ⟨z0, z1, z2, z3, z4⟩ := V.box hZa.out.box
                have hzl := hZa.out.box.lt
                have hzf := fun jj => hZa.out.box.frozen jj
                have hne1 : w8.heap.size ≠ w5.heap.size := by omega
                have hne2 : w5.heap.size ≠ w8.heap.size := by omega
                have fin : Hid (FillZ w (put5 wa w5.heap.size 0 (kI ((d : Int) + 1))) S2 o w5.heap.size (j * 400000) a m (prevT (d + 1))) := hid ⟨hZa.out.tab.chg (put5_chg wa w5.heap.size 0 _) (fun b _ hb e => by
                  rcases hb with hb | hb
                  · have := hS2.out b hb; omega
                  · omega), (by
                    have h := put5_bk (y := kI ((d : Int) + 1)) hZa.out.box
                    have e : prevT (d + 1) = kI ((d : Int) + 1) := by unfold prevT; rw [if_neg (by omega)]; congr 1
                    rw [e]
                    exact h), hZa.out.chg.trans (put5_chg wa w5.heap.size 0 _) (fun jj hjj e => by omega)⟩
                clear hZa hBa
                go_wp2_with fail
                go_roundw
                case rel => exact ⟨d + 1, by omega, by go_num, fin⟩
                case measure => simp [intOf]; omega
              case' out3 =>
                intro hcl
                have hcj : d = c := by omega
                subst hcj
                have t1 : decide ((d : Int) + 1 ≤ (d : Int)) = false := decide_eq_false (by omega)
                have hCz := hid hZ.out.chg
                clear hZ
                go_wp2_with fail
                refine (awake_true _).mono ?_
                rintro e wz ⟨rfl, hc3⟩
                have fin := hid (none_below (hCz.out.trans_same hc3))
                clear hc3
                go_wp2_with fail
                go_ret
                exact ⟨rfl, fin.out⟩
end Go.Proofs.Ytoelgnjnbelokaa
