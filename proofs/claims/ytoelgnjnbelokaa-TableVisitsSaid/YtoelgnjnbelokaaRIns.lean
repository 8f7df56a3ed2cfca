/-
  Insert and Remove of the reference's table.
-/
import Derived.Test.YtoelgnjnbelokaaRSet
import Derived.Test.YtoelgnjnbelokaaTGets
import Derived.Test.YtoelgnjnbelokaaWTRem
namespace Go.Proofs.Ytoelgnjnbelokaa
open Go.RowKit Go.Maps

theorem kI_good {n : Int} (h1 : -2147483647 ≤ n) (h2 : n ≤ 2147483647) : ¬ ((kI n).k = 0 ∨ vok (kI n) = false) := by
  rw [(isI_kI h1 h2).2]
  simp [kI]
section
variable {w w' wr : World} {S : Nat → Prop} {N r : Nat} {a a' : List V} {m m' : List Sl} {k v : V} {e : Int}
theorem SetR.at_next (h : SetR a m k v e a' m') (I : Inv m) (hk : k = kI ((a.length : Int) + 1)) (hv : vok v = true) (hv0 : v.k ≠ 0) (hb : a.length ≤ 1000000) :
    a.length + 1 ≤ a'.length ∧ a'.length + nOf m' ≤ a.length + nOf m + 1 ∧ m'.length ≤ m.length := by
  cases h with
  | badKey h => rw [hk] at h; exact absurd h (kI_good (by omega) (by omega))
  | badVal h hv' => rw [hv] at hv'; cases hv'
  | here i hi hk2 hv2 =>
    rw [hk] at hk2
    have := kI_inj hk2
    omega
  | add hk2 hv2 hv02 h => exact ⟨h.add.len, add_len I h hb⟩
  | map h1 h2 hin hnx hp => exact absurd ⟨hk, hv0⟩ hnx
theorem SetR.at_in (h : SetR a m k v e a' m') {i : Nat} (hk : k = kI ((i : Int) + 1)) (hi : i + 1 < a.length) (hv : vok v = true) (hb : a.length ≤ 1000000) : a' = a.set i v ∧ m' = m := by
  cases h with
  | badKey h => rw [hk] at h; exact absurd h (kI_good (by omega) (by omega))
  | badVal h hv' => rw [hv] at hv'; cases hv'
  | here j hj hk2 hv2 =>
    rw [hk] at hk2
    have := kI_inj hk2
    obtain rfl : i = j := by omega
    rw [if_neg (by omega)]
    exact ⟨rfl, rfl⟩
  | add hk2 hv2 hv02 h =>
    rw [hk] at hk2
    have := kI_inj hk2
    omega
  | map h1 h2 hin hnx hp =>
    rw [hk, show ((i : Int) + 1) = ((i + 1 : Nat) : Int) by simp, inN_kI (by omega) (by omega) (by omega)] at hin
    cases hin
/-- The reference's table since the world w. -/
structure RW (w wr : World) (S : Nat → Prop) (N r : Nat) (a : List V) (m : List Sl) : Prop where
  tab : RTab wr S N r a m
  inv : TInv a m
  chg : Chg (fun k => S k ∨ N ≤ k) w wr
  size : N ≤ wr.heap.size
theorem RW.none_ (h : RW w wr S N r a m) (hc : Chg (fun _ => False) wr w') : RW w w' S N r a m := ⟨h.tab.none_ hc, h.inv, h.chg.trans hc fun _ _ e => e.elim, Nat.le_trans h.size hc.size⟩
theorem RW.set (h : RW w wr S N r a m) (hp : a.length + nOf m ≤ 400) (hm : m.length ≤ 400) (k v : V) :
    Calls Try.prog 44 #[.pointer (some ⟨r, 0, none⟩), (.agg #[.int .i64 k.k, .int .i64 k.p, .int .i64 k.q, .string k.s, .int .i64 k.r]), (.agg #[.int .i64 v.k, .int .i64 v.p, .int .i64 v.q, .string v.s, .int .i64 v.r])] wr fun e w' => ∃ x a' m', e = .returned (.int .i64 x) ∧ SetR a m k v x a' m' ∧ RW w w' S N r a' m' := by
  refine (r_set h.tab h.size h.inv (by omega) k v).mono ?_
  rintro e w1 ⟨x, a', m', rfl, h1, h2, h3⟩
  exact ⟨x, a', m', rfl, h1, h2, (h1.law h.inv (by omega) (h1.bnd h.inv (by omega))).1, h.chg.trans_same h3, Nat.le_trans h.size h3.size⟩
/-- Insert on the way: the keys above j are set. -/
def InsSt (w wr : World) (S : Nat → Prop) (N r : Nat) (a : List V) (m : List Sl) (j : Nat) : Prop :=
  ∃ a1 m1, RW w wr S N r a1 m1 ∧ ((j = a.length ∧ a1 = a ∧ m1 = m) ∨ (j < a.length ∧ a.length + 1 ≤ a1.length ∧ a1.length + nOf m1 ≤ a.length + nOf m + 1 ∧ m1.length ≤ m.length))
theorem InsSt.none_ {j : Nat} (h : InsSt w wr S N r a m j) (hc : Chg (fun _ => False) wr w') : InsSt w w' S N r a m j := by
  obtain ⟨a1, m1, h1, h2⟩ := h
  exact ⟨a1, m1, h1.none_ hc, h2⟩
theorem InsSt.get {j i q : Nat} (h : InsSt w wr S N r a m j) (hq : a.length = q) (hb : a.length + nOf m ≤ 300) (hi : i + 1 = j) (hj : j ≤ q) :
    Calls Try.prog 56 #[.pointer (some ⟨r, 0, none⟩), (.agg #[.int .i64 ((kI (j : Int))).k, .int .i64 ((kI (j : Int))).p, .int .i64 ((kI (j : Int))).q, .string ((kI (j : Int))).s, .int .i64 ((kI (j : Int))).r])] wr fun e w' => ∃ x : V, e = .returned (.agg #[.int .i64 x.k, .int .i64 x.p, .int .i64 x.q, .string x.s, .int .i64 x.r]) ∧ (vok x = true ∧ (j = q → x.k ≠ 0)) ∧ Chg (fun _ => False) wr w' := by
  obtain ⟨a1, m1, h1, h2⟩ := h
  have hl : j ≤ a1.length ∧ a1.length ≤ 1000 := by
    rcases h2 with ⟨e, rfl, rfl⟩ | ⟨e, e2, e3, e4⟩ <;> omega
  refine (r_get h1.tab (i := i) (by omega) (by omega) (k := kI (j : Int)) (x := vAt a1 i) (by rw [wholeI_kI (by omega) (by omega)]; omega) rfl).mono ?_
  rintro e w1 ⟨rfl, hc⟩
  refine ⟨_, rfl, ⟨h1.inv.val i (by omega), fun e => ?_⟩, hc⟩
  rcases h2 with ⟨e1, rfl, rfl⟩ | ⟨e1, e2, e3, e4⟩
  · rcases h1.inv.last with h0 | h0
    · omega
    · rw [show a1.length - 1 = i by omega] at h0
      exact h0
  · omega
theorem InsSt.set {j i q : Nat} {x : V} (h : InsSt w wr S N r a m j) (hq : a.length = q) (hb : a.length + nOf m ≤ 300) (hm : m.length ≤ 300) (hi : i + 1 = j) (_hj : j ≤ q) (hx : vok x = true ∧ (j = q → x.k ≠ 0)) :
    Calls Try.prog 44 #[.pointer (some ⟨r, 0, none⟩), (.agg #[.int .i64 ((kI ((j : Int) + 1))).k, .int .i64 ((kI ((j : Int) + 1))).p, .int .i64 ((kI ((j : Int) + 1))).q, .string ((kI ((j : Int) + 1))).s, .int .i64 ((kI ((j : Int) + 1))).r]), (.agg #[.int .i64 x.k, .int .i64 x.p, .int .i64 x.q, .string x.s, .int .i64 x.r])] wr fun e w' => ∃ y, e = .returned (.int .i64 y) ∧ InsSt w w' S N r a m i := by
  obtain ⟨a1, m1, h1, h2⟩ := h
  have hl : a1.length + nOf m1 ≤ 400 ∧ m1.length ≤ 400 := by
    rcases h2 with ⟨e, rfl, rfl⟩ | ⟨e, e2, e3, e4⟩ <;> omega
  refine (h1.set hl.1 hl.2 (kI ((j : Int) + 1)) x).mono ?_
  rintro e w1 ⟨y, a2, m2, rfl, h3, h4⟩
  refine ⟨y, rfl, a2, m2, h4, .inr ?_⟩
  rcases h2 with ⟨e1, rfl, rfl⟩ | ⟨e1, e2, e3, e4⟩
  · obtain ⟨g1, g2, g3⟩ := h3.at_next h1.inv.inv (by rw [e1]) hx.1 (hx.2 (by omega)) (by omega)
    exact ⟨by omega, by omega, g2, g3⟩
  · obtain ⟨rfl, rfl⟩ := h3.at_in (i := j) rfl (by omega) hx.1 (by omega)
    rw [List.length_set]
    exact ⟨by omega, e2, e3, e4⟩
theorem InsSt.last {j p : Nat} {x : V} (h : InsSt w wr S N r a m j) (hb : a.length + nOf m ≤ 300) (hm : m.length ≤ 300) (hp : j + 1 = p) (hx : vok x = true) :
    Calls Try.prog 44 #[.pointer (some ⟨r, 0, none⟩), (.agg #[.int .i64 ((kI (p : Int))).k, .int .i64 ((kI (p : Int))).p, .int .i64 ((kI (p : Int))).q, .string ((kI (p : Int))).s, .int .i64 ((kI (p : Int))).r]), (.agg #[.int .i64 x.k, .int .i64 x.p, .int .i64 x.q, .string x.s, .int .i64 x.r])] wr fun e w' => ∃ y a' m', e = .returned (.int .i64 y) ∧ RW w w' S N r a' m' ∧ (a'.length + nOf m' ≤ a.length + nOf m + 1 ∧ m'.length ≤ m.length + 1) := by
  obtain ⟨a1, m1, h1, h2⟩ := h
  have hl : a1.length + nOf m1 ≤ 400 ∧ m1.length ≤ 400 := by
    rcases h2 with ⟨e, rfl, rfl⟩ | ⟨e, e2, e3, e4⟩ <;> omega
  refine (h1.set hl.1 hl.2 (kI (p : Int)) x).mono ?_
  rintro e w1 ⟨y, a2, m2, rfl, h3, h4⟩
  refine ⟨y, a2, m2, rfl, h4, ?_⟩
  rcases h2 with ⟨e1, rfl, rfl⟩ | ⟨e1, e2, e3, e4⟩
  · exact h3.len h1.inv.inv (by omega)
  · obtain ⟨rfl, rfl⟩ := h3.at_in (i := j) (by rw [← hp]; simp) (by omega) hx (by omega)
    rw [List.length_set]
    exact ⟨by omega, by omega⟩
theorem ins_bad_fact {i : Int} {q : Nat} (h : ¬ (1 ≤ i ∧ i ≤ (q : Int) + 1)) : decide (i < 1) = true ∨ (decide (i < 1) = false ∧ decide ((q : Int) + 1 < i) = true) := by
  by_cases e : i < 1
  · exact .inl (by simpa using e)
  · exact .inr ⟨by simpa using e, by simp; omega⟩
set_option maxRecDepth 100000 in
set_option maxHeartbeats 16000000 in
theorem r_insert (h : RTab w S N r a m) (hN : N ≤ w.heap.size) (I : TInv a m) (hb : a.length + nOf m ≤ 300) (hm : m.length ≤ 300) (at_ : Int) (v : V) :
    Calls Try.prog 45 #[.pointer (some ⟨r, 0, none⟩), .int .i64 at_, (.agg #[.int .i64 v.k, .int .i64 v.p, .int .i64 v.q, .string v.s, .int .i64 v.r])] w fun e w' => ∃ x a' m', e = .returned (.int .i64 x) ∧ TInv a' m' ∧ (a'.length + nOf m' ≤ a.length + nOf m + 1 ∧ m'.length ≤ m.length + 1) ∧ RTab w' S N r a' m' ∧ Chg (fun k => S k ∨ N ≤ k) w w' := by
  obtain ⟨q, hq⟩ : ∃ q, Hid (a.length = q) := ⟨_, hid rfl⟩
  have hq3 : q ≤ 300 := by rw [← hq.out]; omega
  obtain ⟨A, cap, c, c0, -⟩ := h.cells hq.out
  have hol := h.lt
  have hB := hid (Bk.new w 26 v.cs)
  have hC := hid ((Chg.refl (fun _ => False) w).alloc (.cells v.cs.toArray 26))
  have hw1 : IntKind.i64.wrap ((q : Int) + 1) = (q : Int) + 1 := by rw [IntKind.wrap_i64]; omega
  have hsame : Hid (∀ w', Chg (fun _ => False) w w' → TInv a m ∧ (a.length + nOf m ≤ a.length + nOf m + 1 ∧ m.length ≤ m.length + 1) ∧ RTab w' S N r a m ∧ Chg (fun k => S k ∨ N ≤ k) w w') := hid fun w' hc => ⟨I, ⟨by omega, by omega⟩, h.none_ hc, hc.mono fun _ _ e => e.elim⟩
  by_cases hat : 1 ≤ at_ ∧ at_ ≤ (q : Int) + 1
  · obtain ⟨p, rfl⟩ := Int.eq_ofNat_of_zero_le (show 0 ≤ at_ by omega)
    have hp1 : 1 ≤ p := by omega
    have hpq : p ≤ q + 1 := by omega
    have t1 : decide ((p : Int) < 1) = false := decide_eq_false (by omega)
    have t2 : decide ((q : Int) + 1 < (p : Int)) = false := decide_eq_false (by omega)
    obtain ⟨bv, hbv⟩ : ∃ b, Hid (vok v = b) := ⟨_, hid rfl⟩
    obtain ⟨S', hS', hfix⟩ := h.fix
    have hSS : Hid (∀ k, S' k → k < w.heap.size ∧ (S k ∨ N ≤ k)) := hid hS'
    have hNh := hid hN
    have hbh := hid hb
    have hmh := hid hm
    have hst0 : Hid (InsSt (w.alloc (.cells v.cs.toArray 26)) (w.alloc (.cells v.cs.toArray 26)) S' (w.heap.size + 1) r a m q) := hid ⟨a, m, ⟨hfix _ _ hC.out, I, Chg.refl _ _, by simp⟩, .inl ⟨hq.out.symm, rfl, rfl⟩⟩
    clear h hN I hat hS' hfix hb hm
    go_enter Try.func45, Try.ntmps45
    go_wp2_with fail
    refine (doc_valid_eq hbv.out).mono ?_
    rintro e w1 ⟨rfl, hc⟩
    have hC1 := hid (hC.out.trans_same hc)
    have hst1 := hid (hst0.out.none_ hc)
    clear hst0 c0 hol
    cases bv
    case' false =>
      have fin := hid (hsame.out w1 hC1.out)
      clear hst1 hsame hc
      go_wp2_with fail
      go_ret
      exact ⟨2, a, m, rfl, fin.out⟩
    case' true =>
      clear hsame hc
      go_wp2_with fail
      go_loopw [8] (fun s wr => ∃ j : Nat, p ≤ j + 1 ∧ j ≤ q ∧ s = .int .i64 (j : Int) ∧ Hid (InsSt (w.alloc (.cells v.cs.toArray 26)) wr S' (w.heap.size + 1) r a m j)) (fun s _ => (intOf s).toNat)
      case atStart => exact ⟨q, by omega, Nat.le_refl _, rfl, hst1⟩
      case round =>
        obtain ⟨j, hpj, hjq, rfl, hst⟩ := hrel
        rename World => wr
        clear hst1
        refine (Classical.em (p ≤ j)).elim ?more ?done
        case' more =>
          intro hle
          have t3 : decide ((p : Int) ≤ (j : Int)) = true := decide_eq_true (by omega)
          obtain ⟨i, hi⟩ : ∃ i, Hid (i + 1 = j) := ⟨j - 1, hid (by omega)⟩
          have hw2 : IntKind.i64.wrap ((j : Int) + 1) = (j : Int) + 1 := by rw [IntKind.wrap_i64]; omega
          have hw3 : IntKind.i64.wrap ((j : Int) - 1) = (i : Int) := by rw [IntKind.wrap_i64]; have := hi.out; omega
          go_wp2_with fail
          refine (ref_key _ ((j : Int) + 1) (by omega) (by omega)).mono ?_
          rintro e w2 ⟨rfl, hc⟩
          have hst2 := hid (hst.out.none_ hc)
          clear hst hc
          go_wp2_with fail
          refine (ref_key _ (j : Int) (by omega) (by omega)).mono ?_
          rintro e w3 ⟨rfl, hc⟩
          have hst3 := hid (hst2.out.none_ hc)
          clear hst2 hc
          go_wp2_with fail
          refine (hst3.out.get hq.out hbh.out hi.out hjq).mono ?_
          rintro e w4 ⟨x, rfl, hx', hc⟩
          have hx := hid hx'
          have hst4 := hid (hst3.out.none_ hc)
          clear hst3 hc hx'
          go_wp2_with fail
          refine (hst4.out.set hq.out hbh.out hmh.out hi.out hjq hx.out).mono ?_
          rintro e w5 ⟨y, rfl, hst5'⟩
          have hst5 := hid hst5'
          clear hst4 hst5'
          go_wp2_with fail
          go_roundw
          case rel => exact ⟨i, by have := hi.out; omega, by have := hi.out; omega, by first | rfl | go_num, hst5⟩
          case measure => have := hi.out; simp [intOf]; omega
        case' done =>
          intro hle
          have t3 : decide ((p : Int) ≤ (j : Int)) = false := decide_eq_false (by omega)
          have hpj2 : Hid (j + 1 = p) := hid (by omega)
          have hBr : Hid (Bk wr.drew w.heap.size 26 v.cs) := hid (by
            obtain ⟨a1, m1, h1, -⟩ := hst.out
            exact (hB.out.chg h1.chg fun e => e.elim (fun e => by have := (hSS.out _ e).1; omega) fun e => by omega).drew)
          have hstd := hid (hst.out.none_ ((Chg.refl (fun _ => False) wr).drew))
          clear hst
          go_wp2_with fail
          refine wp_region_rc (id := 12) [.rd [0, 1, 3], .act 2] [4, 5] [] (fun w' => Bk w' w.heap.size 26 v.cs) (by kernel_rfl) 47 rfl (by kernel_rfl) (fun _ _ _ _ _ h => h) hBr.out ?_
          refine steps_rdW ?_
          apply Exists.intro
          refine ⟨?_, ?_⟩
          focus
            intro w' hSb
            obtain ⟨y0, y1, y2, y3, y4⟩ := V.box hSb
            clear hSb
            iterate 3 (refine stW_step rfl (fun K hK => ?_); go_simp; refine hK _ ?_; clear hK K)
            exact stW_nil rfl
          refine steps_act (o := ⟨_, _, _, _, _, _⟩) rfl (fun K2 hK2 => ?_)
          go_wp2_with fail
          refine (ref_key _ (p : Int) (by omega) (by omega)).mono ?_
          rintro e w6 ⟨rfl, hc⟩
          have hB6 := hid (hBr.out.none_ hc)
          have hst6 := hid (hstd.out.none_ hc)
          clear hc hBr hstd
          go_wp2_with fail
          refine hK2 _ _ hB6.out rfl ?_
          clear hK2 K2
          refine steps_nil (l := [⟨_, _, _, _, _, _⟩, ⟨_, _, _, _, _, _⟩]) rfl (fun K2 hK2 => ?_)
          go_wp2_with fail
          refine (hst6.out.last hbh.out hmh.out hpj2.out hbv.out).mono ?_
          rintro e w7 ⟨y, a', m', rfl, h7, h8⟩
          have fin : Hid (TInv a' m' ∧ (a'.length + nOf m' ≤ a.length + nOf m + 1 ∧ m'.length ≤ m.length + 1) ∧ RTab w7 S N r a' m' ∧ Chg (fun k => S k ∨ N ≤ k) w w7) := hid ⟨h7.inv, h8, h7.tab.weaken (fun k e => (hSS.out k e).2) (by have := hNh.out; omega), (hC.out.mono (T := fun k => S k ∨ N ≤ k) fun _ _ e => e.elim).trans_same (h7.chg.mono fun k _ e => e.elim (fun e => (hSS.out k e).2) fun e => .inr (by have := hNh.out; omega))⟩
          clear h7 h8 hst6 hB6
          go_wp2_with fail
          refine hK2 _ _ rfl ?_
          clear hK2 K2
          refine stI_nil ?_
          go_wp2_with fail
          go_ret
          exact ⟨y, a', m', rfl, fin.out⟩
  · have hr := ins_bad_fact hat
    have fin := hid (hsame.out _ hC.out)
    clear h hN I hat hb hm hsame
    rcases hr with t1 | ⟨t1, t2⟩ <;>
    · go_enter Try.func45, Try.ntmps45
      go_wp2_with fail
      go_ret
      exact ⟨6, a, m, rfl, fin.out⟩
/-- Remove on the way. -/
def RemSt (w wr : World) (S : Nat → Prop) (N r q : Nat) (m : List Sl) : Prop := ∃ a1, RW w wr S N r a1 m ∧ a1.length = q
theorem RemSt.none_ {q : Nat} (h : RemSt w wr S N r q m) (hc : Chg (fun _ => False) wr w') : RemSt w w' S N r q m := by
  obtain ⟨a1, h1, h2⟩ := h
  exact ⟨a1, h1.none_ hc, h2⟩
theorem RemSt.get {i q : Nat} (h : RemSt w wr S N r q m) (hb : q ≤ 300) (hi : i < q) {n : Int} (hn : n = (i : Int) + 1) :
    Calls Try.prog 56 #[.pointer (some ⟨r, 0, none⟩), (.agg #[.int .i64 ((kI n)).k, .int .i64 ((kI n)).p, .int .i64 ((kI n)).q, .string ((kI n)).s, .int .i64 ((kI n)).r])] wr fun e w' => ∃ x : V, e = .returned (.agg #[.int .i64 x.k, .int .i64 x.p, .int .i64 x.q, .string x.s, .int .i64 x.r]) ∧ vok x = true ∧ Chg (fun _ => False) wr w' := by
  obtain ⟨a1, h1, rfl⟩ := h
  refine (r_get h1.tab (i := i) (by omega) hi (k := kI n) (x := vAt a1 i) (by rw [wholeI_kI (by omega) (by omega)]; omega) rfl).mono ?_
  rintro e w1 ⟨rfl, hc⟩
  exact ⟨_, rfl, h1.inv.val i hi, hc⟩
theorem RemSt.set {i q : Nat} {x : V} (h : RemSt w wr S N r q m) (hb : q + nOf m ≤ 300) (hm : m.length ≤ 300) (hi : i + 1 < q) {n : Int} (hn : n = (i : Int) + 1) (hx : vok x = true) :
    Calls Try.prog 44 #[.pointer (some ⟨r, 0, none⟩), (.agg #[.int .i64 ((kI n)).k, .int .i64 ((kI n)).p, .int .i64 ((kI n)).q, .string ((kI n)).s, .int .i64 ((kI n)).r]), (.agg #[.int .i64 x.k, .int .i64 x.p, .int .i64 x.q, .string x.s, .int .i64 x.r])] wr fun e w' => ∃ y, e = .returned (.int .i64 y) ∧ RemSt w w' S N r q m := by
  obtain ⟨a1, h1, rfl⟩ := h
  refine (h1.set (by omega) (by omega) (kI n) x).mono ?_
  rintro e w1 ⟨y, a2, m2, rfl, h3, h4⟩
  obtain ⟨rfl, rfl⟩ := h3.at_in (i := i) (by rw [hn]) hi hx (by omega)
  exact ⟨y, rfl, _, h4, List.length_set⟩
theorem RemSt.last {q : Nat} (h : RemSt w wr S N r q m) (hb : q + nOf m ≤ 300) (hm : m.length ≤ 300) (k x : V) :
    Calls Try.prog 44 #[.pointer (some ⟨r, 0, none⟩), (.agg #[.int .i64 k.k, .int .i64 k.p, .int .i64 k.q, .string k.s, .int .i64 k.r]), (.agg #[.int .i64 x.k, .int .i64 x.p, .int .i64 x.q, .string x.s, .int .i64 x.r])] wr fun e w' => ∃ y a' m', e = .returned (.int .i64 y) ∧ RW w w' S N r a' m' ∧ (a'.length + nOf m' ≤ q + nOf m + 1 ∧ m'.length ≤ m.length + 1) := by
  obtain ⟨a1, h1, rfl⟩ := h
  refine (h1.set (by omega) (by omega) k x).mono ?_
  rintro e w1 ⟨y, a2, m2, rfl, h3, h4⟩
  exact ⟨y, a2, m2, rfl, h4, h3.len h1.inv.inv (by omega)⟩
set_option maxRecDepth 100000 in
set_option maxHeartbeats 16000000 in
theorem r_remove (h : RTab w S N r a m) (hN : N ≤ w.heap.size) (I : TInv a m) (hb : a.length + nOf m ≤ 300) (hm : m.length ≤ 300) (at_ : Int) :
    Calls Try.prog 46 #[.pointer (some ⟨r, 0, none⟩), .int .i64 at_] w fun e w' => ∃ (x : V) (y : Int) (a' : List V) (m' : List Sl), e = .returned (.tuple #[(.agg #[.int .i64 x.k, .int .i64 x.p, .int .i64 x.q, .string x.s, .int .i64 x.r]), .int .i64 y]) ∧ TInv a' m' ∧ (a'.length + nOf m' ≤ a.length + nOf m + 1 ∧ m'.length ≤ m.length + 1) ∧ RTab w' S N r a' m' ∧ Chg (fun k => S k ∨ N ≤ k) w w' := by
  obtain ⟨q, hq⟩ : ∃ q, Hid (a.length = q) := ⟨_, hid rfl⟩
  have hq3 : q ≤ 300 := by rw [← hq.out]; omega
  obtain ⟨A, cap, c, c0, -⟩ := h.cells hq.out
  have hol := h.lt
  have hB := hid (Bk.new w 26 V.zero.cs)
  have hC := hid ((Chg.refl (fun _ => False) w).alloc (.cells V.zero.cs.toArray 26))
  have hsame : Hid (∀ w', Chg (fun _ => False) w w' → TInv a m ∧ (a.length + nOf m ≤ a.length + nOf m + 1 ∧ m.length ≤ m.length + 1) ∧ RTab w' S N r a m ∧ Chg (fun k => S k ∨ N ≤ k) w w') := hid fun w' hc => ⟨I, ⟨by omega, by omega⟩, h.none_ hc, hc.mono fun _ _ e => e.elim⟩
  by_cases hat : 1 ≤ at_ ∧ at_ ≤ (q : Int)
  · obtain ⟨p, rfl⟩ := Int.eq_ofNat_of_zero_le (show 0 ≤ at_ by omega)
    have hp1 : 1 ≤ p := by omega
    have hpq : p ≤ q := by omega
    have t1 : decide ((p : Int) < 1) = false := decide_eq_false (by omega)
    have t2 : decide ((q : Int) < (p : Int)) = false := decide_eq_false (by omega)
    obtain ⟨S', hS', hfix'⟩ := h.fix
    have hSS : Hid (∀ k, S' k → k < w.heap.size ∧ (S k ∨ N ≤ k)) := hid hS'
    have hfix := hid hfix'
    have hIh := hid I
    have hNh := hid hN
    have hbq : Hid (q + nOf m ≤ 300) := hid (by rw [← hq.out]; exact hb)
    have hmh := hid hm
    clear h hN I hat hS' hfix' hb hm hsame
    go_enter Try.func46, Try.ntmps46
    go_wp2_with fail
    refine (ref_key _ (p : Int) (by omega) (by omega)).mono ?_
    rintro e w1 ⟨rfl, hc⟩
    have hC1 := hid (hC.out.trans_same hc)
    have hB1 := hid (hB.out.none_ hc)
    have hT1 : Hid (RTab w1 S' w1.heap.size r a m) := hid (hfix.out w1 _ hC1.out)
    clear hc c0 hol hB hC
    go_wp2_with fail
    refine (r_get hT1.out (i := p - 1) (by rw [hq.out]; omega) (by rw [hq.out]; omega) (k := kI (p : Int)) (x := vAt a (p - 1)) (by rw [wholeI_kI (by omega) (by omega)]; omega) rfl).mono ?_
    rintro e w2 ⟨rfl, hc⟩
    obtain ⟨x, hx⟩ : ∃ x, vAt a (p - 1) = x := ⟨_, rfl⟩
    rw [hx]
    obtain ⟨h2, hh2⟩ : ∃ h2, Hid (w2.heap.size = h2) := ⟨_, hid rfl⟩
    have hB2 := hid ((hB1.out.none_ hc).alloc (.cells x.cs.toArray 26))
    have hX2 : Hid (Bk (w2.alloc (.cells x.cs.toArray 26)) h2 26 x.cs) := hid (by rw [← hh2.out]; exact Bk.new w2 26 x.cs)
    have hC2 := hid ((hC1.out.trans_same hc).alloc (.cells x.cs.toArray 26))
    have hl2 : Hid (w.heap.size < h2) := hid (by rw [← hh2.out]; exact (hB1.out.none_ hc).lt)
    have hst0 : Hid (RemSt (w2.alloc (.cells x.cs.toArray 26)) (w2.alloc (.cells x.cs.toArray 26)) S' (h2 + 1) r q m) := hid ⟨a, ⟨hfix.out _ _ hC2.out, hIh.out, Chg.refl _ _, by rw [← hh2.out]; simp⟩, hq.out⟩
    clear hc hT1 hC1 hB1 hfix hx
    go_wp2_with fail
    rw [hh2.out]
    go_loopw [8] (fun s wr => ∃ j : Nat, p ≤ j ∧ j ≤ q ∧ s = .int .i64 (j : Int) ∧ Hid (RemSt (w2.alloc (.cells x.cs.toArray 26)) wr S' (h2 + 1) r q m)) (fun s _ => q - (intOf s).toNat)
    case atStart => exact ⟨p, Nat.le_refl _, hpq, rfl, hst0⟩
    case round =>
      obtain ⟨j, hpj, hjq, rfl, hst⟩ := hrel
      rename World => wr
      clear hst0
      refine (Classical.em (j < q)).elim ?more ?done
      case' more =>
        intro hle
        have t3 : decide ((j : Int) < (q : Int)) = true := decide_eq_true (by omega)
        have hw2 : IntKind.i64.wrap ((j : Int) + 1) = (j : Int) + 1 := by rw [IntKind.wrap_i64]; omega
        go_wp2_with fail
        refine (ref_key _ (j : Int) (by omega) (by omega)).mono ?_
        rintro e w3 ⟨rfl, hc⟩
        have hst3 := hid (hst.out.none_ hc)
        clear hst hc
        go_wp2_with fail
        refine (ref_key _ ((j : Int) + 1) (by omega) (by omega)).mono ?_
        rintro e w4 ⟨rfl, hc⟩
        have hst4 := hid (hst3.out.none_ hc)
        clear hst3 hc
        go_wp2_with fail
        refine (hst4.out.get (by omega) (i := j) hle rfl).mono ?_
        rintro e w5 ⟨x5, rfl, hx5', hc⟩
        have hx5 := hid hx5'
        have hst5 := hid (hst4.out.none_ hc)
        clear hst4 hc hx5'
        go_wp2_with fail
        refine (hst5.out.set hbq.out hmh.out (i := j - 1) (by omega) (by omega) hx5.out).mono ?_
        rintro e w6 ⟨y, rfl, hst6'⟩
        have hst6 := hid hst6'
        clear hst5 hst6'
        go_wp2_with fail
        go_roundw
        case rel => exact ⟨j + 1, by omega, by omega, by go_num, hst6⟩
        case measure => simp [intOf]; omega
      case' done =>
        intro hle
        have hjq2 : j = q := by omega
        subst hjq2
        have t3 : decide ((j : Int) < (j : Int)) = false := decide_eq_false (by omega)
        go_wp2_with fail
        refine (ref_key _ (j : Int) (by omega) (by omega)).mono ?_
        rintro e w3 ⟨rfl, hc⟩
        have hst3 := hid (hst.out.none_ hc)
        clear hst hc
        go_wp2_with fail
        refine (hst3.out.last hbq.out hmh.out (kI (j : Int)) V.zero).mono ?_
        rintro e w4 ⟨y, a', m', rfl, h7, h8'⟩
        have h8 := hid (show a'.length + nOf m' ≤ a.length + nOf m + 1 ∧ m'.length ≤ m.length + 1 by rw [hq.out]; exact h8')
        have hB4 := hid (hB2.out.chg h7.chg fun e => e.elim (fun e => by have := (hSS.out _ e).1; omega) fun e => by have := hl2.out; omega)
        have hX4 := hid (hX2.out.chg h7.chg fun e => e.elim (fun e => by have := (hSS.out _ e).1; have := hl2.out; omega) fun e => by omega)
        have h9 := hid h7
        obtain ⟨z0, z1, z2, z3, z4⟩ := V.box hB4.out
        have zl := hB4.out.lt
        have zf := fun j => hB4.out.frozen j
        simp only [V.zero] at z0 z1 z2 z3 z4
        obtain ⟨y0, y1, y2, y3, y4⟩ := V.box hX4.out
        have yl := hX4.out.lt
        have ne1 : h2 ≠ w.heap.size := by have := hl2.out; omega
        have ne2 : w.heap.size ≠ h2 := by have := hl2.out; omega
        clear h7 h8' hst3
        go_wp2_with fail
        have hp := put5_chg w4 w.heap.size 0 x
        refine ret_ve (t1 := 4) (u2 := 5) (b1 := w.heap.size) (x1 := x) rfl rfl rfl rfl (put5_bk (y := x) hB4.out) ⟨x, 0, a', m', rfl, h9.out.inv, h8.out, ?_, ?_⟩
        · exact (h9.out.tab.chg hp fun k _ hk e => by
            rcases hk with hk | hk
            · have := (hSS.out _ hk).1; omega
            · have := hl2.out; omega).weaken (fun k e => (hSS.out k e).2) (by have := hNh.out; have := hl2.out; omega)
        · exact ((hC2.out.mono (T := fun k => S k ∨ N ≤ k) fun _ _ e => e.elim).trans_same (h9.out.chg.mono fun k _ e => e.elim (fun e => (hSS.out k e).2) fun e => .inr (by have := hNh.out; have := hl2.out; omega))).trans hp fun j hj e => by omega
  · have hr := rem_bad_fact hat
    have fin := hid (hsame.out _ hC.out)
    clear h hN I hat hb hm hsame
    rcases hr with t1 | ⟨t1, t2⟩ <;>
    · go_enter Try.func46, Try.ntmps46
      go_wp2_with fail
      exact ret_ve (t1 := 4) (u2 := 5) (b1 := w.heap.size) (x1 := V.zero) rfl rfl rfl rfl hB.out ⟨V.zero, 6, a, m, rfl, fin.out⟩
end
end Go.Proofs.Ytoelgnjnbelokaa
