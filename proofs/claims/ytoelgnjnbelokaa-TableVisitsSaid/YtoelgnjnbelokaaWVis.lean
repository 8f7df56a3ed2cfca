/-
  TableVisits: the walk.
-/
import Derived.Test.YtoelgnjnbelokaaRMade
import Derived.Test.YtoelgnjnbelokaaTVis
namespace Go.Proofs.Ytoelgnjnbelokaa
open Go.RowKit Go.Maps Go.ChangeShapes Go.WideShapes Go.ChangeAt

/-! ### The law's map of the keys that were seen -/
structure BoolV (D : DataW Unit) (S : List V) : Prop where
  has : ∀ k l, keyOf Try.prog 26 (.agg #[.int .i64 k.k, .int .i64 k.p, .int .i64 k.q, .string k.s, .int .i64 k.r]) = some l → Maps.has D l = decide (k ∈ S)
def VMap (w : World) (bm n : Nat) (S : List V) : Prop := ∃ D : DataW Unit, w.ownsMap Try.prog 26 (plainElem Try.prog 4) bm n D ∧ BoolV D S
theorem vzero4 (w : World) : (zeroValue 4).run Try.prog w = .ok (.bool false) w := by kernel_rfl
theorem plainBool_inv {v : Value} {x : Bool} {ps : List MemPlace} (h : plainElem (H := Unit) Try.prog 4 v = some (.lit (.bool x), ps)) : v = .bool x := by
  unfold plainElem at h
  rw [Try.underlying4] at h
  cases v <;> simp at h
  rw [h.1]
section
variable {w w' wr : World} {bm n : Nat} {S : List V}
theorem VMap.chg {T : Nat → Prop} (h : VMap w bm n S) (hc : Chg T w w') (hn : ¬ T bm) : VMap w' bm n S := by
  obtain ⟨D, ⟨e, cl, he, h2⟩, hB⟩ := h
  exact ⟨D, ⟨e, cl, (hc.block bm (Array.getElem?_eq_some_iff.1 he).1 hn).trans he, h2⟩, hB⟩
theorem VMap.none_ (h : VMap w bm n S) (hc : Chg (fun _ => False) w w') : VMap w' bm n S := h.chg hc id
theorem VMap.lt (h : VMap w bm n S) : bm < w.heap.size := by
  obtain ⟨D, h, -⟩ := h
  exact h.lt
theorem VMap.made (w : World) : VMap (w.alloc (.map #[] 0)) w.heap.size 0 [] :=
  ⟨.map [], World.ownsMap_made w Try.prog 26 (plainElem Try.prog 4), ⟨fun k l _ => by rfl⟩⟩
theorem BoolV.put {D : DataW Unit} (h : BoolV D S) (hm : IsMap D) {k : V} {l : Lit} (hk : keyOf Try.prog 26 (.agg #[.int .i64 k.k, .int .i64 k.p, .int .i64 k.q, .string k.s, .int .i64 k.r]) = some l) : BoolV (D.put l (.lit (.bool true))) (S ++ [k]) := by
  refine ⟨fun k' l' hk' => ?_⟩
  by_cases e : k' = k
  · subst e
    obtain rfl := key_eq hk hk'
    rw [has_put_same hm (val_law.key hk)]
    exact (decide_eq_true (List.mem_append_right _ (List.mem_singleton.2 rfl))).symm
  · rw [has_put_other (key_ne hk' hk e), h.has k' l' hk']
    exact decide_eq_decide.2 ⟨fun x => List.mem_append_left _ x, fun x => (List.mem_append.1 x).elim id fun x => absurd (List.mem_singleton.1 x) e⟩
theorem VMap.look (h : VMap w bm n S) {k : V} (hk : k.wf) (hn : k ∉ S) : (Instr.lookup 50 (.map (some bm)) (.agg #[.int .i64 k.k, .int .i64 k.p, .int .i64 k.q, .string k.s, .int .i64 k.r]) false).run Try.prog w = .ok (.bool false) w := by
  obtain ⟨D, hm, hB⟩ := h
  obtain ⟨l, hl⟩ := key_of hk
  obtain ⟨v, ps, hrun, hv⟩ := hm.lookup val_law Try.underlying50 (vzero4 w) (plainElem_bool Try.underlying4 false) hl
  rw [hrun]
  rw [atKey_of_not_has (by rw [hB.has k l hl]; exact decide_eq_false hn)] at hv
  rw [plainBool_inv hv]
/-! ### The table on the way -/
theorem t_del {S : Nat → Prop} {N o M : Nat} {a : List V} {m : List Sl} (h : Tab w S N o M a m) (hN : N ≤ w.heap.size) (hb : a.length ≤ 1000000) (hm : m.length ≤ 999) (hM : M ≤ 100000000) {k : V} (hk : k.wf) (hv : vok k = true ∧ k.k ≠ 0) :
    Calls Try.prog 14 #[.pointer (some ⟨o, 0, none⟩), (.agg #[.int .i64 k.k, .int .i64 k.p, .int .i64 k.q, .string k.s, .int .i64 k.r]), (.agg #[.int .i64 0, .int .i64 0, .int .i64 0, .string ⟨#[]⟩, .int .i64 0])] w fun e w' => ∃ (x : Int) (a' : List V) (m' : List Sl), e = .returned (.int .i64 x) ∧ SetR a m k V.zero x a' m' ∧ Tab w' S N o (M + 1000) a' m' ∧ Chg (fun k => S k ∨ N ≤ k) w w' := by
  have hk0 : ¬ (k.k = 0 ∨ vok k = false) := fun e => e.elim hv.2 fun e => by rw [hv.1] at e; cases e
  cases hin : inN a.length k with
  | true =>
    obtain ⟨i', h1, h2, h3, -⟩ := inN_get hin
    obtain ⟨i, rfl⟩ : ∃ i, i' = i + 1 := ⟨i' - 1, by omega⟩
    refine (t_set_in h (by omega) (i := i) (by omega) (k := k) (v := V.zero) (by rw [h3]; unfold kI; simp) zero_valid).mono ?_
    rintro e w1 ⟨rfl, hT, hc⟩
    exact ⟨0, _, m, rfl, .here i (by omega) (by rw [h3]; simp) zero_valid, hT.mono (by omega), hc⟩
  | false =>
    obtain ⟨e1, m1, hp⟩ : ∃ e1 m1, setM m k V.zero = (e1, m1) := ⟨_, _, rfl⟩
    refine (t_set_map h hN (by omega) (by omega) hM hk hk0 zero_valid hin (fun ⟨_, _, x3⟩ => x3 rfl) hp).mono ?_
    rintro e w1 ⟨rfl, hT, hc⟩
    exact ⟨e1, a, m1, rfl, .map hk0 zero_valid hin (fun ⟨_, x3⟩ => x3 rfl) hp, hT, hc⟩
theorem tab_keep {T S1 : Nat → Prop} {o M : Nat} {a : List V} {m : List Sl} (h : Tab w S1 w.heap.size o M a m) (hc : Chg T w w') (hT : ∀ k, S1 k → ¬ T k) : Tab w' S1 w'.heap.size o M a m := by
  obtain ⟨S', g1, g2⟩ := h.fix
  have h1 : ∀ k, S' k → S1 k := fun k e => (g1 k e).2.elim id fun e2 => by have := (g1 k e).1; omega
  have h2 := (g2 w w'.heap.size (Chg.refl _ _)).chg hc fun k hk e => e.elim (fun e => hT k (h1 k e)) fun e => by have := hc.size; omega
  exact h2.weaken (fun k e => .inl (h1 k e)) (Nat.le_refl _)
/-- Between two entries: the table, the law's map and its box of the key. -/
structure VisA (w wr : World) (S1 : Nat → Prop) (o bm g0 M : Nat) (k : V) (a : List V) (m : List Sl) : Prop where
  tab : Tab wr S1 wr.heap.size o M a m
  lo : ∀ x, S1 x → w.heap.size ≤ x ∧ x < wr.heap.size
  ex : ¬ S1 bm ∧ ¬ S1 g0
  ord : w.heap.size ≤ bm ∧ bm < g0
  b0 : Bk wr g0 26 k.cs
  chg : Chg (fun _ => False) w wr
/-- With the entry's key in a box of its own. -/
structure VisB (w wr : World) (S1 : Nat → Prop) (o bm g0 g1 M : Nat) (k k2 : V) (a : List V) (m : List Sl) : Prop where
  va : VisA w wr S1 o bm g0 M k a m
  ex1 : ¬ S1 g1
  ord1 : g0 < g1
  b1 : Bk wr g1 26 k2.cs
section
variable {S1 : Nat → Prop} {o g0 g1 M : Nat} {k k2 : V} {a : List V} {m : List Sl}
theorem VisA.none_ (h : VisA w wr S1 o bm g0 M k a m) (hc : Chg (fun _ => False) wr w') : VisA w w' S1 o bm g0 M k a m :=
  ⟨tab_keep h.tab hc fun _ _ e => e, fun x e => ⟨(h.lo x e).1, Nat.lt_of_lt_of_le (h.lo x e).2 hc.size⟩, h.ex, h.ord, h.b0.none_ hc, h.chg.trans_same hc⟩
theorem VisB.none_ (h : VisB w wr S1 o bm g0 g1 M k k2 a m) (hc : Chg (fun _ => False) wr w') : VisB w w' S1 o bm g0 g1 M k k2 a m := ⟨h.va.none_ hc, h.ex1, h.ord1, h.b1.none_ hc⟩
theorem VisA.entry (h : VisA w wr S1 o bm g0 M k a m) (k2 v : V) : VisB w ((wr.alloc (.cells k2.cs.toArray 26)).alloc (.cells v.cs.toArray 26)) S1 o bm g0 wr.heap.size M k k2 a m :=
  ⟨h.none_ (((Chg.refl _ wr).alloc _).alloc _), fun e => by have := (h.lo _ e).2; omega, h.b0.lt, (Bk.new wr 26 k2.cs).alloc _⟩
/-- The law's map is changed. -/
theorem VisB.mapped (h : VisB w wr S1 o bm g0 g1 M k k2 a m) (hc : Chg (fun x => x = bm) wr w') : VisB w w' S1 o bm g0 g1 M k k2 a m :=
  ⟨⟨tab_keep h.va.tab hc fun x e e2 => h.va.ex.1 (by rw [← e2]; exact e), fun x e => ⟨(h.va.lo x e).1, Nat.lt_of_lt_of_le (h.va.lo x e).2 hc.size⟩, h.va.ex, h.va.ord, h.va.b0.chg hc (by have := h.va.ord; omega), h.va.chg.trans hc fun x hx e => by have := h.va.ord; omega⟩, h.ex1, h.ord1, h.b1.chg hc (by have := h.va.ord; have := h.ord1; omega)⟩
/-- The box of the key is set. -/
theorem VisB.stored (h : VisB w wr S1 o bm g0 g1 M k k2 a m) : VisA w (put5 wr g0 0 k2) S1 o bm g0 M k2 a m := by
  have hc := put5_chg wr g0 0 k2
  exact ⟨tab_keep h.va.tab hc fun x e e2 => h.va.ex.2 (by rw [← e2]; exact e), fun x e => ⟨(h.va.lo x e).1, Nat.lt_of_lt_of_le (h.va.lo x e).2 hc.size⟩, h.va.ex, h.va.ord, put5_bk h.va.b0, h.va.chg.trans hc fun x hx e => by have := h.va.ord; omega⟩
/-- The entry is removed. -/
theorem VisB.del (h : VisB w wr S1 o bm g0 g1 M k k2 a m) {j : Nat} {S' : List V} (hmp : VMap wr bm j S') (hb : a.length ≤ 1000000) (hm : m.length ≤ 999) (hM : M ≤ 100000000) (hk : k2.wf) (hv : vok k2 = true ∧ k2.k ≠ 0) :
    Calls Try.prog 14 #[.pointer (some ⟨o, 0, none⟩), (.agg #[.int .i64 k2.k, .int .i64 k2.p, .int .i64 k2.q, .string k2.s, .int .i64 k2.r]), (.agg #[.int .i64 0, .int .i64 0, .int .i64 0, .string ⟨#[]⟩, .int .i64 0])] wr fun e w' => ∃ (x : Int) (S2 : Nat → Prop) (a' : List V) (m' : List Sl), e = .returned (.int .i64 x) ∧ SetR a m k2 V.zero x a' m' ∧ VisB w w' S2 o bm g0 g1 (M + 1000) k k2 a' m' ∧ VMap w' bm j S' := by
  refine (t_del h.va.tab (Nat.le_refl _) hb hm hM hk hv).mono ?_
  rintro e w1 ⟨x, a', m', rfl, h1, h2, h3⟩
  obtain ⟨S2, g1', g2'⟩ := h2.fix
  have hz := h3.size
  have hs := h.va.chg.size
  have hl0 := h.va.b0.lt
  have hl1 := h.b1.lt
  have hlm := hmp.lt
  have hno : ∀ x, x < wr.heap.size → ¬ S1 x → ¬ S2 x := fun x hx e e2 => (g1' x e2).2.elim e fun e3 => by omega
  exact ⟨x, S2, a', m', rfl, h1, ⟨⟨g2' w1 _ (Chg.refl _ _), fun x e => ⟨(g1' x e).2.elim (fun e => (h.va.lo x e).1) fun e => by omega, (g1' x e).1⟩, ⟨hno _ hlm h.va.ex.1, hno _ hl0 h.va.ex.2⟩, h.va.ord, h.va.b0.chg h3 fun e => e.elim h.va.ex.2 fun e => by omega, h.va.chg.trans h3 fun x hx e => e.elim (fun e => by have := (h.va.lo x e).1; omega) fun e => by omega⟩, hno _ hl1 h.ex1, h.ord1, h.b1.chg h3 fun e => e.elim h.ex1 fun e => by omega⟩, hmp.chg h3 fun e => e.elim h.va.ex.1 fun e => by omega⟩
theorem v_next_end (h : VisA w wr S1 o bm g0 M k a m) (hb : a.length ≤ 1000000 ∧ m.length ≤ 1000000) (hk : k.wf) (hx : nextT a m k = (V.zero, V.zero, false, 0)) :
    Calls Try.prog 11 #[.pointer (some ⟨o, 0, none⟩), (.agg #[.int .i64 k.k, .int .i64 k.p, .int .i64 k.q, .string k.s, .int .i64 k.r])] wr fun e w' => e = .returned (.tuple #[(.agg #[.int .i64 0, .int .i64 0, .int .i64 0, .string ⟨#[]⟩, .int .i64 0]), (.agg #[.int .i64 0, .int .i64 0, .int .i64 0, .string ⟨#[]⟩, .int .i64 0]), .bool false, .int .i64 0]) ∧ Chg (fun _ => False) wr w' := t_next h.tab hb hk hx
theorem v_count0 (h : VisA w wr S1 o bm g0 M k a m) (hb : a.length ≤ 1000000 ∧ m.length ≤ 1000000) (hx : nOf m + cntV a = 0) :
    Calls Try.prog 18 #[.pointer (some ⟨o, 0, none⟩)] wr fun e w' => e = .returned (.int .i64 0) ∧ Chg (fun _ => False) wr w' := t_count h.tab hb hx
end
end
/-- What holds at the head of the loop. -/
def VisL (w wr : World) (o bm g0 : Nat) (b : Bool) (a0 : List V) (m0 : List Sl) (j : Nat) (la : Int) : Prop := ∃ S1 a m k S, VisA w wr S1 o bm g0 (80000000 + j * 1000) k a m ∧ VMap wr bm j S ∧ VSt b a0 m0 j k a m la S
set_option maxRecDepth 100000 in
theorem visits_big (w : World) (A : Option Addr) (q lk : Nat) (b : Bool) (hbad : 200 < q) :
    Calls Try.prog 6 #[.slice A q lk, .bool b] w fun e w' => e = .returned (.bool true) ∧ Below w.heap.size w w' := by
  have ht : decide (200 < q) = true := decide_eq_true hbad
  clear hbad
  go_enter Try.func6, Try.ntmps6
  go_wp2_with fail
  refine (t_large _ A q lk).mono ?_
  rintro e w1 ⟨rfl, hw⟩
  subst hw
  rw [ht]
  go_wp2_with fail
  refine (awake_true _).mono ?_
  rintro e w3 ⟨rfl, hc3⟩
  have fin := hid (none_below hc3)
  clear hc3
  go_wp2_with fail
  go_ret
  exact ⟨rfl, fin.out⟩
set_option maxRecDepth 100000 in
set_option maxHeartbeats 32000000 in
theorem visits_true (w : World) (A : Option Addr) (l : List OpV) (lk : Nat) (b : Bool) (hl : OpsRd w A l) :
    Calls Try.prog 6 #[.slice A l.length lk, .bool b] w fun e w' => e = .returned (.bool true) ∧ Below w.heap.size w w' := by
  by_cases hbad : 200 < l.length
  · exact visits_big w A l.length lk b hbad
  have hmm := @run_makeMap Try.prog
  have hlh := hid hl
  have hl200 := hid (show l.length ≤ 200 by omega)
  obtain ⟨lim, hlim⟩ : ∃ lim, Hid (l.length = lim) := ⟨_, hid rfl⟩
  rw [hlim.out] at hbad
  have ht : decide (200 < lim) = false := decide_eq_false (by omega)
  clear hbad hl
  rw [hlim.out]
  go_enter Try.func6, Try.ntmps6
  go_wp2_with fail
  refine (t_large _ A lim lk).mono ?_
  rintro e w1 ⟨rfl, hw⟩
  subst hw
  rw [ht]
  go_wp2_with fail
  rw [← hlim.out]
  refine (made_true _ A l lk hlh.out hl200.out).mono ?_
  rintro e w6 ⟨o, rfl, a0, m0, hT', I', hbd', hC'⟩
  rw [hlim.out]
  obtain ⟨S1, hS1, hfix'⟩ := hT'.fix
  have hI := hid I'
  have hb0 : Hid (a0.length ≤ 200 ∧ m0.length ≤ 200 ∧ nOf m0 + cntV a0 ≤ 200) := hid (by have := hl200.out; have := cntV_le a0; omega)
  have hwf := hid hT'.wf
  have hT := hid hT'
  have hC := hid hC'
  have hSS : Hid (∀ x, S1 x → w.heap.size ≤ x ∧ x < w6.heap.size) := hid fun x e => ⟨(hS1 x e).2.elim False.elim id, (hS1 x e).1⟩
  have hfix := hid hfix'
  obtain ⟨c, hc⟩ : ∃ c, Hid (nOf m0 + cntV a0 = c) := ⟨_, hid rfl⟩
  obtain ⟨n, hn⟩ : ∃ n, Hid (a0.length = n) := ⟨_, hid rfl⟩
  have hc200 : c ≤ 200 := by rw [← hc.out]; exact hb0.out.2.2
  have hn200 : n ≤ 200 := by rw [← hn.out]; exact hb0.out.1
  clear hT' I' hbd' hC' hS1 hfix'
  go_wp2_with fail
  refine (t_count hT.out (by have := hb0.out; omega) hc.out).mono ?_
  rintro e w7 ⟨rfl, hc7⟩
  have hT7 := hid (hT.out.none_ hc7)
  have hC7 := hid (hC.out.trans_same hc7)
  have hW7 : Hid (Chg (fun _ => False) w6 w7) := hid hc7
  clear hc7 hT hC
  go_wp2_with fail
  refine (t_array hT7.out hn.out).mono ?_
  rintro e w8 ⟨rfl, hw⟩
  subst hw
  have hst0 : Hid (VisL w ((w7.alloc (.map #[] 0)).alloc (.cells V.zero.cs.toArray 26)) o w7.heap.size (w7.heap.size + 1) b a0 m0 0 0) := hid (by
    have h1 : Chg (fun _ => False) w7 ((w7.alloc (.map #[] 0)).alloc (.cells V.zero.cs.toArray 26)) := ((Chg.refl _ w7).alloc _).alloc _
    have h2 := hW7.out.size
    have h3 := h1.size
    refine ⟨S1, a0, m0, V.zero, [], ⟨(hfix.out _ _ (hW7.out.trans_same h1)).mono (by have := hl200.out; omega), fun x e => ⟨(hSS.out x e).1, by have := (hSS.out x e).2; omega⟩, ⟨fun e => by have := (hSS.out _ e).2; omega, fun e => by have := (hSS.out _ e).2; omega⟩, ⟨hC7.out.size, by omega⟩, Bk.new_at (w7.alloc (.map #[] 0)) 26 V.zero.cs.toArray (w7.heap.size + 1) (by simp), hC7.out.trans_same h1⟩, (VMap.made w7).none_ ((Chg.refl _ _).alloc _), VSt.start b a0 m0⟩)
  clear hT7 hC7 hW7 hfix hSS ht
  go_wp2_with fail
  clear hmm
  go_loopw [9, 11] (fun la i wr => ∃ (lai : Int) (j : Nat), la = .int .i64 lai ∧ i = .int .i64 (j : Int) ∧ Hid (VisL w wr o w7.heap.size (w7.heap.size + 1) b a0 m0 j lai)) (fun _ i _ => c + 1 - (intOf i).toNat)
  case atStart => exact ⟨0, 0, rfl, rfl, hst0⟩
  case round =>
    obtain ⟨la, j, rfl, rfl, hV⟩ := hrel
    rename World => wr
    clear hst0
    obtain ⟨S1', a, m, k, S, hA', hM', hst'⟩ := hV.out
    have hA := hid hA'
    have hM := hid hM'
    have hst := hid hst'
    have hlen := hid hst'.len
    have hjc : j ≤ c := by rw [← hc.out]; exact hlen.out.2.2
    have hab : Hid (a.length ≤ 1000000 ∧ m.length ≤ 1000000) := hid (by have := hlen.out; have := hb0.out; omega)
    have hkw := hid (hst'.wf (by have := hb0.out; omega) hwf.out)
    have t1 : decide ((j : Int) ≤ (c : Int)) = true := decide_eq_true (by omega)
    obtain ⟨x0, x1, x2, x3, x4⟩ := V.box hA'.b0
    have hxl := hA'.b0.lt
    have hsp := hst'.step hI.out (by have := hb0.out; omega)
    clear hV hA' hM' hst'
    refine hsp.elim (fun h => ?fin) (fun h => ?more)
    case' fin =>
      obtain ⟨h1, h2, h3⟩ := h
      have hnx := hid h2
      have hz := hid h3
      obtain rfl : j = c := by rw [← hc.out]; exact h1
      clear h1 h2 h3 hsp
      go_wp2_with fail
      refine (v_next_end hA.out hab.out hkw.out hnx.out).mono ?_
      rintro e w2 ⟨rfl, hc2⟩
      have hA2 := hid ((hA.out.none_ hc2).none_ (((Chg.refl _ w2).alloc (.cells #[.int .i64 0, .int .i64 0, .int .i64 0, .string ⟨#[]⟩, .int .i64 0] 26)).alloc (.cells #[.int .i64 0, .int .i64 0, .int .i64 0, .string ⟨#[]⟩, .int .i64 0] 26)))
      clear hc2 hA x0 x1 x2 x3 x4 hxl
      cases b
      case' false =>
        go_wp2_with fail
        refine (awake_true _).mono ?_
        rintro e wz ⟨rfl, hcz⟩
        have fin := hid (none_below (hA2.out.chg.trans_same hcz))
        clear hcz
        go_wp2_with fail
        go_ret
        exact ⟨rfl, fin.out⟩
      case' true =>
        go_wp2_with fail
        refine (v_count0 hA2.out hab.out (hz.out (by trivial))).mono ?_
        rintro e w3 ⟨rfl, hc3⟩
        have hA3 := hid (hA2.out.none_ hc3)
        clear hc3 hA2
        go_wp2_with fail
        refine (awake_true _).mono ?_
        rintro e wz ⟨rfl, hcz⟩
        have fin := hid (none_below (hA3.out.chg.trans_same hcz))
        clear hcz
        go_wp2_with fail
        go_ret
        exact ⟨rfl, fin.out⟩
    case' more =>
      obtain ⟨k2, v, arr, hnx', hN'⟩ := h
      have hnx := hid hnx'
      have hN := hid hN'
      have hk2w := hid (hN'.wf hwf.out)
      have ev : (v.k == 0) = false := by simpa using hN'.vk
      clear hnx' hN' hsp
      go_wp2_with fail
      refine (t_next hA.out.tab hab.out hkw.out hnx.out).mono ?_
      rintro e w2 ⟨rfl, hc2⟩
      have hB2 := hid ((hA.out.none_ hc2).entry k2 v)
      have hM2 := hid ((hM.out.none_ hc2).none_ (((Chg.refl _ w2).alloc (.cells k2.cs.toArray 26)).alloc (.cells v.cs.toArray 26)))
      have hS2 : Hid (Bk ((w2.alloc (.cells k2.cs.toArray 26)).alloc (.cells v.cs.toArray 26)).drew w2.heap.size 26 k2.cs ∧ Bk ((w2.alloc (.cells k2.cs.toArray 26)).alloc (.cells v.cs.toArray 26)).drew (w2.heap.size + 1) 26 v.cs ∧ VMap ((w2.alloc (.cells k2.cs.toArray 26)).alloc (.cells v.cs.toArray 26)).drew w7.heap.size j S) := hid ⟨hB2.out.b1.drew, (Bk.new_at (w2.alloc (.cells k2.cs.toArray 26)) 26 v.cs.toArray (w2.heap.size + 1) (by simp)).drew, hM2.out.none_ ((Chg.refl _ _).drew)⟩
      have hBd := hid (hB2.out.none_ ((Chg.refl (fun _ => False) _).drew))
      clear hc2 hA hM hB2 hM2 x0 x1 x2 x3 x4 hxl
      go_wp2_with fail
      refine wp_region_rc (id := 19) [.rd [0, 1, 2, 3, 4, 5, 7], .act 6, .rd [8, 9, 10, 11, 12, 13, 14]] [] [] (fun w' => Bk w' w2.heap.size 26 k2.cs ∧ Bk w' (w2.heap.size + 1) 26 v.cs ∧ VMap w' w7.heap.size j S) (by kernel_rfl) 134 rfl (by kernel_rfl) (fun _ _ _ _ _ h => h) hS2.out ?_
      refine steps_rdW ?_
      apply Exists.intro
      refine ⟨?_, ?_⟩
      focus
        rintro w' ⟨hSa, hSb, -⟩
        obtain ⟨y0, y1, y2, y3, y4⟩ := V.box hSa
        obtain ⟨z0, z1, z2, z3, z4⟩ := V.box hSb
        clear hSa hSb
        iterate 7 (refine stW_step rfl (fun K hK => ?_); go_simp; refine hK _ ?_; clear hK K)
        exact stW_nil rfl
      refine steps_act (o := ⟨_, _, _, _, _, _⟩) rfl (fun K2 hK2 => ?_)
      go_wp2_with fail
      refine (t_get hBd.out.va.tab hab.out.1 hk2w.out hN.out.get).mono ?_
      rintro e w3 ⟨rfl, hc3⟩
      have hS3 := hid (And.intro (hS2.out.1.none_ hc3) (And.intro (hS2.out.2.1.none_ hc3) (hS2.out.2.2.none_ hc3)))
      have hB3 := hid (hBd.out.none_ hc3)
      clear hc3 hS2 hBd
      go_wp2_with fail
      refine hK2 _ _ hS3.out rfl ?_
      clear hK2 K2
      refine steps_rdW ?_
      apply Exists.intro
      refine ⟨?_, ?_⟩
      focus
        rintro w' ⟨hSa, hSb, hSc⟩
        obtain ⟨y0, y1, y2, y3, y4⟩ := V.box hSa
        obtain ⟨z0, z1, z2, z3, z4⟩ := V.box hSb
        have hrun := hSc.look hk2w.out hN.out.new
        clear hSa hSb hSc
        iterate 7 (refine stW_step rfl (fun K hK => ?_); go_simp; refine hK _ ?_; clear hK K)
        exact stW_nil rfl
      refine steps_end rfl ?_
      have hM3 := hid hS3.out.2.2
      obtain ⟨g1, hg1⟩ : ∃ g1, Hid (w2.heap.size = g1) := ⟨_, hid rfl⟩
      obtain ⟨y0, y1, y2, y3, y4⟩ := V.box hB3.out.b1
      have hyl := hB3.out.b1.lt
      have har : arr = (decide (k2.k = 2) && decide (k2.q = 1) && decide (1 ≤ k2.p) && decide (k2.p ≤ (n : Int))) := by rw [hN.out.ar, hn.out]
      have harh := hid har
      clear hS3 har
      go_upto_region 21 with fail
      go_cut [16] (fun t wx => t = .bool arr ∧ wx = w3)
      case first =>
        cases h1 : (k2.k == 2)
        case' false =>
          have fin : Hid (false = arr) := hid (by rw [harh.out, show decide (k2.k = 2) = false by simpa using h1]; rfl)
        case' true =>
          cases h2 : (k2.q == 1)
          case' false =>
            have fin : Hid (false = arr) := hid (by rw [harh.out, show decide (k2.q = 1) = false by simpa using h2]; simp)
          case' true =>
            cases h3 : decide ((1 : Int) ≤ k2.p)
            case' false =>
              have fin : Hid (false = arr) := hid (by rw [harh.out, h3]; simp)
            case' true =>
              cases h4 : decide (k2.p ≤ (n : Int))
              case' false =>
                have fin : Hid (false = arr) := hid (by rw [harh.out, h4]; simp)
              case' true =>
                have fin : Hid (true = arr) := hid (by rw [harh.out, h3, h4, show decide (k2.k = 2) = true by simpa using h1, show decide (k2.q = 1) = true by simpa using h2]; rfl)
        all_goals
          go_wp2_with fail
          go_meet
          case rel => exact ⟨by rw [fin.out], rfl⟩
      case rest =>
        obtain ⟨rfl, rfl⟩ := hcut
        rename World => w3
        obtain ⟨D, hD', hBo'⟩ := hM3.out
        have hD := hid hD'
        obtain ⟨kl, hkl'⟩ := key_of hk2w.out
        have hkl := hid hkl'
        have hBo := hid (hBo'.put hD'.isMap hkl')
        have hla : arr = true → decide (k2.p ≤ la) = false := fun h => decide_eq_false (by have := hN.out.la h; omega)
        have hw1 : IntKind.i64.wrap ((n : Int) + 1) = (n : Int) + 1 := by rw [IntKind.wrap_i64]; omega
        have hw2 : IntKind.i64.wrap ((j : Int) + 1) = (j : Int) + 1 := by rw [IntKind.wrap_i64]; omega
        obtain ⟨ln, hln⟩ : ∃ ln : Int, Hid ((if arr then k2.p else (a0.length : Int) + 1) = ln) := ⟨_, hid rfl⟩
        have hset : Hid (b = true → ∀ e a' m', SetR a m k2 V.zero e a' m' → e = 0 ∧ VSt b a0 m0 (j + 1) k2 a' m' ln (S ++ [k2])) := hid (by rw [← hln.out]; exact hN.out.set)
        have hsame : Hid (b = false → VSt b a0 m0 (j + 1) k2 a m ln (S ++ [k2])) := hid (by rw [← hln.out]; exact hN.out.same)
        have hkk := hid hN.out.key
        have hjc2 : j < c := by rw [← hc.out]; exact hN.out.lt
        clear hD' hkl' hBo' hM3 hN ev
        cases arr
        · obtain rfl : (n : Int) + 1 = ln := by rw [← hln.out, ← hn.out]; rfl
          clear hla hln
          cases b
          · go_wp2_with (at_mapUpdate; refine wpList_mapUpdate_own _ rfl _ _ _ 50 rfl 26 4 val_law Try.underlying50 _ w7.heap.size j D rfl hD.out (by unfold maxLen; omega) _ _ _ rfl rfl hkl.out _ [] (plainElem_bool Try.underlying4 true) ?_; intro w5 hm5' hg5'; have hm5 := hid hm5'; have hc5 := hid ((Chg.refl (fun x => x = w7.heap.size) w3).grown hg5' fun x hx _ => by injection hx with hx; exact hx.symm); have hB5 := hid (hB3.out.mapped hc5.out); have hM5 : Hid (VMap w5 w7.heap.size (j + 1) (S ++ [k2])) := hid ⟨_, hm5.out, hBo.out⟩; clear hm5' hg5' hm5 hc5 y0 y1 y2 y3 y4 hyl; obtain ⟨y0, y1, y2, y3, y4⟩ := V.box hB5.out.b1; have hyl := hB5.out.b1.lt; obtain ⟨z0, z1, z2, z3, z4⟩ := V.box hB5.out.va.b0; have hzl := hB5.out.va.b0.lt; have hzf := fun jj => hB5.out.va.b0.frozen jj)
            have fin : Hid (VisL w (put5 w5 (w7.heap.size + 1) 0 k2) o w7.heap.size (w7.heap.size + 1) false a0 m0 (j + 1) _) := hid ⟨S1', a, m, k2, S ++ [k2], ⟨hB5.out.stored.tab.mono (by omega), hB5.out.stored.lo, hB5.out.stored.ex, hB5.out.stored.ord, hB5.out.stored.b0, hB5.out.stored.chg⟩, hM5.out.chg (put5_chg w5 (w7.heap.size + 1) 0 k2) (by omega), hsame.out (by trivial)⟩
            clear hB5 hM5
            go_roundw
            case rel => exact ⟨_, j + 1, rfl, by go_num, fin⟩
            case measure => simp [intOf]; omega
          · go_wp2_with (at_mapUpdate; refine wpList_mapUpdate_own _ rfl _ _ _ 50 rfl 26 4 val_law Try.underlying50 _ w7.heap.size j D rfl hD.out (by unfold maxLen; omega) _ _ _ rfl rfl hkl.out _ [] (plainElem_bool Try.underlying4 true) ?_; intro w5 hm5' hg5'; have hm5 := hid hm5'; have hc5 := hid ((Chg.refl (fun x => x = w7.heap.size) w3).grown hg5' fun x hx _ => by injection hx with hx; exact hx.symm); have hB5 := hid (hB3.out.mapped hc5.out); have hM5 : Hid (VMap w5 w7.heap.size (j + 1) (S ++ [k2])) := hid ⟨_, hm5.out, hBo.out⟩; clear hm5' hg5' hm5 hc5 y0 y1 y2 y3 y4 hyl; obtain ⟨y0, y1, y2, y3, y4⟩ := V.box hB5.out.b1; have hyl := hB5.out.b1.lt; obtain ⟨z0, z1, z2, z3, z4⟩ := V.box hB5.out.va.b0; have hzl := hB5.out.va.b0.lt; have hzf := fun jj => hB5.out.va.b0.frozen jj)
            refine (hB5.out.del hM5.out hab.out.1 (by have := hlen.out; have := hb0.out; omega) (by omega) hk2w.out hkk.out).mono ?_
            rintro e w6' ⟨xx, S2, a', m', rfl, hsr, hB6', hM6'⟩
            have hsp2 := hset.out (by trivial) _ _ _ hsr
            obtain ⟨rfl, hst6'⟩ := hsp2
            have hB6 := hid hB6'
            have fin : Hid (VisL w (put5 w6' (w7.heap.size + 1) 0 k2) o w7.heap.size (w7.heap.size + 1) true a0 m0 (j + 1) _) := hid ⟨S2, a', m', k2, S ++ [k2], ⟨hB6'.stored.tab.mono (by omega), hB6'.stored.lo, hB6'.stored.ex, hB6'.stored.ord, hB6'.stored.b0, hB6'.stored.chg⟩, hM6'.chg (put5_chg w6' (w7.heap.size + 1) 0 k2) (by omega), hst6'⟩
            clear hsr hB6' hM6' hst6' hB5 hM5 y0 y1 y2 y3 y4 hyl z0 z1 z2 z3 z4 hzl hzf
            obtain ⟨y0, y1, y2, y3, y4⟩ := V.box hB6.out.b1
            have hyl := hB6.out.b1.lt
            obtain ⟨z0, z1, z2, z3, z4⟩ := V.box hB6.out.va.b0
            have hzl := hB6.out.va.b0.lt
            have hzf := fun jj => hB6.out.va.b0.frozen jj
            clear hB6
            go_wp2_with fail
            go_roundw
            case rel => exact ⟨_, j + 1, rfl, by go_num, fin⟩
            case measure => simp [intOf]; omega
        · have hl2 := hla rfl
          obtain rfl : k2.p = ln := by rw [← hln.out]; rfl
          clear hla hln
          cases b
          · go_wp2_with (at_mapUpdate; refine wpList_mapUpdate_own _ rfl _ _ _ 50 rfl 26 4 val_law Try.underlying50 _ w7.heap.size j D rfl hD.out (by unfold maxLen; omega) _ _ _ rfl rfl hkl.out _ [] (plainElem_bool Try.underlying4 true) ?_; intro w5 hm5' hg5'; have hm5 := hid hm5'; have hc5 := hid ((Chg.refl (fun x => x = w7.heap.size) w3).grown hg5' fun x hx _ => by injection hx with hx; exact hx.symm); have hB5 := hid (hB3.out.mapped hc5.out); have hM5 : Hid (VMap w5 w7.heap.size (j + 1) (S ++ [k2])) := hid ⟨_, hm5.out, hBo.out⟩; clear hm5' hg5' hm5 hc5 y0 y1 y2 y3 y4 hyl; obtain ⟨y0, y1, y2, y3, y4⟩ := V.box hB5.out.b1; have hyl := hB5.out.b1.lt; obtain ⟨z0, z1, z2, z3, z4⟩ := V.box hB5.out.va.b0; have hzl := hB5.out.va.b0.lt; have hzf := fun jj => hB5.out.va.b0.frozen jj)
            have fin : Hid (VisL w (put5 w5 (w7.heap.size + 1) 0 k2) o w7.heap.size (w7.heap.size + 1) false a0 m0 (j + 1) _) := hid ⟨S1', a, m, k2, S ++ [k2], ⟨hB5.out.stored.tab.mono (by omega), hB5.out.stored.lo, hB5.out.stored.ex, hB5.out.stored.ord, hB5.out.stored.b0, hB5.out.stored.chg⟩, hM5.out.chg (put5_chg w5 (w7.heap.size + 1) 0 k2) (by omega), hsame.out (by trivial)⟩
            clear hB5 hM5
            go_roundw
            case rel => exact ⟨_, j + 1, rfl, by go_num, fin⟩
            case measure => simp [intOf]; omega
          · go_wp2_with (at_mapUpdate; refine wpList_mapUpdate_own _ rfl _ _ _ 50 rfl 26 4 val_law Try.underlying50 _ w7.heap.size j D rfl hD.out (by unfold maxLen; omega) _ _ _ rfl rfl hkl.out _ [] (plainElem_bool Try.underlying4 true) ?_; intro w5 hm5' hg5'; have hm5 := hid hm5'; have hc5 := hid ((Chg.refl (fun x => x = w7.heap.size) w3).grown hg5' fun x hx _ => by injection hx with hx; exact hx.symm); have hB5 := hid (hB3.out.mapped hc5.out); have hM5 : Hid (VMap w5 w7.heap.size (j + 1) (S ++ [k2])) := hid ⟨_, hm5.out, hBo.out⟩; clear hm5' hg5' hm5 hc5 y0 y1 y2 y3 y4 hyl; obtain ⟨y0, y1, y2, y3, y4⟩ := V.box hB5.out.b1; have hyl := hB5.out.b1.lt; obtain ⟨z0, z1, z2, z3, z4⟩ := V.box hB5.out.va.b0; have hzl := hB5.out.va.b0.lt; have hzf := fun jj => hB5.out.va.b0.frozen jj)
            refine (hB5.out.del hM5.out hab.out.1 (by have := hlen.out; have := hb0.out; omega) (by omega) hk2w.out hkk.out).mono ?_
            rintro e w6' ⟨xx, S2, a', m', rfl, hsr, hB6', hM6'⟩
            have hsp2 := hset.out (by trivial) _ _ _ hsr
            obtain ⟨rfl, hst6'⟩ := hsp2
            have hB6 := hid hB6'
            have fin : Hid (VisL w (put5 w6' (w7.heap.size + 1) 0 k2) o w7.heap.size (w7.heap.size + 1) true a0 m0 (j + 1) _) := hid ⟨S2, a', m', k2, S ++ [k2], ⟨hB6'.stored.tab.mono (by omega), hB6'.stored.lo, hB6'.stored.ex, hB6'.stored.ord, hB6'.stored.b0, hB6'.stored.chg⟩, hM6'.chg (put5_chg w6' (w7.heap.size + 1) 0 k2) (by omega), hst6'⟩
            clear hsr hB6' hM6' hst6' hB5 hM5 y0 y1 y2 y3 y4 hyl z0 z1 z2 z3 z4 hzl hzf
            obtain ⟨y0, y1, y2, y3, y4⟩ := V.box hB6.out.b1
            have hyl := hB6.out.b1.lt
            obtain ⟨z0, z1, z2, z3, z4⟩ := V.box hB6.out.va.b0
            have hzl := hB6.out.va.b0.lt
            have hzf := fun jj => hB6.out.va.b0.frozen jj
            clear hB6
            go_wp2_with fail
            go_roundw
            case rel => exact ⟨_, j + 1, rfl, by go_num, fin⟩
            case measure => simp [intOf]; omega
end Go.Proofs.Ytoelgnjnbelokaa
