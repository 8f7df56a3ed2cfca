/-
  The reference's table in memory; its small functions.
  The reference's integer of a key, and Get in the array part.
-/
import Derived.Test.YtoelgnjnbelokaaWTSmall
import Derived.Test.YtoelgnjnbelokaaWDocS2
import Derived.Test.YtoelgnjnbelokaaWDocN
import Derived.Test.YtoelgnjnbelokaaTSet
import Derived.Test.YtoelgnjnbelokaaTLaw
namespace Go.Proofs.Ytoelgnjnbelokaa
open Go.RowKit Go.Maps

/-- The document's map in blocks of S or from N on. -/
def ROne (w : World) (S : Nat → Prop) (N c : Nat) (m : List Sl) : Prop := ∃ vs, DocM w c vs m ∧ ∀ k, docF c vs k → S k ∨ N ≤ k
structure RefM (w : World) (r : Nat) (av : Value) (c : Nat) (vs : Value) (a : List V) (m : List Sl) : Prop where
  blk : Bk w r 77 [av, .pointer (some ⟨c, 0, none⟩)]
  arr : LRow w av a
  mp : DocM w c vs m
def refF (r : Nat) (av : Value) (c : Nat) (vs : Value) (k : Nat) : Prop := k = r ∨ av.ownBlock = some k ∨ docF c vs k
/-- The reference's table in blocks of S or from N on. -/
def RTab (w : World) (S : Nat → Prop) (N r : Nat) (a : List V) (m : List Sl) : Prop := ∃ av c vs, RefM w r av c vs a m ∧ ∀ k, refF r av c vs k → S k ∨ N ≤ k
section
variable {w w' : World} {S : Nat → Prop} {N r c : Nat} {av vs : Value} {a : List V} {m : List Sl}
theorem ROne.none_ (h : ROne w S N c m) (hc : Chg (fun _ => False) w w') : ROne w' S N c m := by
  obtain ⟨vs, h1, h2⟩ := h
  exact ⟨vs, h1.none_ hc, h2⟩
theorem ROne.chg {T : Nat → Prop} (h : ROne w S N c m) (hc : Chg T w w') (hT : ∀ k, k < w.heap.size → S k ∨ N ≤ k → ¬ T k) : ROne w' S N c m := by
  obtain ⟨vs, h1, h2⟩ := h
  exact ⟨vs, h1.chg hc fun k hk => hT k (h1.lt hk) (h2 k hk), h2⟩
theorem ROne.fix (h : ROne w S N c m) : ∃ S', (∀ k, S' k → k < w.heap.size ∧ (S k ∨ N ≤ k)) ∧ ∀ w2 N2, Chg (fun _ => False) w w2 → ROne w2 S' N2 c m := by
  obtain ⟨vs, h1, h2⟩ := h
  exact ⟨docF c vs, fun k hk => ⟨h1.lt hk, h2 k hk⟩, fun w2 N2 hc => ⟨vs, h1.none_ hc, fun k hk => .inl hk⟩⟩
theorem ROne.weaken {S' : Nat → Prop} {N' : Nat} (h : ROne w S' N' c m) (hS : ∀ k, S' k → S k ∨ N ≤ k) (hN : N ≤ N') : ROne w S N c m := by
  obtain ⟨vs, h1, h2⟩ := h
  exact ⟨vs, h1, fun k hk => (h2 k hk).elim (hS k) fun h => .inr (by omega)⟩
theorem ROne.inv (h : ROne w S N c m) : Inv m := by
  obtain ⟨vs, h1, h2⟩ := h
  exact h1.inv
/-- The map after a Set. -/
theorem ROne.set (h : ROne w S N c m) (hN : N ≤ w.heap.size) (hn : m.length ≤ 999) {k v : V} {e1 : Int} {m1 : List Sl} (hp : setM m k v = (e1, m1)) :
    Calls Try.prog 52 #[.pointer (some ⟨c, 0, none⟩), (.agg #[.int .i64 k.k, .int .i64 k.p, .int .i64 k.q, .string k.s, .int .i64 k.r]), (.agg #[.int .i64 v.k, .int .i64 v.p, .int .i64 v.q, .string v.s, .int .i64 v.r])] w fun e w' => e = .returned (.int .i64 e1) ∧ ROne w' S N c m1 ∧ Chg (fun k => S k ∨ N ≤ k) w w' := by
  obtain ⟨vs, h1, h2⟩ := h
  refine (doc_setM h1 hn hp).mono ?_
  rintro e w1 ⟨rfl, vs', h3, h4, h5⟩
  exact ⟨rfl, ⟨vs', h3, fun k hk => (h5 k hk).elim (h2 k) fun e => .inr (by omega)⟩, h4.mono fun k _ e => h2 k e⟩
theorem ROne.get (h : ROne w S N c m) (hn : m.length ≤ 1000000) (k : V) {x : V} (hx : getM m k = x) :
    Calls Try.prog 53 #[.pointer (some ⟨c, 0, none⟩), (.agg #[.int .i64 k.k, .int .i64 k.p, .int .i64 k.q, .string k.s, .int .i64 k.r])] w fun e w' => e = .returned (.agg #[.int .i64 x.k, .int .i64 x.p, .int .i64 x.q, .string x.s, .int .i64 x.r]) ∧ Chg (fun _ => False) w w' := by
  obtain ⟨vs, h1, h2⟩ := h
  exact doc_get h1 hn k hx
theorem ROne.next (h : ROne w S N c m) (hn : m.length ≤ 1000000) {k : V} {x1 x2 : V} {bb : Bool} {e1 : Int} (hx : nextM m k = (x1, x2, bb, e1)) :
    Calls Try.prog 57 #[.pointer (some ⟨c, 0, none⟩), (.agg #[.int .i64 k.k, .int .i64 k.p, .int .i64 k.q, .string k.s, .int .i64 k.r])] w fun e w' => e = .returned (.tuple #[(.agg #[.int .i64 x1.k, .int .i64 x1.p, .int .i64 x1.q, .string x1.s, .int .i64 x1.r]), (.agg #[.int .i64 x2.k, .int .i64 x2.p, .int .i64 x2.q, .string x2.s, .int .i64 x2.r]), .bool bb, .int .i64 e1]) ∧ Chg (fun _ => False) w w' := by
  obtain ⟨vs, h1, h2⟩ := h
  exact doc_next h1 hn hx
theorem RefM.chg {T : Nat → Prop} (h : RefM w r av c vs a m) (hc : Chg T w w') (hn : ∀ k, refF r av c vs k → ¬ T k) : RefM w' r av c vs a m :=
  ⟨h.blk.chg hc (hn _ (.inl rfl)), h.arr.chg hc fun k hk => hn k (.inr (.inl hk)), h.mp.chg hc fun k hk => hn k (.inr (.inr hk))⟩
theorem RefM.none_ (h : RefM w r av c vs a m) (hc : Chg (fun _ => False) w w') : RefM w' r av c vs a m := h.chg hc fun _ _ h => h
theorem RefM.lt (h : RefM w r av c vs a m) {k : Nat} (hk : refF r av c vs k) : k < w.heap.size := by
  rcases hk with rfl | hk | hk
  · exact h.blk.lt
  · exact h.arr.lt hk
  · exact h.mp.lt hk
/-- The table's own block and its row are none of the map's blocks. -/
theorem RefM.sep (h : RefM w r av c vs a m) : ¬ docF c vs r ∧ av.ownBlock ≠ some r ∧ ∀ k, av.ownBlock = some k → ¬ docF c vs k := by
  refine ⟨?_, h.arr.block_ne h.blk (by decide), fun k hk => ?_⟩
  · rintro (e | e)
    · exact h.blk.ne h.mp.blk (by decide) e
    · exact h.blk.ne_row h.mp.row (by decide) e
  · rcases h.arr with ⟨rfl, _⟩ | ⟨g, cap, cur, rfl, hb, _⟩
    · simp [Value.ownBlock] at hk
    · obtain rfl : g = k := by simpa [Value.ownBlock] using hk
      rintro (e | e)
      · exact hb.ne h.mp.blk (by decide) e
      · exact hb.ne_row h.mp.row (by decide) e
theorem RTab.none_ (h : RTab w S N r a m) (hc : Chg (fun _ => False) w w') : RTab w' S N r a m := by
  obtain ⟨av, c, vs, h1, h2⟩ := h
  exact ⟨av, c, vs, h1.none_ hc, h2⟩
theorem RTab.chg {T : Nat → Prop} (h : RTab w S N r a m) (hc : Chg T w w') (hT : ∀ k, k < w.heap.size → S k ∨ N ≤ k → ¬ T k) : RTab w' S N r a m := by
  obtain ⟨av, c, vs, h1, h2⟩ := h
  exact ⟨av, c, vs, h1.chg hc fun k hk => hT k (h1.lt hk) (h2 k hk), h2⟩
theorem RTab.weaken {S' : Nat → Prop} {N' : Nat} (h : RTab w S' N' r a m) (hS : ∀ k, S' k → S k ∨ N ≤ k) (hN : N ≤ N') : RTab w S N r a m := by
  obtain ⟨av, c, vs, h1, h2⟩ := h
  exact ⟨av, c, vs, h1, fun k hk => (h2 k hk).elim (hS k) fun h => .inr (by omega)⟩
theorem RTab.fix (h : RTab w S N r a m) : ∃ S', (∀ k, S' k → k < w.heap.size ∧ (S k ∨ N ≤ k)) ∧ ∀ w2 N2, Chg (fun _ => False) w w2 → RTab w2 S' N2 r a m := by
  obtain ⟨av, c, vs, h1, h2⟩ := h
  exact ⟨refF r av c vs, fun k hk => ⟨h1.lt hk, h2 k hk⟩, fun w2 N2 hc => ⟨av, c, vs, h1.none_ hc, fun k hk => .inl hk⟩⟩
theorem RTab.inv (h : RTab w S N r a m) : Inv m := by
  obtain ⟨av, c, vs, h1, h2⟩ := h
  exact h1.mp.inv
theorem RTab.lt (h : RTab w S N r a m) : r < w.heap.size := by
  obtain ⟨av, c, vs, h1, h2⟩ := h
  exact h1.blk.lt
/-- The table's cells. -/
theorem RTab.cells (h : RTab w S N r a m) {q : Nat} (hq : a.length = q) : ∃ A cap c, w.cell? ⟨r, 0, none⟩ = some (.slice A q cap) ∧ w.cell? ⟨r, 1, none⟩ = some (.pointer (some ⟨c, 0, none⟩)) ∧ Vs w A a ∧ ROne w S N c m ∧ q ≤ cap ∧ cap ≤ maxLen ∧ (0 < q → ∃ g, A = some ⟨g, 0, none⟩) := by
  subst hq
  obtain ⟨av, c, vs, h1, h2⟩ := h
  obtain ⟨A, cap, rfl, h4, h5, h6, h7, h8⟩ := h1.arr.form
  exact ⟨A, cap, c, h1.blk.cell 0, h1.blk.cell 1, h6, ⟨vs, h1.mp, fun k hk => h2 k (.inr (.inr hk))⟩, h4, h5, h7⟩
/-- The table with another map. -/
theorem RTab.newmap {S9 : Nat → Prop} {N9 c9 : Nat} {m9 : List Sl} (h : RTab w S N r a m) (h9 : ROne w S9 N9 c9 m9) (h2 : ∀ k, S9 k ∨ N9 ≤ k → S k ∨ N ≤ k) :
    RTab (w.setCell ⟨r, 1, none⟩ (.pointer (some ⟨c9, 0, none⟩))) S N r a m9 ∧ Chg (fun k => S k ∨ N ≤ k) w (w.setCell ⟨r, 1, none⟩ (.pointer (some ⟨c9, 0, none⟩))) := by
  obtain ⟨av, c, vs, hm, hlo⟩ := h
  obtain ⟨vs9, g1, g2⟩ := h9
  have hc : Chg (fun k => k = r) w (w.setCell ⟨r, 1, none⟩ (.pointer (some ⟨c9, 0, none⟩))) := (Chg.refl (fun k => k = r) w).setCell (p := ⟨r, 1, none⟩) (fun _ => rfl) _
  have hno : ¬ docF c9 vs9 r := by
    rintro (e | e)
    · exact hm.blk.ne g1.blk (by decide) e
    · exact hm.blk.ne_row g1.row (by decide) e
  refine ⟨⟨av, c9, vs9, ⟨hm.blk.set_ 1 _, hm.arr.chg hc fun k hk e => hm.sep.2.1 (by rw [← e]; exact hk), g1.chg hc fun k hk e => hno (by rw [← e]; exact hk)⟩, fun k hk => ?_⟩, hc.mono fun k hk e => hlo k (.inl e)⟩
  rcases hk with e | e | e
  · exact hlo k (.inl e)
  · exact hlo k (.inr (.inl e))
  · exact h2 k (g2 k e)
/-- The table with another row at the same or a new block. -/
theorem RefM.appended {W w7 : World} {a2 : List V} {v2 : Value} {H : Nat} (h : RefM w r av c vs a m) (hc : Chg (fun _ => False) w W) (hl : LRow w7 v2 a2) (hg : W.grownBy w7 av.ownBlock) (hat : ∀ k, v2.ownBlock = some k → av.ownBlock = some k ∨ k = H) (hH : w.heap.size ≤ H) :
    RefM (w7.setCell ⟨r, 0, none⟩ v2) r v2 c vs a2 m ∧ Chg (fun k => k = r ∨ av.ownBlock = some k) w (w7.setCell ⟨r, 0, none⟩ v2) ∧ ∀ k, refF r v2 c vs k → refF r av c vs k ∨ w.heap.size ≤ k := by
  obtain ⟨s1, s2, s3⟩ := h.sep
  have c7 : Chg (fun k => av.ownBlock = some k) w w7 := (hc.mono (T := fun k => av.ownBlock = some k) fun _ _ e => e.elim).grown hg fun k hk _ => hk
  have hb7 := h.blk.chg c7 s2
  have c8 : Chg (fun k => k = r) w7 (w7.setCell ⟨r, 0, none⟩ v2) := (Chg.refl (fun k => k = r) w7).setCell (p := ⟨r, 0, none⟩) (fun _ => rfl) _
  refine ⟨⟨hb7.set_ 0 _, hl.chg c8 fun k hk e => hl.block_ne hb7 (by decide) (by rw [← e]; exact hk), (h.mp.chg c7 fun k hk e => s3 k e hk).chg c8 fun k hk e => s1 (by rw [← e]; exact hk)⟩, (c7.mono (T := fun k => k = r ∨ av.ownBlock = some k) fun _ _ e => .inr e).trans_same (c8.mono (T := fun k => k = r ∨ av.ownBlock = some k) fun _ _ e => .inl e), fun k hk => ?_⟩
  rcases hk with e | e | e
  · exact .inl (.inl e)
  · rcases hat k e with e2 | e2
    · exact .inl (.inr (.inl e2))
    · exact .inr (by omega)
  · exact .inl (.inr (.inr e))
/-- The front of the row, with the same places. -/
theorem LRow.cutc {cap : Nat} {A : Option Addr} {n : Nat} {rs : List V} (h : LRow w (.slice A n cap) rs) {j : Nat} (hj : j ≤ rs.length) (h0 : A ≠ none) : LRow w (.slice A j cap) (rs.take j) := by
  rcases h with ⟨e, _⟩ | ⟨g', cap', cur, e, h1, h2, h3, h4, h5⟩
  · injection e with e; exact absurd e h0
  · injection e with e1 e2 e3
    subst e1 e2 e3
    have hl : (rs.take j).length = j := by rw [List.length_take]; omega
    refine .inr ⟨g', cap, cur, by rw [hl], h1, by rw [hl]; omega, h3, h4, ?_⟩
    rw [hl, ← flat_takeV rs j, ← h5, List.take_take, Nat.min_eq_left (Nat.mul_le_mul_right 5 hj)]
theorem RefM.cut {A : Option Addr} {q cap j : Nat} (h : RefM w r (.slice A q cap) c vs a m) (hj : j ≤ a.length) (h0 : A ≠ none) :
    RefM (w.setCell ⟨r, 0, none⟩ (.slice A j cap)) r (.slice A j cap) c vs (a.take j) m ∧ Chg (fun k => k = r) w (w.setCell ⟨r, 0, none⟩ (.slice A j cap)) := by
  obtain ⟨s1, s2, s3⟩ := h.sep
  have hc : Chg (fun k => k = r) w (w.setCell ⟨r, 0, none⟩ (.slice A j cap)) := (Chg.refl (fun k => k = r) w).setCell (p := ⟨r, 0, none⟩) (fun _ => rfl) _
  exact ⟨⟨h.blk.set_ 0 _, (h.arr.cutc hj h0).chg hc fun k hk e => s2 (by rw [← e, ← hk]; cases A <;> rfl), h.mp.chg hc fun k hk e => s1 (by rw [← e]; exact hk)⟩, hc⟩
/-- One value of the row is stored. -/
theorem RefM.put {g cap q : Nat} (h : RefM w r (.slice (some ⟨g, 0, none⟩) q cap) c vs a m) {i : Nat} (hi : i < a.length) (v : V) :
    RefM (put5 w g (i * 5) v) r (.slice (some ⟨g, 0, none⟩) q cap) c vs (a.set i v) m ∧ Chg (fun k => k = g) w (put5 w g (i * 5) v) := by
  obtain ⟨s1, s2, s3⟩ := h.sep
  have hgr : r ≠ g := fun e => s2 (by rw [e]; rfl)
  have hp := put5_chg w g (i * 5) v
  exact ⟨⟨h.blk.chg hp hgr, h.arr.put rfl hi v, h.mp.chg hp fun k hk e => s3 k (by rw [e]; rfl) hk⟩, hp⟩
end
theorem r_new (w : World) : Calls Try.prog 36 #[] w fun e w' => ∃ o, e = .returned (.pointer (some ⟨o, 0, none⟩)) ∧ RTab w' (fun _ => False) w.heap.size o [] [] ∧ Chg (fun _ => False) w w' := by
  go_enter Try.func36, Try.ntmps36
  go_wp2_with fail
  refine (doc_new w).mono ?_
  rintro e w1 ⟨rfl, hO', hc1⟩
  have hC := hid hc1
  have fin : Hid (RTab (w1.alloc (.cells #[.slice none 0 0, .pointer (some ⟨w.heap.size, 0, none⟩)] 77)) (fun _ => False) w.heap.size w1.heap.size [] []) := hid (by
    refine ⟨_, w.heap.size, _, ⟨Bk.new w1 77 [.slice none 0 0, .pointer (some ⟨w.heap.size, 0, none⟩)], LRow.nil _, hO'.none_ ((Chg.refl _ w1).alloc _)⟩, fun k hk => ?_⟩
    rcases hk with rfl | hk | hk | hk
    · exact .inr hc1.size
    · simp [Value.ownBlock] at hk
    · exact .inr (by omega)
    · simp [Value.ownBlock] at hk)
  clear hO' hc1
  go_wp2_with fail
  go_ret
  exact ⟨_, rfl, fin.out, hC.out.alloc _⟩
theorem ref_ofInt (w : World) (n : Int) (h1 : -2147483647 ≤ n) (h2 : n ≤ 2147483647) : Calls Try.prog 61 #[.int .i64 n] w fun e w' => e = .returned (.agg #[.int .i64 ((kI n)).k, .int .i64 ((kI n)).p, .int .i64 ((kI n)).q, .string ((kI n)).s, .int .i64 ((kI n)).r]) ∧ Chg (fun _ => False) w w' := by
  have t1 : decide (n < -2147483647) = false := by simp; omega
  have t2 : decide (2147483647 < n) = false := by simp; omega
  have hB := hid (Bk.new w 26 (kI n).cs)
  have hC := hid ((Chg.refl (fun _ => False) w).alloc (.cells (kI n).cs.toArray 26))
  clear h1 h2
  go_enter Try.func61, Try.ntmps61
  go_wp2_with fail
  exact ret_val (t := 2) (b := w.heap.size) (x := kI n) rfl rfl rfl hB.out ⟨rfl, hC.out⟩
theorem ref_key (w : World) (n : Int) (h1 : -2147483647 ≤ n) (h2 : n ≤ 2147483647) : Calls Try.prog 54 #[.int .i64 n] w fun e w' => e = .returned (.agg #[.int .i64 ((kI n)).k, .int .i64 ((kI n)).p, .int .i64 ((kI n)).q, .string ((kI n)).s, .int .i64 ((kI n)).r]) ∧ Chg (fun _ => False) w w' := by
  have h1h := hid h1
  have h2h := hid h2
  have hB := hid (Bk.new w 26 V.zero.cs)
  have hC := hid ((Chg.refl (fun _ => False) w).alloc (.cells V.zero.cs.toArray 26))
  clear h1 h2
  go_enter Try.func54, Try.ntmps54
  go_wp2_with fail
  refine (ref_ofInt _ n h1h.out h2h.out).mono ?_
  rintro e w1 ⟨rfl, hc⟩
  have hB1 := hid (hB.out.none_ hc)
  have hC1 := hid (hC.out.trans_same hc)
  obtain ⟨x0, x1, x2, x3, x4⟩ := V.box hB1.out
  have hxl := hB1.out.lt
  have hxf := fun j => hB1.out.frozen j
  simp only [V.zero] at x0 x1 x2 x3 x4
  have hB2 : Hid (Bk (put5 w1 w.heap.size 0 (kI n)) w.heap.size 26 (kI n).cs) := hid (put5_bk hB1.out)
  have hC2 : Hid (Chg (fun _ => False) w (put5 w1 w.heap.size 0 (kI n))) := hid (hC1.out.trans (put5_chg w1 w.heap.size 0 _) (fun j hj e => by omega))
  clear hc hB hC hB1 hC1
  go_wp2_with fail
  exact ret_val (t := 2) (b := w.heap.size) (x := kI n) rfl rfl rfl hB2.out ⟨rfl, hC2.out⟩
end Go.Proofs.Ytoelgnjnbelokaa

namespace Go.Proofs.Ytoelgnjnbelokaa
open Go.RowKit Go.Maps

def wholeI (k : V) : Int := if isI k = true then k.p else 0
theorem wholeI_kI {n : Int} (h1 : -2147483647 ≤ n) (h2 : n ≤ 2147483647) : wholeI (kI n) = n := by
  unfold wholeI
  rw [if_pos (isI_kI h1 h2).1]
  rfl
set_option maxHeartbeats 2000000 in
theorem ref_whole (w : World) {p q : Int} (hok : numOk p q = true) {n : Int} {b : Bool} (hn : (if q = 1 then (p, true) else (0, false)) = (n, b)) :
    Calls Try.prog 58 #[.agg #[.int .i64 p, .int .i64 q]] w fun e w' => e = .returned (.tuple #[.int .i64 n, .bool b]) ∧ Chg (fun _ => False) w w' := by
  have hkh := hid hok
  have hB := hid (Bk.new w 24 [.int .i64 p, .int .i64 q])
  have hC := hid ((Chg.refl (fun _ => False) w).alloc (.cells #[.int .i64 p, .int .i64 q] 24))
  clear hok
  refine (Classical.em (q = 1)).elim ?q1 ?qn
  case' q1 =>
    intro h1
    rw [if_pos h1] at hn
    injection hn with hn1 hn2
    subst hn1 hn2
    have t1 : (q == 1) = true := by simpa using h1
    clear h1
  case' qn =>
    intro h1
    rw [if_neg h1] at hn
    injection hn with hn1 hn2
    subst hn1 hn2
    have t1 : (q == 1) = false := by simpa using h1
    clear h1
  all_goals
    go_enter Try.func58, Try.ntmps58
    go_wp2_with fail
    refine (ref_valid _ p q).mono ?_
    rw [hkh.out]
    rintro e w1 ⟨rfl, hc⟩
    have hB1 := hid (hB.out.none_ hc)
    have hC1 := hid (hC.out.trans_same hc)
    have x0 := hB1.out.cell 0
    have x1 := hB1.out.cell 1
    have hxl := hB1.out.lt
    simp only [List.getElem?_cons_succ, List.getElem?_cons_zero] at x0 x1
    clear hc hB hC
    go_wp2_with fail
    go_ret2
    exact ⟨rfl, hC1.out⟩
set_option maxHeartbeats 4000000 in
theorem whole_any (w : World) (k : V) {n : Int} (hn : wholeI k = n) : Calls Try.prog 51 #[(.agg #[.int .i64 k.k, .int .i64 k.p, .int .i64 k.q, .string k.s, .int .i64 k.r])] w fun e w' => e = .returned (.int .i64 n) ∧ Chg (fun _ => False) w w' := by
  have hB := hid (Bk.new w 26 k.cs)
  have hC := hid ((Chg.refl (fun _ => False) w).alloc (.cells k.cs.toArray 26))
  refine (Classical.em (k.k = 2)).elim ?k2 ?kn
  case' kn =>
    intro h2
    have e0 : (k.k != 2) = true := by simpa using h2
    obtain rfl : 0 = n := by rw [← hn]; unfold wholeI isI; simp [h2]
    clear h2 hn
    go_enter Try.func51, Try.ntmps51
    go_wp2_with fail
    go_ret
    exact ⟨rfl, hC.out⟩
  case' k2 =>
    intro h2
    have e0 : (k.k != 2) = false := by simpa using h2
    obtain ⟨bv, hbv⟩ : ∃ b, vok k = b := ⟨_, rfl⟩
    have hbvh := hid hbv
    cases bv
    case' false =>
      obtain rfl : 0 = n := by rw [← hn]; unfold wholeI isI; simp [hbv]
      clear h2 hn hbv
      go_enter Try.func51, Try.ntmps51
      go_wp2_with fail
      refine (doc_valid_eq hbvh.out).mono ?_
      rintro e w1 ⟨rfl, hc⟩
      have hC1 := hid (hC.out.trans_same hc)
      clear hc
      go_wp2_with fail
      go_ret
      exact ⟨rfl, hC1.out⟩
    case' true =>
      have hnum : Hid (numOk k.p k.q = true) := hid (by
        have h := hbv
        unfold vok at h
        rw [if_neg (by rw [h2]; decide), if_neg (by rw [h2]; decide), if_pos h2] at h
        simp only [Bool.and_eq_true] at h
        exact h.1.1)
      obtain ⟨b, hb⟩ : ∃ b, Hid ((if k.q = 1 then (k.p, true) else (0, false)) = (n, b)) := ⟨decide (k.q = 1), hid (by
        rw [← hn]
        unfold wholeI isI
        rw [hbv]
        by_cases h1 : k.q = 1
        · simp [h1, h2]
        · simp [h1])⟩
      clear h2 hn hbv
      go_enter Try.func51, Try.ntmps51
      go_wp2_with fail
      refine (doc_valid_eq hbvh.out).mono ?_
      rintro e w1 ⟨rfl, hc⟩
      have hB1 := hid (hB.out.none_ hc)
      have hC1 := hid (hC.out.trans_same hc)
      obtain ⟨x0, x1, x2, x3, x4⟩ := V.box hB1.out
      have hxl := hB1.out.lt
      clear hc hB hC
      go_wp2_with fail
      refine (ref_whole _ hnum.out hb.out).mono ?_
      rintro e w2 ⟨rfl, hc⟩
      have hC2 := hid (hC1.out.trans_same hc)
      clear hc hB1 hC1
      go_wp2_with fail
      go_ret
      exact ⟨rfl, hC2.out⟩
section
variable {w w' : World} {S : Nat → Prop} {N r : Nat} {a : List V} {m : List Sl}
set_option maxRecDepth 100000 in
set_option maxHeartbeats 4000000 in
theorem r_get (h : RTab w S N r a m) (hb : a.length ≤ 1000000) {i : Nat} (hi : i < a.length) {k x : V} (hk : wholeI k = (i : Int) + 1) (hx : vAt a i = x) :
    Calls Try.prog 56 #[.pointer (some ⟨r, 0, none⟩), (.agg #[.int .i64 k.k, .int .i64 k.p, .int .i64 k.q, .string k.s, .int .i64 k.r])] w fun e w' => e = .returned (.agg #[.int .i64 x.k, .int .i64 x.p, .int .i64 x.q, .string x.s, .int .i64 x.r]) ∧ Chg (fun _ => False) w w' := by
  obtain ⟨q, hq⟩ : ∃ q, Hid (a.length = q) := ⟨_, hid rfl⟩
  have hT := hid h
  have hxh := hid hx
  have hkh := hid hk
  have hZ := hid (Bk.new_at (w.alloc (.cells k.cs.toArray 26)) 26 V.zero.cs.toArray (w.heap.size + 1) (by simp))
  have hC := hid (((Chg.refl (fun _ => False) w).alloc (.cells k.cs.toArray 26)).alloc (.cells V.zero.cs.toArray 26))
  have hiq : i < q := by rw [← hq.out]; exact hi
  have hbq : q ≤ 1000000 := by rw [← hq.out]; exact hb
  have t1 : decide ((1 : Int) ≤ (i : Int) + 1) = true := by simp; omega
  have t2 : decide ((i : Int) + 1 ≤ (q : Int)) = true := by simp; omega
  have hw1 : IntKind.i64.wrap ((i : Int) + 1 - 1) = (i : Int) := by rw [IntKind.wrap_i64]; omega
  have hw2 : IntKind.i64.wrap (i : Int) = (i : Int) := by rw [IntKind.wrap_i64]; omega
  clear h hx hk hi hb
  go_enter Try.func56, Try.ntmps56
  go_wp2_with fail
  refine (whole_any _ _ hkh.out).mono ?_
  rintro e w2 ⟨rfl, hc2⟩
  have hB2 := hid (hZ.out.none_ hc2)
  have hC2 := hid (hC.out.trans_same hc2)
  obtain ⟨A, cap, c, c0, c1, hVs, -, -⟩ := (hT.out.none_ hC2.out).cells hq.out
  obtain ⟨b, o', rfl, hbl, y0, y1, y2, y3, y4⟩ := Vs.at_ (rs := a) hVs (i := i) (by rw [hq.out]; exact hiq)
  rw [hxh.out] at y0 y1 y2 y3 y4
  have hol2 := (hT.out.none_ hC2.out).lt
  obtain ⟨z0, z1, z2, z3, z4⟩ := V.box hB2.out
  have hzl := hB2.out.lt
  have hzf := fun j => hB2.out.frozen j
  simp only [V.zero] at z0 z1 z2 z3 z4
  clear hc2 hZ hC hVs hT
  go_wp2_with fail
  exact ret_val (t := 4) (b := w.heap.size + 1) (x := x) rfl rfl rfl (put5_bk (y := x) hB2.out) ⟨rfl, hC2.out.trans (put5_chg w2 (w.heap.size + 1) 0 x) fun j hj e => by omega⟩
end
end Go.Proofs.Ytoelgnjnbelokaa
