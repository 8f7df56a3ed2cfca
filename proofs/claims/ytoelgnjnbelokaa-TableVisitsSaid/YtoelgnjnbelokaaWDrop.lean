/-
  The program's map drops its removed slots.
-/
import Derived.Test.YtoelgnjnbelokaaWLook
namespace Go.Proofs.Ytoelgnjnbelokaa
open Go.RowKit Go.Maps

theorem Try.info72 : (Try.prog.info? 72).map (fun i => (i.zero, i.size, i.bytes)) = some (some (.agg #[.int .i64 0, .int .i64 0, .int .i64 0, .string ⟨#[]⟩, .int .i64 0, .int .i64 0, .int .i64 0, .int .i64 0, .string ⟨#[]⟩, .int .i64 0, .bool false]), 11, 104) := by kernel_rfl
/-- The map has a place for each key as f says. -/
def IxOk (D : DataW Unit) (f : V → Option Nat) : Prop := ∀ k l, keyOf Try.prog 26 (.agg #[.int .i64 k.k, .int .i64 k.p, .int .i64 k.q, .string k.s, .int .i64 k.r]) = some l → has D l = (f k).isSome ∧ ∀ i, f k = some i → D.atKey l (.lit (.int .i64 0)) = .lit (.int .i64 (i : Int))
theorem IxOk.at_ {D : DataW Unit} {f : V → Option Nat} (h : IxOk D f) {k : V} {l : Lit} (hk : keyOf Try.prog 26 (.agg #[.int .i64 k.k, .int .i64 k.p, .int .i64 k.q, .string k.s, .int .i64 k.r]) = some l) : D.atKey l (.lit (.int .i64 0)) = .lit (.int .i64 ((f k).getD 0 : Nat)) := by
  obtain ⟨h1, h2⟩ := h k l hk
  cases e : f k with
  | some i => exact h2 i e
  | none =>
    rw [e] at h1
    exact atKey_of_not_has h1 _
theorem IxOk.put {D : DataW Unit} {f g : V → Option Nat} (h : IxOk D f) (hD : IsMap D) {k : V} {l : Lit} {i : Nat} (hk : keyOf Try.prog 26 (.agg #[.int .i64 k.k, .int .i64 k.p, .int .i64 k.q, .string k.s, .int .i64 k.r]) = some l) (h1 : g k = some i) (h2 : ∀ k', k' ≠ k → g k' = f k') : IxOk (D.put l (.lit (.int .i64 (i : Int)))) g := by
  intro k' l' hk'
  by_cases e : k' = k
  · subst e
    obtain rfl := key_eq hk hk'
    refine ⟨by rw [has_put_same hD (val_law.key hk), h1]; rfl, fun j hj => ?_⟩
    rw [h1] at hj
    injection hj with hj
    subst hj
    rw [atKey_put_same hD (val_law.key hk)]
  · have hne := key_ne hk' hk e
    rw [has_put_other hne, h2 k' e]
    refine ⟨(h k' l' hk').1, fun j hj => ?_⟩
    rw [atKey_put_other hne]
    exact (h k' l' hk').2 j hj
theorem IxOk.del {D : DataW Unit} {f g : V → Option Nat} (h : IxOk D f) {k : V} {l : Lit} (hk : keyOf Try.prog 26 (.agg #[.int .i64 k.k, .int .i64 k.p, .int .i64 k.q, .string k.s, .int .i64 k.r]) = some l) (h1 : g k = none) (h2 : ∀ k', k' ≠ k → g k' = f k') : IxOk (D.del l) g := by
  intro k' l' hk'
  by_cases e : k' = k
  · subst e
    obtain rfl := key_eq hk hk'
    exact ⟨by rw [has_del_same, h1]; rfl, fun j hj => by rw [h1] at hj; cases hj⟩
  · have hne := key_ne hk' hk e
    rw [has_del_other hne, h2 k' e]
    refine ⟨(h k' l' hk').1, fun j hj => ?_⟩
    rw [atKey_del_other hne]
    exact (h k' l' hk').2 j hj
theorem IxOk.same {D : DataW Unit} {f g : V → Option Nat} (h : IxOk D f) (h2 : ∀ k', g k' = f k') : IxOk D g := by
  intro k' l' hk'
  rw [h2 k']
  exact h k' l' hk'
/-! ### The plain law -/
/-- The places when the first j slots have been looked at. -/
def dropIx (L : List Sl) (j : Nat) (k : V) : Option Nat := match lastIx L k with
  | none => none
  | some i => if i < j then (if (slAt L i).g then none else some (nOf (L.take i))) else some i
theorem dropIx_zero (L : List Sl) (k : V) : dropIx L 0 k = lastIx L k := by
  unfold dropIx
  split
  · rename_i h; exact h.symm
  · rename_i i h; rw [if_neg (by omega), h]
theorem dropIx_other {L : List Sl} {j : Nat} (hj : j < L.length) {k : V} (hk : k ≠ (slAt L j).k) : dropIx L (j + 1) k = dropIx L j k := by
  unfold dropIx
  cases e : lastIx L k with
  | none => rfl
  | some i =>
    have : i ≠ j := fun h => by subst h; exact hk (lastIx_some e).2.1.symm
    simp only
    by_cases h : i < j
    · rw [if_pos h, if_pos (by omega)]
    · rw [if_neg h, if_neg (by omega)]
theorem last_at {L : List Sl} {j : Nat} (hj : j < L.length) : ∃ i, lastIx L (slAt L j).k = some i ∧ j ≤ i := by
  cases e : lastIx L (slAt L j).k with
  | none => exact absurd rfl (lastIx_none e j hj)
  | some i =>
    refine ⟨i, rfl, ?_⟩
    rcases Nat.lt_or_ge i j with h | h
    · exact absurd rfl ((lastIx_some e).2.2 j h hj)
    · exact h
theorem dropIx_here {L : List Sl} {j i : Nat} (e : lastIx L (slAt L j).k = some i) (h : j ≤ i) : dropIx L j (slAt L j).k = some i := by
  unfold dropIx
  rw [e]
  simp only
  rw [if_neg (by omega)]
theorem dropIx_gone {L : List Sl} {j : Nat} (e : lastIx L (slAt L j).k = some j) (hg : (slAt L j).g = true) : dropIx L (j + 1) (slAt L j).k = none := by
  unfold dropIx
  rw [e]
  simp [hg]
theorem dropIx_later {L : List Sl} {j i : Nat} (e : lastIx L (slAt L j).k = some i) (h : j < i) : dropIx L (j + 1) (slAt L j).k = some i := by
  unfold dropIx
  rw [e]
  simp only
  rw [if_neg (by omega)]
theorem dropIx_live {L : List Sl} (I : Inv L) {j : Nat} (hj : j < L.length) (hg : (slAt L j).g = false) : dropIx L (j + 1) (slAt L j).k = some (nOf (L.take j)) := by
  unfold dropIx
  rw [(there_of I hj hg).1]
  simp [hg]
theorem dropIx_end {L : List Sl} (I : Inv L) (k : V) : dropIx L L.length k = lastIx (liveL L) k := by
  rw [lastIx_live I]
  unfold dropIx thereM
  cases e : lastIx L k with
  | none => rfl
  | some i =>
    simp only
    rw [if_pos (lastIx_some e).1]
    split <;> rfl
/-! ### The walk -/
section
variable {w w' : World} {c bm n : Nat} {vs : Value} {D : DataW Unit} {L : List Sl}
theorem look_f (hm : w.ownsMap Try.prog 26 (plainElem Try.prog 3) bm n D) {f : V → Option Nat} (hix : IxOk D f) {k : V} {l : Lit} (hk : keyOf Try.prog 26 (.agg #[.int .i64 k.k, .int .i64 k.p, .int .i64 k.q, .string k.s, .int .i64 k.r]) = some l) {x : Nat} (hx : f k = some x) :
    (Instr.lookup 68 (.map (some bm)) (.agg #[.int .i64 k.k, .int .i64 k.p, .int .i64 k.q, .string k.s, .int .i64 k.r]) false).run Try.prog w = .ok (.int .i64 (x : Int)) w := by
  obtain ⟨y, hrun, hat, _⟩ := hm.lookup_int val_law Try.underlying68 Try.underlying3 (zero3 w) hk
  rw [hix.at_ hk, hx] at hat
  rw [hrun]
  simp at hat
  rw [hat]
/-- What a call on the program's map c leaves. -/
def OwnPost (w w' : World) (c : Nat) (vs : Value) (bm n : Nat) (L' : List Sl) : Prop :=
  ∃ vs' n' D', OwnM w' c vs' bm n' D' L' ∧ n' ≤ n ∧ Chg (ownF c vs bm) w w' ∧ ∀ k, ownF c vs' bm k → ownF c vs bm k ∨ w.heap.size ≤ k
theorem OwnM.sep (h : OwnM w c vs bm n D L) : bm ≠ c ∧ vs.ownBlock ≠ some bm ∧ vs.ownBlock ≠ some c := ⟨map_not_row h.mp h.blk, map_not_own h.mp h.row, h.blk.ne_row h.row (by decide)⟩
/-- What holds while slots are dropped. -/
def Drops (w wr : World) (_c bm n j q : Nat) (L : List Sl) (s : Value) : Prop :=
  ∃ D', wr.ownsMap Try.prog 26 (plainElem Try.prog 3) bm (n + j) D' ∧ IxOk D' (dropIx L j) ∧ IsMap D' ∧ OwnR w wr 72 11 s q ((liveL (L.take j)).flatMap Sl.cs) ∧ Chg (fun k => k = bm) w wr
section
variable {wr w7 w8 : World} {j q k : Nat} {s : Value} {D' : DataW Unit} {l : Lit}
theorem drops_same (hM : wr.ownsMap Try.prog 26 (plainElem Try.prog 3) bm (n + j) D') (hI : IxOk D' (dropIx L j)) (hD : IsMap D') (hR : OwnR w wr 72 11 s q ((liveL (L.take j)).flatMap Sl.cs)) (hC : Chg (fun k => k = bm) w wr) (hj : j < L.length) (hg : (slAt L j).g = true)
    {i : Nat} (e : lastIx L (slAt L j).k = some i) (hi : j < i) (hc : Chg (fun _ => False) wr w') : Drops w w' c bm n (j + 1) q L s := by
  refine ⟨D', (map_chg hM hc id).mono (by omega), hI.same fun k => ?_, hD, by rw [liveL_take_succ hj, if_pos hg]; exact hR.none_ hc, hC.trans hc fun _ _ h => h.elim⟩
  by_cases h : k = (slAt L j).k
  · subst h
    rw [dropIx_later e hi, dropIx_here e (Nat.le_of_lt hi)]
  · exact dropIx_other hj h
theorem drops_del (hI : IxOk D' (dropIx L j)) (hD : IsMap D') (hM : wr.ownsMap Try.prog 26 (plainElem Try.prog 3) bm (n + j) D') (hR : OwnR w wr 72 11 s q ((liveL (L.take j)).flatMap Sl.cs)) (hC : Chg (fun k => k = bm) w wr) (hj : j < L.length) (hg : (slAt L j).g = true)
    (e : lastIx L (slAt L j).k = some j) (hl : keyOf Try.prog 26 (.agg #[.int .i64 ((slAt L j).k).k, .int .i64 ((slAt L j).k).p, .int .i64 ((slAt L j).k).q, .string ((slAt L j).k).s, .int .i64 ((slAt L j).k).r]) = some l) (hm7 : w7.ownsMap Try.prog 26 (plainElem Try.prog 3) bm (n + j) (D'.del l)) (hc7 : Chg (fun k => k = bm) wr w7) : Drops w w7 c bm n (j + 1) q L s :=
  ⟨_, hm7.mono (by omega), hI.del hl (dropIx_gone e hg) (fun k h => dropIx_other hj h), hD.del l, by rw [liveL_take_succ hj, if_pos hg]; exact hR.chg hc7 fun k hk e => map_not_own hM hR.own (by rw [← e]; exact hk), hC.trans_same hc7⟩
theorem drops_live (I : Inv L) (hI : IxOk D' (dropIx L j)) (hD : IsMap D') (hM : wr.ownsMap Try.prog 26 (plainElem Try.prog 3) bm (n + j) D') {A : Option Addr} (hR : OwnR w wr 72 11 (.slice A q k) q ((liveL (L.take j)).flatMap Sl.cs)) (hC : Chg (fun k => k = bm) w wr) (hj : j < L.length) (hg : (slAt L j).g = false) (hq : nOf (L.take j) = q)
    (hl : keyOf Try.prog 26 (.agg #[.int .i64 ((slAt L j).k).k, .int .i64 ((slAt L j).k).p, .int .i64 ((slAt L j).k).q, .string ((slAt L j).k).s, .int .i64 ((slAt L j).k).r]) = some l) (hm7 : w7.ownsMap Try.prog 26 (plainElem Try.prog 3) bm (n + j + 1) (D'.put l (.lit (.int .i64 (q : Int))))) (hc7 : Chg (fun k => k = bm) wr w7)
    {A5 : Option Addr} {c5 : Nat} (h8 : w8.ownsRow 0 72 11 (.slice A5 (q + 1) c5) (q + 1) ((liveL (L.take j)).flatMap Sl.cs ++ (slAt L j).cs)) (hg8 : (w7.alloc (.cells (slAt L j).cs.toArray 72)).grownBy w8 (Value.slice A q k).ownBlock)
    (hat8 : ∀ k', (Value.slice A5 (q + 1) c5).ownBlock = some k' → (Value.slice A q k).ownBlock = some k' ∨ k' = w7.heap.size + 1) : Drops w w8 c bm n (j + 1) (q + 1) L (.slice A5 (q + 1) c5) := by
  have hR7 : OwnR w w7 72 11 (.slice A q k) q ((liveL (L.take j)).flatMap Sl.cs) := hR.chg hc7 fun k hk e => map_not_own hM hR.own (by rw [← e]; exact hk)
  have hR7' := hR7.alloc (.cells (slAt L j).cs.toArray 72)
  have hm7' := hm7.alloc (.cells (slAt L j).cs.toArray 72)
  have hz := (hC.trans_same hc7).size
  refine ⟨_, (hm7'.kept hg8 (Ne.symm (map_not_own hm7' hR7'.own))).mono (by omega), hI.put hD hl (by rw [← hq]; exact dropIx_live I hj hg) (fun k h => dropIx_other hj h), hD.put _ _, ?_, ((hC.trans_same hc7).alloc _).grown hg8 fun k hk hlt => absurd (hR.lo k hk) (by omega)⟩
  rw [liveL_take_succ hj, hg]
  have e : (liveL (L.take j) ++ [slAt L j]).flatMap Sl.cs = (liveL (L.take j)).flatMap Sl.cs ++ (slAt L j).cs := by simp
  simp only [Bool.false_eq_true, if_false, e]
  exact hR7'.appended h8 hat8 (by omega)
end
set_option maxRecDepth 100000 in
set_option maxHeartbeats 8000000 in
theorem own_drop (h : OwnM w c vs bm n D L) (hn : L.length ≤ 1000) (hnn : n ≤ 100000000) :
    Calls Try.prog 42 #[.pointer (some ⟨c, 0, none⟩)] w fun e w' => e = .returned (.tuple #[]) ∧ OwnPost w w' c vs bm (n + L.length) (liveL L) := by
  obtain ⟨i60, hi60, hz60, hs60, hb60⟩ := info_parts Try.info72
  obtain ⟨A0, cap, hvs, _⟩ := own_form h.row
  subst hvs
  obtain ⟨m, hm⟩ : ∃ m, Hid (L.length = m) := ⟨_, hid rfl⟩
  have hblk : Hid (Bk w c 70 [.slice A0 m cap, .map (some bm), .int .i64 (nOf L : Int)]) := hid (by rw [← hm.out]; exact h.blk)
  have hcl := h.blk.lt
  have hrow := hid (Rd.of_own h.row)
  have hsep := hid h.sep
  have hA0 : Hid (∀ b o, A0 = some ⟨b, o, none⟩ → b ≠ bm) := hid fun b o e e2 => by
    subst e2
    have h1 := h.sep.2.1
    rcases h.row.2 with ⟨e1, _⟩ | ⟨g, cap', cur, e1, _⟩
    · rw [e] at e1; injection e1 with e1; cases e1
    · rw [e1] at h1
      rw [e] at e1
      injection e1 with e1
      injection e1 with e1
      injection e1 with e1
      subst e1
      exact h1 rfl
  have hL := hid h
  have hd0 : Hid (Drops w w c bm n 0 0 L (.slice none 0 0)) := hid ⟨D, by rw [Nat.add_zero]; exact h.mp, IxOk.same (f := lastIx L) h.ix (dropIx_zero L), h.mp.isMap, OwnR.nil w w 72 11, Chg.refl _ w⟩
  rw [hm.out] at hn
  clear h
  go_enter Try.func42, Try.ntmps42
  have c00 := hblk.out.cell 0
  simp only [List.getElem?_cons_zero] at c00
  go_wp2
  clear c00
  go_loopw [2, 10] (fun s i wr => ∃ j q : Nat, j ≤ m ∧ q ≤ j ∧ i = .int .i64 j ∧ Hid (nOf (L.take j) = q) ∧ Hid (Drops w wr c bm n j q L s)) (fun _ i _ => m - (intOf i).toNat)
  case atStart => exact ⟨0, 0, Nat.zero_le _, Nat.le_refl _, rfl, hid rfl, hd0⟩
  case round =>
    obtain ⟨j, q, hj, hq, rfl, hN, hS⟩ := hrel
    clear hd0
    by_cases hlt : j < m
    · obtain ⟨D', hM', hI', hD', hR', hC'⟩ := hS.out
      have hM := hid hM'
      have hI := hid hI'
      have hDm := hid hD'
      have hR := hid hR'
      have hC := hid hC'
      obtain ⟨A, k, rfl⟩ := hR'.form
      have hjl : Hid (j < L.length) := hid (by have := hm.out; omega)
      obtain ⟨g, o, rfl, hg, hcell⟩ := Sl.at_ (hrow.out.chg hC' (fun b o e => hA0.out b o e)) hjl.out
      obtain ⟨⟨sk, sv, sg⟩, hsl⟩ : ∃ sl, Hid (slAt L j = sl) := ⟨_, hid rfl⟩
      rw [hsl.out] at hcell
      have y0 := hcell 0 (by omega)
      have y1 := hcell 1 (by omega)
      have y2 := hcell 2 (by omega)
      have y3 := hcell 3 (by omega)
      have y4 := hcell 4 (by omega)
      have y5 := hcell 5 (by omega)
      have y6 := hcell 6 (by omega)
      have y7 := hcell 7 (by omega)
      have y8 := hcell 8 (by omega)
      have y9 := hcell 9 (by omega)
      have y10 := hcell 10 (by omega)
      simp only [Sl.cs, List.getElem?_cons_succ, List.getElem?_cons_zero, Nat.add_zero] at y0 y1 y2 y3 y4 y5 y6 y7 y8 y9 y10
      rw [← Nat.add_assoc] at y1 y2 y3 y4 y5 y6 y7 y8 y9 y10
      obtain ⟨l, hl⟩ := key_of (hL.out.wf j hjl.out)
      have hlh : Hid (keyOf Try.prog 26 (.agg #[.int .i64 sk.k, .int .i64 sk.p, .int .i64 sk.q, .string sk.s, .int .i64 sk.r]) = some l) := hid (by rw [hsl.out] at hl; exact hl)
      clear hl
      have hz := hC'.size
      have hlast := last_at hjl.out
      have hB1 : Hid (Bk (wr.alloc (.cells (Sl.cs ⟨sk, sv, sg⟩).toArray 72)) wr.heap.size 72 (Sl.cs ⟨sk, sv, sg⟩)) := hid (Bk.new wr 72 (Sl.cs ⟨sk, sv, sg⟩))
      have hc1 : Hid (wr.cell? ⟨c, 1, none⟩ = some (.map (some bm))) := hid ((hblk.out.chg hC' hsep.out.1.symm).cell 1)
      have hcl2 : c < wr.heap.size := by omega
      have hM1 := hid (hM'.alloc (.cells (Sl.cs ⟨sk, sv, sg⟩).toArray 72))
      have hSl : Hid (wr.cell? ⟨c, 1, none⟩ = some (.map (some bm)) ∧ (wr.alloc (.cells (Sl.cs ⟨sk, sv, sg⟩).toArray 72)).drew.cell? ⟨c, 1, none⟩ = some (.map (some bm)) ∧ (wr.alloc (.cells (Sl.cs ⟨sk, sv, sg⟩).toArray 72)).drew.ownsMap Try.prog 26 (plainElem Try.prog 3) bm (n + j) D' ∧ Bk ((wr.alloc (.cells (Sl.cs ⟨sk, sv, sg⟩).toArray 72)).drew) wr.heap.size 72 (Sl.cs ⟨sk, sv, sg⟩)) :=
        hid ⟨hc1.out, (((hblk.out.chg hC' hsep.out.1.symm).alloc (.cells (Sl.cs ⟨sk, sv, sg⟩).toArray 72)).cell 1), hM1.out, hB1.out⟩
      have hlast := hid hlast
      clear hM' hI' hD' hR' hC' hS hcell hM1 hB1
      cases sg with
      | true =>
        have hgh : Hid ((slAt L j).g = true) := hid (by rw [hsl.out])
        obtain ⟨i, hi⟩ : ∃ i, Hid (lastIx L (slAt L j).k = some i ∧ j ≤ i) := by
          obtain ⟨i, h1⟩ := hlast.out
          exact ⟨i, hid h1⟩
        have hdi : Hid (dropIx L j sk = some i) := hid (by have := dropIx_here hi.out.1 hi.out.2; rw [hsl.out] at this; exact this)
        obtain ⟨be, hbe⟩ : ∃ be, ((i : Int) == (j : Int)) = be := ⟨_, rfl⟩
        have hbe' : Hid (be = decide (i = j)) := hid (by rw [← hbe]; rw [Bool.eq_iff_iff]; simp only [beq_iff_eq, decide_eq_true_eq]; omega)
        go_wp2
        refine wp_region_rc (id := 5) [.rd [0, 1, 2, 3, 4, 5, 6, 7, 8]] [] [] (fun w' => w'.cell? ⟨c, 1, none⟩ = some (.map (some bm)) ∧ w'.ownsMap Try.prog 26 (plainElem Try.prog 3) bm (n + j) D' ∧ Bk w' wr.heap.size 72 (Sl.cs ⟨sk, sv, true⟩)) (by kernel_rfl) 49 rfl (by kernel_rfl) (fun _ _ _ _ _ h => h) ⟨hSl.out.2.1, hSl.out.2.2.1, hSl.out.2.2.2⟩ ?_
        refine steps_rdW ?_
        apply Exists.intro
        refine ⟨?_, ?_⟩
        focus
          rintro w' ⟨q1, hS2, hS3⟩
          have z0 : w'.cell? ⟨wr.heap.size, 0, none⟩ = some (.int .i64 sk.k) := hS3.cell 0
          have z1 : w'.cell? ⟨wr.heap.size, 1, none⟩ = some (.int .i64 sk.p) := hS3.cell 1
          have z2 : w'.cell? ⟨wr.heap.size, 2, none⟩ = some (.int .i64 sk.q) := hS3.cell 2
          have z3 : w'.cell? ⟨wr.heap.size, 3, none⟩ = some (.string sk.s) := hS3.cell 3
          have z4 : w'.cell? ⟨wr.heap.size, 4, none⟩ = some (.int .i64 sk.r) := hS3.cell 4
          have hrun := look_f hS2 hI.out hlh.out hdi.out
          clear hS2 hS3
          iterate 9 (refine stW_step rfl (fun K hK => ?_); go_simp; refine hK _ ?_; clear hK K)
          exact stW_nil rfl
        refine steps_end rfl ?_
        clear hbe
        cases be with
        | false =>
          have hij : Hid (i ≠ j) := hid (by have := hbe'.out; simpa using this)
          have fin := hid (drops_same (c := c) hM.out hI.out hDm.out hR.out hC.out hjl.out hgh.out hi.out.1 (by have := hi.out.2; have := hij.out; omega) (((Chg.refl (fun _ => False) wr).alloc (.cells (Sl.cs ⟨sk, sv, true⟩).toArray 72)).drew))
          have hN' : Hid (nOf (L.take (j + 1)) = q) := hid (by rw [nOf_take_succ hjl.out, if_pos hgh.out]; exact hN.out)
          go_wp2
          go_roundw
          case rel => exact ⟨j + 1, q, by omega, by omega, by go_num, hN', fin⟩
          case measure => simp [intOf] <;> omega
        | true =>
          have hij : Hid (i = j) := hid (by have := hbe'.out; simpa using this)
          go_wp2
          refine wp_region_rc (id := 6) [.rd [0, 1, 2, 3, 4, 5]] [6] [] (fun w' => w'.cell? ⟨c, 1, none⟩ = some (.map (some bm)) ∧ Bk w' wr.heap.size 72 (Sl.cs ⟨sk, sv, true⟩)) (by kernel_rfl) 49 rfl (by kernel_rfl) (fun _ _ _ _ _ h => h) ⟨hSl.out.2.1, hSl.out.2.2.2⟩ ?_
          refine steps_rdW ?_
          apply Exists.intro
          refine ⟨?_, ?_⟩
          focus
            rintro w' ⟨q1, hS3⟩
            have z0 : w'.cell? ⟨wr.heap.size, 0, none⟩ = some (.int .i64 sk.k) := hS3.cell 0
            have z1 : w'.cell? ⟨wr.heap.size, 1, none⟩ = some (.int .i64 sk.p) := hS3.cell 1
            have z2 : w'.cell? ⟨wr.heap.size, 2, none⟩ = some (.int .i64 sk.q) := hS3.cell 2
            have z3 : w'.cell? ⟨wr.heap.size, 3, none⟩ = some (.string sk.s) := hS3.cell 3
            have z4 : w'.cell? ⟨wr.heap.size, 4, none⟩ = some (.int .i64 sk.r) := hS3.cell 4
            clear hS3
            iterate 6 (refine stW_step rfl (fun K hK => ?_); go_simp; refine hK _ ?_; clear hK K)
            exact stW_nil rfl
          refine steps_nil (l := [⟨_, _, _, _, _, _⟩]) rfl (fun K2 hK2 => ?_)
          go_wp2_with (at_delete; refine wpList_delete_own _ rfl _ _ 68 26 rfl 3 val_law Try.underlying68 _ bm (n + j) D' rfl (hSl.out.2.2.1.drew) _ _ rfl hlh.out ?_; intro w7 hm7' ht7'; have fin := hid (drops_del (c := c) hI.out hDm.out hM.out hR.out hC.out hjl.out hgh.out (by have := hi.out.1; rw [hij.out] at this; exact this) (by rw [hsl.out]; exact hlh.out) hm7' ((((Chg.refl (fun k => k = bm) wr).alloc (.cells (Sl.cs ⟨sk, sv, true⟩).toArray 72)).drew.drew).grown ht7'.grown fun k hk _ => by injection hk with hk; exact hk.symm)); clear hm7' ht7')
          have hN' : Hid (nOf (L.take (j + 1)) = q) := hid (by rw [nOf_take_succ hjl.out, if_pos hgh.out]; exact hN.out)
          refine hK2 _ _ rfl ?_
          clear hK2 K2
          refine stI_nil ?_
          go_wp2
          go_roundw
          case rel => exact ⟨j + 1, q, by omega, by omega, by go_num, hN', fin⟩
          case measure => simp [intOf] <;> omega
      | false =>
        have hgh : Hid ((slAt L j).g = false) := hid (by rw [hsl.out])
        have hwq : Hid ((Lit.int .i64 (q : Int)).wf = true) := hid (WalkArith.wf_i64 (by omega))
        have hN' : Hid (nOf (L.take (j + 1)) = q + 1) := hid (by rw [nOf_take_succ hjl.out, hgh.out]; simp [hN.out])
        go_wp2
        refine wp_region_rc (id := 7) [.rd [0, 1, 2, 3, 4, 5, 6, 7]] [8] [] (fun w' => w'.cell? ⟨c, 1, none⟩ = some (.map (some bm)) ∧ Bk w' wr.heap.size 72 (Sl.cs ⟨sk, sv, false⟩)) (by kernel_rfl) 49 rfl (by kernel_rfl) (fun _ _ _ _ _ h => h) ⟨hSl.out.2.1, hSl.out.2.2.2⟩ ?_
        refine steps_rdW ?_
        apply Exists.intro
        refine ⟨?_, ?_⟩
        focus
          rintro w' ⟨q1, hS3⟩
          have z0 : w'.cell? ⟨wr.heap.size, 0, none⟩ = some (.int .i64 sk.k) := hS3.cell 0
          have z1 : w'.cell? ⟨wr.heap.size, 1, none⟩ = some (.int .i64 sk.p) := hS3.cell 1
          have z2 : w'.cell? ⟨wr.heap.size, 2, none⟩ = some (.int .i64 sk.q) := hS3.cell 2
          have z3 : w'.cell? ⟨wr.heap.size, 3, none⟩ = some (.string sk.s) := hS3.cell 3
          have z4 : w'.cell? ⟨wr.heap.size, 4, none⟩ = some (.int .i64 sk.r) := hS3.cell 4
          clear hS3
          iterate 8 (refine stW_step rfl (fun K hK => ?_); go_simp; refine hK _ ?_; clear hK K)
          exact stW_nil rfl
        refine steps_nil (l := [⟨_, _, _, _, _, _⟩]) rfl (fun K2 hK2 => ?_)
        go_wp2_with (at_mapUpdate; refine wpList_mapUpdate_own _ rfl _ _ _ 68 rfl 26 3 val_law Try.underlying68 _ bm (n + j) D' rfl hSl.out.2.2.1 (by unfold maxLen; omega) _ _ _ rfl rfl hlh.out _ [] (plainElem_int Try.underlying3 hwq.out) ?_; intro w7 hm7' hg7'; have hm7 := hid hm7'; have hc7 := hid (((((Chg.refl (fun k => k = bm) wr).alloc (.cells (Sl.cs ⟨sk, sv, false⟩).toArray 72)).drew).grown hg7' fun k hk _ => by injection hk with hk; exact hk.symm)); have hB7 := hid (hSl.out.2.2.2.grown hg7' (by intro e; injection e with e; exact map_not_row hSl.out.2.2.1 hSl.out.2.2.2 e.symm)); clear hm7' hg7')
        refine hK2 _ _ rfl ?_
        clear hK2 K2
        refine stI_nil ?_
        have u0 := hB7.out.cell 0
        have u1 := hB7.out.cell 1
        have u2 := hB7.out.cell 2
        have u3 := hB7.out.cell 3
        have u4 := hB7.out.cell 4
        have u5 := hB7.out.cell 5
        have u6 := hB7.out.cell 6
        have u7 := hB7.out.cell 7
        have u8 := hB7.out.cell 8
        have u9 := hB7.out.cell 9
        have u10 := hB7.out.cell 10
        simp only [Sl.cs, List.getElem?_cons_succ, List.getElem?_cons_zero] at u0 u1 u2 u3 u4 u5 u6 u7 u8 u9 u10
        have hul := hB7.out.lt
        have hR7 : Hid (OwnR w w7 72 11 (.slice A q k) q ((liveL (L.take j)).flatMap Sl.cs)) := hid (hR.out.chg hc7.out fun k hk e => map_not_own hM.out hR.out.own (by rw [← e]; exact hk))
        go_wp2_with ((with_reducible show wpList _ _ _ ((⟨some 43, _, _, _, _, _⟩ : Oper) :: _) _ _); refine wpList_append_rd (o := ⟨some 43, _, _, _, _, _⟩) rfl (.tmp 40) (.tmp 42) 67 rfl 72 i60 _ 11 104 Try.underlying67 hi60 hz60 hs60 hb60 rfl (by omega) (.slice A q k) q _ rfl (hR7.out.alloc _).own (some ⟨w7.heap.size, 0, none⟩) 1 1 (Sl.cs ⟨sk, sv, false⟩) rfl (Rd.one w7 72 11 (Sl.cs ⟨sk, sv, false⟩) rfl w7.heap.size rfl) (by have := Sl.ones [⟨sk, sv, false⟩]; simpa using this) (by unfold maxLen; omega) (by omega) (w7.heap.size + 1) (by simp) ?_; intro A5 c5 w8 hown8' hg8' hat8'; have fin := hid (drops_live (c := c) hL.out.inv hI.out hDm.out hM.out hR.out hC.out hjl.out hgh.out hN.out (by rw [hsl.out]; exact hlh.out) hm7.out hc7.out (by rw [hsl.out]; exact hown8') (by rw [hsl.out]; exact hg8') hat8'); clear hown8' hg8' hat8')
        go_roundw
        case rel => exact ⟨j + 1, q + 1, by omega, by omega, by go_num, hN', fin⟩
        case measure => simp [intOf] <;> omega
    · obtain rfl : j = m := by omega
      obtain ⟨D', hM', hI', hD', hR', hC'⟩ := hS.out
      have hb1 := hid (hblk.out.chg hC' hsep.out.1.symm)
      have k0 := hb1.out.cell 0
      have kf : wr.frozen? ⟨c, 0, none⟩ = false := hb1.out.frozen 0
      simp only [List.getElem?_cons_zero] at k0
      obtain ⟨A, k, rfl⟩ := hR'.form
      have hfin : Hid (OwnPost w (wr.setCell ⟨c, 0, none⟩ (.slice A q k)) c (.slice A0 L.length cap) bm (n + L.length) (liveL L)) := hid (by
        have hjm := hm.out
        have htk : L.take j = L := List.take_of_length_le (by omega)
        rw [htk] at hR'
        have hq : q = nOf L := by rw [← hN.out, htk]
        have hqc := hR'.own
        have e1 := hb1.out.ne_row hR'.own (by decide)
        have hc1 : Chg (fun k => k = c) wr (wr.setCell ⟨c, 0, none⟩ (.slice A q k)) := (Chg.refl (fun k => k = c) wr).setCell (p := ⟨c, 0, none⟩) (fun _ => rfl) _
        refine ⟨.slice A q k, n + j, D', ⟨?_, ?_, map_chg hM' hc1 hsep.out.1, ?_, hL.out.inv.liveL, ?_⟩, by omega, ?_, ?_⟩
        · have e2 : nOf (liveL L) = nOf L := by unfold nOf; rw [liveL_liveL]
          rw [e2]
          exact hb1.out.set_ 0 _
        · have hl2 : (liveL L).length = q := by rw [hq]; rfl
          rw [hl2]
          exact own_far hR'.own (p := ⟨c, 0, none⟩) e1 _
        · refine IxOk.same (f := dropIx L j) hI' fun k => ?_
          rw [← dropIx_end hL.out.inv, hjm]
        · intro i hi
          obtain ⟨a, a1, a2, a3, a4⟩ := liveL_all hi
          rw [a4]
          exact hL.out.wf a a1
        · exact (hC'.mono fun k _ e => .inr (.inr e)).trans hc1 fun k _ e => .inl e
        · intro k' hk
          rcases hk with hk | hk | hk
          · exact .inl (.inl hk)
          · exact .inr (hR'.lo k' hk)
          · exact .inl (.inr (.inr hk)))
      clear hM' hI' hD' hR' hC' hS hb1
      go_wp2
      go_end0
      exact ⟨rfl, hfin.out⟩
end
end Go.Proofs.Ytoelgnjnbelokaa
