/-
  Get of both; the document's find.
-/
import Derived.Test.YtoelgnjnbelokaaWSmall
namespace Go.Proofs.Ytoelgnjnbelokaa
open Go.RowKit Go.Maps

section
variable {w w' : World} {c bm n : Nat} {vs : Value} {D : DataW Unit} {L : List Sl}
theorem map_chg {S : Nat → Prop} {w w' : World} {b n : Nat} {D : DataW Unit} (h : w.ownsMap Try.prog 26 (plainElem Try.prog 3) b n D) (hc : Chg S w w') (hn : ¬ S b) : w'.ownsMap Try.prog 26 (plainElem Try.prog 3) b n D := by
  obtain ⟨e, cl, he, h2⟩ := h
  exact ⟨e, cl, (hc.block b (Array.getElem?_eq_some_iff.1 he).1 hn).trans he, h2⟩
theorem map_not_row {w : World} {b n : Nat} {D : DataW Unit} {g : Nat} {t : TypeId} {cs : List Value} (h : w.ownsMap Try.prog 26 (plainElem Try.prog 3) b n D) (hb : Bk w g t cs) : b ≠ g := by
  obtain ⟨e, cl, he, _⟩ := h
  rintro rfl
  unfold Bk at hb
  rw [he] at hb
  cases hb
theorem map_not_own {w : World} {b n base : Nat} {D : DataW Unit} {e : TypeId} {size m : Nat} {v : Value} {xs : List Value} (h : w.ownsMap Try.prog 26 (plainElem Try.prog 3) b n D) (hr : w.ownsRow base e size v m xs) : v.ownBlock ≠ some b := by
  rcases hr.2 with ⟨rfl, _⟩ | ⟨g, cap, cur, rfl, _, hh, _⟩
  · simp [Value.ownBlock]
  · intro hk
    obtain rfl : g = b := by simpa [Value.ownBlock] using hk
    obtain ⟨e, cl, he, _⟩ := h
    rw [he] at hh
    cases hh
theorem OwnM.chg {S : Nat → Prop} (h : OwnM w c vs bm n D L) (hc : Chg S w w') (hn : ∀ k, ownF c vs bm k → ¬ S k) : OwnM w' c vs bm n D L :=
  ⟨h.blk.chg hc (hn _ (.inl rfl)), own_chg h.row hc fun k hk => hn k (.inr (.inl hk)), map_chg h.mp hc (hn _ (.inr (.inr rfl))), h.ix, h.inv, h.wf⟩
theorem OwnM.none_ (h : OwnM w c vs bm n D L) (hc : Chg (fun _ => False) w w') : OwnM w' c vs bm n D L := h.chg hc fun _ _ h => h
theorem DocM.chg {S : Nat → Prop} (h : DocM w c vs L) (hc : Chg S w w') (hn : ∀ k, docF c vs k → ¬ S k) : DocM w' c vs L :=
  ⟨h.blk.chg hc (hn _ (.inl rfl)), own_chg h.row hc fun k hk => hn k (.inr hk), h.inv⟩
theorem DocM.none_ (h : DocM w c vs L) (hc : Chg (fun _ => False) w w') : DocM w' c vs L := h.chg hc fun _ _ h => h
theorem zero3 (w : World) : (zeroValue 3).run Try.prog w = .ok (.int .i64 0) w := by kernel_rfl
/-- The place of a key's last slot, as the map has it. -/
def ixI (L : List Sl) (k : V) : Int := match lastIx L k with
  | some i => i
  | none => 0
theorem at_ix {D : DataW Unit} (hix : AtOk D L) {k : V} {l : Lit} (hk : keyOf Try.prog 26 (.agg #[.int .i64 k.k, .int .i64 k.p, .int .i64 k.q, .string k.s, .int .i64 k.r]) = some l) : D.atKey l (.lit (.int .i64 0)) = .lit (.int .i64 (ixI L k)) := by
  obtain ⟨h1, h2⟩ := hix k l hk
  unfold ixI
  cases e : lastIx L k with
  | some i => exact h2 i e
  | none =>
    rw [e] at h1
    exact atKey_of_not_has h1 _
theorem look_ok_run (hm : w.ownsMap Try.prog 26 (plainElem Try.prog 3) bm n D) (hix : AtOk D L) {k : V} {l : Lit} (hk : keyOf Try.prog 26 (.agg #[.int .i64 k.k, .int .i64 k.p, .int .i64 k.q, .string k.s, .int .i64 k.r]) = some l) {x : Int} {b : Bool} (hx : ixI L k = x) (hb : (lastIx L k).isSome = b) :
    (Instr.lookup 68 (.map (some bm)) (.agg #[.int .i64 k.k, .int .i64 k.p, .int .i64 k.q, .string k.s, .int .i64 k.r]) true).run Try.prog w = .ok (.tuple #[.int .i64 x, .bool b]) w := by
  obtain ⟨v, ps, hrun, hv⟩ := hm.look_ok val_law Try.underlying68 (zero3 w) (plainElem_int Try.underlying3 (a := 0) (by decide)) hk
  obtain ⟨c, rfl, hc, _⟩ := plainElem_int_inv Try.underlying3 hv
  rw [at_ix hix hk, hx] at hc
  rw [hrun, (hix k l hk).1, hb]
  simp at hc
  rw [hc.1]
theorem look_run (hm : w.ownsMap Try.prog 26 (plainElem Try.prog 3) bm n D) (hix : AtOk D L) {k : V} {l : Lit} (hk : keyOf Try.prog 26 (.agg #[.int .i64 k.k, .int .i64 k.p, .int .i64 k.q, .string k.s, .int .i64 k.r]) = some l) {x : Int} (hx : ixI L k = x) :
    (Instr.lookup 68 (.map (some bm)) (.agg #[.int .i64 k.k, .int .i64 k.p, .int .i64 k.q, .string k.s, .int .i64 k.r]) false).run Try.prog w = .ok (.int .i64 x) w := by
  obtain ⟨y, hrun, hat, _⟩ := hm.lookup_int val_law Try.underlying68 Try.underlying3 (zero3 w) hk
  rw [at_ix hix hk, hx] at hat
  rw [hrun]
  simp at hat
  rw [hat]
set_option maxRecDepth 100000 in
set_option maxHeartbeats 4000000 in
theorem own_get (h : OwnM w c vs bm n D L) {k : V} (hk : k.wf) {x : V} (hx : getM L k = x) :
    Calls Try.prog 30 #[.pointer (some ⟨c, 0, none⟩), (.agg #[.int .i64 k.k, .int .i64 k.p, .int .i64 k.q, .string k.s, .int .i64 k.r])] w fun e w' => e = .returned (.agg #[.int .i64 x.k, .int .i64 x.p, .int .i64 x.q, .string x.s, .int .i64 x.r]) ∧ Chg (fun _ => False) w w' := by
  subst hx
  obtain ⟨l, hl⟩ := key_of hk
  have hl := hid hl
  obtain ⟨A, cap, hvs, _⟩ := own_form h.row
  subst hvs
  have hcl := h.blk.lt
  have hL0 : Hid (OwnM (((w.alloc (.cells k.cs.toArray 26)).alloc (.cells V.zero.cs.toArray 26)).drew) c (.slice A L.length cap) bm n D L) := hid (h.none_ ((((Chg.refl _ w).alloc _).alloc _).drew))
  have hb0 : Hid (Bk (((w.alloc (.cells k.cs.toArray 26)).alloc (.cells V.zero.cs.toArray 26)).drew) w.heap.size 26 k.cs) := hid ((Bk.new w 26 k.cs).alloc _)
  have hix := hid h.ix
  obtain ⟨y, hy⟩ : ∃ y, Hid (ixI L k = y) := ⟨_, hid rfl⟩
  obtain ⟨b, hb⟩ : ∃ b, Hid ((lastIx L k).isSome = b) := ⟨_, hid rfl⟩
  obtain ⟨m, hm⟩ : ∃ m, Hid (L.length = m) := ⟨_, hid rfl⟩
  have c0 : w.cell? ⟨c, 0, none⟩ = some (.slice A m cap) := by rw [← hm.out]; exact h.blk.cell 0
  have hslot := fun i (hi : i < L.length) => Sl.at_ (Rd.of_own h.row) hi
  have hslot := hid hslot
  have hx : Hid (getM L k = match lastIx L k with | some i => (slAt L i).v | none => V.zero) := hid rfl
  cases hi : lastIx L k with
  | none =>
    rw [hi] at hx hb
    obtain rfl : false = b := hb.out
    have hb' : Hid ((lastIx L k).isSome = false) := hid (by rw [hi]; rfl)
    rw [hx.out]
    clear hi hx hb hslot h
    go_enter Try.func30, Try.ntmps30
    go_wp2
    refine wp_region_rc (id := 3) [.rd [0, 1, 2, 3, 4, 5, 6, 7, 8, 9, 10]] [] [] (fun w' => w'.cell? ⟨c, 1, none⟩ = some (.map (some bm)) ∧ w'.ownsMap Try.prog 26 (plainElem Try.prog 3) bm n D ∧ Bk w' w.heap.size 26 k.cs) (by kernel_rfl) 30 rfl (by kernel_rfl) (fun _ _ _ _ _ h => h) ⟨hL0.out.blk.cell 1, hL0.out.mp, hb0.out⟩ ?_
    refine steps_rdW ?_
    apply Exists.intro
    refine ⟨?_, ?_⟩
    focus
      rintro w' ⟨q1, hS2, hS3⟩
      obtain ⟨z0, z1, z2, z3, z4⟩ := V.box hS3
      have hrun := look_ok_run hS2 hix.out hl.out hy.out hb'.out
      clear hS2 hS3
      iterate 11 (refine stW_step rfl (fun K hK => ?_); go_simp; refine hK _ ?_; clear hK K)
      exact stW_nil rfl
    refine steps_end rfl ?_
    go_wp2
    exact bodyPost_ret (v := (.agg #[.int .i64 V.zero.k, .int .i64 V.zero.p, .int .i64 V.zero.q, .string V.zero.s, .int .i64 V.zero.r])) (by simp [results, Try.results30, go_sem, V.zero]) rfl ⟨rfl, (((Chg.refl _ w).alloc _).alloc _).drew⟩
  | some i =>
    rw [hi] at hx hb
    obtain rfl : true = b := hb.out
    have hb' : Hid ((lastIx L k).isSome = true) := hid (by rw [hi]; rfl)
    have hy' : Hid (ixI L k = (i : Int)) := hid (by unfold ixI; rw [hi])
    have hxv : getM L k = (slAt L i).v := by unfold getM; rw [hi]
    rw [hxv]
    have hil := (lastIx_some hi).1
    obtain ⟨g, o, rfl, hg, hcell⟩ := hslot.out i hil
    have y5 : w.cell? ⟨g, o + (i * 11 + 5), none⟩ = some (.int .i64 (slAt L i).v.k) := hcell 5 (by omega)
    have y6 : w.cell? ⟨g, o + (i * 11 + 6), none⟩ = some (.int .i64 (slAt L i).v.p) := hcell 6 (by omega)
    have y7 : w.cell? ⟨g, o + (i * 11 + 7), none⟩ = some (.int .i64 (slAt L i).v.q) := hcell 7 (by omega)
    have y8 : w.cell? ⟨g, o + (i * 11 + 8), none⟩ = some (.string (slAt L i).v.s) := hcell 8 (by omega)
    have y9 : w.cell? ⟨g, o + (i * 11 + 9), none⟩ = some (.int .i64 (slAt L i).v.r) := hcell 9 (by omega)
    rw [← Nat.add_assoc] at y5 y6 y7 y8 y9
    have him : i < m := by have := hm.out; omega
    have him2 : (i : Int) < (m : Int) := by omega
    generalize (slAt L i).v = x at y5 y6 y7 y8 y9
    clear hi hx hb hslot hcell h hy y hil hxv
    go_enter Try.func30, Try.ntmps30
    go_wp2
    refine wp_region_rc (id := 3) [.rd [0, 1, 2, 3, 4, 5, 6, 7, 8, 9, 10]] [] [] (fun w' => w'.cell? ⟨c, 1, none⟩ = some (.map (some bm)) ∧ w'.ownsMap Try.prog 26 (plainElem Try.prog 3) bm n D ∧ Bk w' w.heap.size 26 k.cs) (by kernel_rfl) 30 rfl (by kernel_rfl) (fun _ _ _ _ _ h => h) ⟨hL0.out.blk.cell 1, hL0.out.mp, hb0.out⟩ ?_
    refine steps_rdW ?_
    apply Exists.intro
    refine ⟨?_, ?_⟩
    focus
      rintro w' ⟨q1, hS2, hS3⟩
      obtain ⟨z0, z1, z2, z3, z4⟩ := V.box hS3
      have hrun := look_ok_run hS2 hix.out hl.out hy'.out hb'.out
      clear hS2 hS3
      iterate 11 (refine stW_step rfl (fun K hK => ?_); go_simp; refine hK _ ?_; clear hK K)
      exact stW_nil rfl
    refine steps_end rfl ?_
    go_wp2
    exact bodyPost_ret (v := (.agg #[.int .i64 x.k, .int .i64 x.p, .int .i64 x.q, .string x.s, .int .i64 x.r])) (by simp [results, Try.results30, go_sem]) rfl ⟨rfl, (((Chg.refl _ w).alloc _).alloc _).drew⟩
theorem own_get_nil (w : World) (k : V) : Calls Try.prog 30 #[.pointer none, (.agg #[.int .i64 k.k, .int .i64 k.p, .int .i64 k.q, .string k.s, .int .i64 k.r])] w fun e w' => e = .returned (.agg #[.int .i64 V.zero.k, .int .i64 V.zero.p, .int .i64 V.zero.q, .string V.zero.s, .int .i64 V.zero.r]) ∧ Chg (fun _ => False) w w' := by
  go_enter Try.func30, Try.ntmps30
  go_wp2
  exact bodyPost_ret (v := (.agg #[.int .i64 V.zero.k, .int .i64 V.zero.p, .int .i64 V.zero.q, .string V.zero.s, .int .i64 V.zero.r])) (by simp [results, Try.results30, go_sem, V.zero]) rfl ⟨rfl, ((Chg.refl _ w).alloc _).alloc _⟩
/-! ### The document's find -/
def findI (L : List Sl) (k : V) : Int := match lastIx L k with
  | some i => i
  | none => -1
theorem take_last {L : List Sl} {j : Nat} (hj : j < L.length) (k : V) : findI (L.take (j + 1)) k = if (slAt L j).k = k then (j : Int) else findI (L.take j) k := by
  unfold findI
  rw [take_succ_sl L j hj]
  have hl : (L.take j).length = j := by rw [List.length_take]; omega
  by_cases h : (slAt L j).k = k
  · rw [if_pos h]
    have : lastIx (L.take j ++ [slAt L j]) k = some j := lastIx_of (by simp [hl]) (by have := slAt_app_eq (L := L.take j) (x := slAt L j); rw [hl] at this; rw [this]; exact h) fun m hm hml => by
      rw [List.length_append, hl, List.length_singleton] at hml
      omega
    rw [this]
  · rw [if_neg h, lastIx_app_ne h]
set_option maxRecDepth 100000 in
set_option maxHeartbeats 4000000 in
theorem doc_find (h : DocM w c vs L) (hn : L.length ≤ 1000000) (k : V) {x : Int} (hx : findI L k = x) :
    Calls Try.prog 59 #[.pointer (some ⟨c, 0, none⟩), (.agg #[.int .i64 k.k, .int .i64 k.p, .int .i64 k.q, .string k.s, .int .i64 k.r])] w fun e w' => e = .returned (.int .i64 x) ∧ Chg (fun _ => False) w w' := by
  subst hx
  obtain ⟨A, cap, hvs, _⟩ := own_form h.row
  subst hvs
  have hcl := h.blk.lt
  have hrow := hid (Rd.of_own h.row)
  have hB := hid h.blk
  have hinv := hid h.inv
  have hx0 := hid (Bk.new w 26 k.cs)
  obtain ⟨m, hm⟩ : ∃ m, Hid (L.length = m) := ⟨_, hid rfl⟩
  rw [hm.out] at hB hn
  clear h
  go_enter Try.func59, Try.ntmps59
  go_wp2
  go_loopw [5, 6] (fun t i wr => ∃ j : Nat, j ≤ m ∧ i = .int .i64 j ∧ t = .int .i64 (findI (L.take j) k) ∧ Hid (∀ i, i < j → (slAt L i).k = k → (slAt L i).g = true) ∧ Hid (Chg (fun _ => False) w wr) ∧ Hid (Bk wr w.heap.size 26 k.cs)) (fun _ i _ => m - (intOf i).toNat)
  case atStart => exact ⟨0, Nat.zero_le _, rfl, rfl, hid fun i hi => absurd hi (by omega), hid ((Chg.refl _ w).alloc _), hid hx0.out⟩
  case round =>
    obtain ⟨j, hj, rfl, rfl, hG, hC, hX⟩ := hrel
    have c0 := (hB.out.none_ hC.out).cell 0
    simp only [List.getElem?_cons_zero] at c0
    by_cases hlt : j < m
    · obtain ⟨g, o, rfl, hg, hcell⟩ := Sl.at_ (hrow.out.none_ hC.out) (i := j) (by have := hm.out; omega)
      have y0 := hcell 0 (by omega)
      have y1 := hcell 1 (by omega)
      have y2 := hcell 2 (by omega)
      have y3 := hcell 3 (by omega)
      have y4 := hcell 4 (by omega)
      have y10 := hcell 10 (by omega)
      simp only [Sl.cs, List.getElem?_cons_succ, List.getElem?_cons_zero, Nat.add_zero] at y0 y1 y2 y3 y4 y10
      rw [← Nat.add_assoc] at y1 y2 y3 y4 y10
      obtain ⟨x0, x1, x2, x3, x4⟩ := V.box hX.out
      have hxl := hX.out.lt
      have htk := hid (take_last (L := L) (j := j) (by have := hm.out; omega) k)
      have hjl : (j : Int) < (m : Int) := by omega
      by_cases heq : (slAt L j).k = k
      · have hf : Hid (findI (L.take (j + 1)) k = (j : Int)) := hid (by rw [htk.out, if_pos heq])
        rw [heq] at y0 y1 y2 y3 y4
        cases hgone : (slAt L j).g with
        | false =>
          rw [hgone] at y10
          have hres : Hid (findI L k = (j : Int)) := hid (by
            have := (there_of hinv.out (i := j) (by have := hm.out; omega) hgone).1
            rw [heq] at this
            unfold findI
            rw [this])
          clear heq hgone hcell htk
          go_wp2
          (refine wp_region_rc (id := 5) [.rd [0, 1, 2, 3, 4, 5, 6, 7, 8, 9]] [] [] (fun w' => w' = _) (by kernel_rfl) 38 rfl (by kernel_rfl) (fun _ _ _ _ _ h => h) rfl ?_; refine steps_rdW ?_; apply Exists.intro; refine ⟨?_, ?_⟩; (focus (rintro w' rfl; (iterate 10 (refine stW_step rfl (fun K hK => ?_); go_simp; refine hK _ ?_; clear hK K)); exact stW_nil rfl)); refine steps_end rfl ?_)
          go_wp2
          go_ret
          exact ⟨by rw [hres.out]; rfl, hC.out.drew⟩
        | true =>
          rw [hgone] at y10
          have hG' : Hid (∀ i, i < j + 1 → (slAt L i).k = k → (slAt L i).g = true) := hid fun i hi e => by
            by_cases h2 : i = j
            · subst h2; exact hgone
            · exact hG.out i (by omega) e
          clear heq hgone hcell htk
          go_wp2
          (refine wp_region_rc (id := 5) [.rd [0, 1, 2, 3, 4, 5, 6, 7, 8, 9]] [] [] (fun w' => w' = _) (by kernel_rfl) 38 rfl (by kernel_rfl) (fun _ _ _ _ _ h => h) rfl ?_; refine steps_rdW ?_; apply Exists.intro; refine ⟨?_, ?_⟩; (focus (rintro w' rfl; (iterate 10 (refine stW_step rfl (fun K hK => ?_); go_simp; refine hK _ ?_; clear hK K)); exact stW_nil rfl)); refine steps_end rfl ?_)
          go_wp2
          go_roundw
          case rel => exact ⟨j + 1, by omega, by go_num, by rw [hf.out], hG', hid hC.out.drew, hid hX.out.drew⟩
          case measure => simp [intOf] <;> omega
      · have hf : Hid (findI (L.take (j + 1)) k = findI (L.take j) k) := hid (by rw [htk.out, if_neg heq])
        have hG' : Hid (∀ i, i < j + 1 → (slAt L i).k = k → (slAt L i).g = true) := hid fun i hi e => by
          by_cases h2 : i = j
          · subst h2; exact absurd e heq
          · exact hG.out i (by omega) e
        have hcs := V.ne_cases heq
        clear heq hcell htk
        generalize (slAt L j).k = a at y0 y1 y2 y3 y4 hcs
        have hout := hid (show Chg (fun _ => False) w _ ∧ Bk _ w.heap.size 26 k.cs from ⟨hC.out.drew, hX.out.drew⟩)
        obtain ⟨ak, ap, aq, as_, ar⟩ := a
        obtain ⟨kk, kp, kq, ks, kr⟩ := k
        simp only at x0 x1 x2 x3 x4 y0 y1 y2 y3 y4 hcs
        rcases hcs with h | ⟨rfl, h⟩ | ⟨rfl, rfl, h⟩ | ⟨rfl, rfl, rfl, h⟩ | ⟨rfl, rfl, rfl, rfl, h⟩
        case' inr.inr.inr.inl => have h := bytes_ne h
        all_goals
          go_wp2
          (refine wp_region_rc (id := 5) [.rd [0, 1, 2, 3, 4, 5, 6, 7, 8, 9]] [] [] (fun w' => w' = _) (by kernel_rfl) 38 rfl (by kernel_rfl) (fun _ _ _ _ _ h => h) rfl ?_; refine steps_rdW ?_; apply Exists.intro; refine ⟨?_, ?_⟩; (focus (rintro w' rfl; (iterate 10 (refine stW_step rfl (fun K hK => ?_); go_simp; refine hK _ ?_; clear hK K)); exact stW_nil rfl)); refine steps_end rfl ?_)
          go_wp2
          go_roundw
          case rel => exact ⟨j + 1, by omega, by go_num, by rw [hf.out], hG', hid hout.out.1, hid hout.out.2⟩
          case measure => simp [intOf] <;> omega
    · obtain rfl : j = m := by omega
      have htake : Hid (findI (L.take j) k = findI L k) := hid (by rw [List.take_of_length_le (by have := hm.out; omega)])
      go_wp2
      go_ret
      exact ⟨by rw [← htake.out]; rfl, hC.out⟩
end
end Go.Proofs.Ytoelgnjnbelokaa
