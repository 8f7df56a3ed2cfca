/-
  The document's Get and Len; Keys of both.
-/
import Derived.Test.YtoelgnjnbelokaaWGet
namespace Go.Proofs.Ytoelgnjnbelokaa
open Go.RowKit Go.Maps

theorem Try.info26 : (Try.prog.info? 26).map (fun i => (i.zero, i.size, i.bytes)) = some (some (.agg #[.int .i64 0, .int .i64 0, .int .i64 0, .string ⟨#[]⟩, .int .i64 0]), 5, 48) := by kernel_rfl
theorem load_val {W : World} {b : Nat} {x : V} (hB : Bk W b 26 x.cs) : (loadVar 26 ⟨b, 0, none⟩).run Try.prog W = .ok (.agg #[.int .i64 x.k, .int .i64 x.p, .int .i64 x.q, .string x.s, .int .i64 x.r]) W := by
  obtain ⟨h0, h1, h2, h3, h4⟩ := V.box hB
  simp [go_sem, h0, h1, h2, h3, h4]
/-- A value in an own block handed back. -/
theorem ret_val {fn : Func} {t : Nat} {R : Ending → World → Prop} {a : Act} {W : World} {b : Nat} {x : V} (hres : fn.results = #[.cell t 26]) (ht : a.tmps.getD t undef = .pointer (some ⟨b, 0, none⟩)) (hd : a.defers = [])
    (hB : Bk W b 26 x.cs) (hR : R (.returned (.agg #[.int .i64 x.k, .int .i64 x.p, .int .i64 x.q, .string x.s, .int .i64 x.r])) W) : bodyPost Try.prog fn R .ret a W := by
  refine bodyPost_ret (v := (.agg #[.int .i64 x.k, .int .i64 x.p, .int .i64 x.q, .string x.s, .int .i64 x.r])) ?_ hd hR
  have h := load_val hB
  have ht' : a.tmps[t]?.getD undef = .pointer (some ⟨b, 0, none⟩) := by simpa using ht
  unfold results
  rw [hres]
  simp [ht', asAddr, h]
theorem put5_bk {w : World} {b : Nat} {x y : V} (h : Bk w b 26 x.cs) : Bk (put5 w b 0 y) b 26 y.cs := ((((h.set_ 0 _).set_ 1 _).set_ 2 _).set_ 3 _).set_ 4 _
section
variable {w w' : World} {c bm n : Nat} {vs : Value} {D : DataW Unit} {L : List Sl}
theorem doc_get_nil (w : World) (k : V) : Calls Try.prog 53 #[.pointer none, (.agg #[.int .i64 k.k, .int .i64 k.p, .int .i64 k.q, .string k.s, .int .i64 k.r])] w fun e w' => e = .returned (.agg #[.int .i64 V.zero.k, .int .i64 V.zero.p, .int .i64 V.zero.q, .string V.zero.s, .int .i64 V.zero.r]) ∧ Chg (fun _ => False) w w' := by
  go_enter Try.func53, Try.ntmps53
  go_wp2
  exact bodyPost_ret (v := (.agg #[.int .i64 V.zero.k, .int .i64 V.zero.p, .int .i64 V.zero.q, .string V.zero.s, .int .i64 V.zero.r])) (by simp [results, Try.results53, go_sem, V.zero]) rfl ⟨rfl, ((Chg.refl _ w).alloc _).alloc _⟩
theorem getM_none {L : List Sl} {k : V} (h : lastIx L k = none) : getM L k = V.zero := by unfold getM; rw [h]
theorem getM_some {L : List Sl} {k : V} {i : Nat} (h : lastIx L k = some i) : getM L k = (slAt L i).v := by unfold getM; rw [h]
set_option maxRecDepth 100000 in
set_option maxHeartbeats 4000000 in
theorem doc_get (h : DocM w c vs L) (hn : L.length ≤ 1000000) (k : V) {x : V} (hx : getM L k = x) :
    Calls Try.prog 53 #[.pointer (some ⟨c, 0, none⟩), (.agg #[.int .i64 k.k, .int .i64 k.p, .int .i64 k.q, .string k.s, .int .i64 k.r])] w fun e w' => e = .returned (.agg #[.int .i64 x.k, .int .i64 x.p, .int .i64 x.q, .string x.s, .int .i64 x.r]) ∧ Chg (fun _ => False) w w' := by
  subst hx
  obtain ⟨A, cap, hvs, _⟩ := own_form h.row
  subst hvs
  have hcl := h.blk.lt
  have hH0 := hid (h.none_ (((Chg.refl (fun _ => False) w).alloc (.cells k.cs.toArray 26)).alloc (.cells V.zero.cs.toArray 26)))
  have hC0 := hid (((Chg.refl (fun _ => False) w).alloc (.cells k.cs.toArray 26)).alloc (.cells V.zero.cs.toArray 26))
  have hZ0 := hid (Bk.new_at (w.alloc (.cells k.cs.toArray 26)) 26 V.zero.cs.toArray (w.heap.size + 1) (by simp))
  obtain ⟨m, hm⟩ : ∃ m, Hid (L.length = m) := ⟨_, hid rfl⟩
  have hrow := hid (Rd.of_own h.row)
  have hblk : Hid (Bk w c 82 [.slice A m cap]) := hid (by rw [← hm.out]; exact h.blk)
  have hinv := hid h.inv
  clear h
  cases hi : lastIx L k with
  | none =>
    have hf : Hid (findI L k = -1) := hid (by unfold findI; rw [hi])
    rw [getM_none hi]
    clear hi
    go_enter Try.func53, Try.ntmps53
    go_wp2_with fail
    refine (doc_find hH0.out hn k hf.out).mono ?_
    rintro e w3 ⟨rfl, hc3⟩
    have hZ3 := hid (hZ0.out.none_ hc3)
    have hC3 := hid (hC0.out.trans_same hc3)
    obtain ⟨z0, z1, z2, z3, z4⟩ := V.box hZ3.out
    simp only [V.zero] at z0 z1 z2 z3 z4
    have hlz := hZ3.out.lt
    have hfz := fun j => hZ3.out.frozen j
    clear hc3
    go_wp2
    refine ret_val (t := 4) (b := w.heap.size + 1) (x := V.zero) rfl rfl rfl (put5_bk (y := V.zero) hZ3.out) ⟨rfl, ?_⟩
    exact hC3.out.trans (put5_chg _ (w.heap.size + 1) 0 V.zero) fun j hj e => by omega
  | some i =>
    have hf : Hid (findI L k = (i : Int)) := hid (by unfold findI; rw [hi])
    rw [getM_some hi]
    have hil : i < m := by have := (lastIx_some hi).1; have := hm.out; omega
    have hil2 : (i : Int) < (m : Int) := by omega
    obtain ⟨x1, hx1⟩ : ∃ x1, Hid ((slAt L i).v = x1) := ⟨_, hid rfl⟩
    rw [hx1.out]
    obtain ⟨bg, hbg⟩ : ∃ bg, Hid ((slAt L i).g = bg) := ⟨_, hid rfl⟩
    have hz : Hid (bg = true → x1 = V.zero) := hid fun e => by rw [← hx1.out]; exact hinv.out.gone i (by have := hm.out; omega) (by rw [hbg.out]; exact e)
    clear hi
    go_enter Try.func53, Try.ntmps53
    go_wp2_with fail
    refine (doc_find hH0.out hn k hf.out).mono ?_
    rintro e w3 ⟨rfl, hc3⟩
    have hZ3 := hid (hZ0.out.none_ hc3)
    have hC3 := hid (hC0.out.trans_same hc3)
    obtain ⟨g, o, rfl, hg, hcell⟩ := Sl.at_ (hrow.out.none_ hC3.out) (i := i) (by have := hm.out; omega)
    have c0 : w3.cell? ⟨c, 0, none⟩ = some (.slice (some ⟨g, o, none⟩) m cap) := (hblk.out.none_ hC3.out).cell 0
    have y5 := hcell 5 (by omega)
    have y6 := hcell 6 (by omega)
    have y7 := hcell 7 (by omega)
    have y8 := hcell 8 (by omega)
    have y9 := hcell 9 (by omega)
    have y10 := hcell 10 (by omega)
    simp only [Sl.cs, List.getElem?_cons_succ, List.getElem?_cons_zero] at y5 y6 y7 y8 y9 y10
    rw [← Nat.add_assoc] at y5 y6 y7 y8 y9 y10
    rw [hx1.out] at y5 y6 y7 y8 y9
    rw [hbg.out] at y10
    obtain ⟨z0, z1, z2, z3, z4⟩ := V.box hZ3.out
    simp only [V.zero] at z0 z1 z2 z3 z4
    have hlz := hZ3.out.lt
    have hfz := fun j => hZ3.out.frozen j
    clear hc3 hcell
    cases bg with
    | true =>
      go_wp2
      refine ret_val (t := 4) (b := w.heap.size + 1) (x := V.zero) rfl rfl rfl (put5_bk (y := V.zero) hZ3.out) ⟨by rw [hz.out (by trivial)], ?_⟩
      exact hC3.out.trans (put5_chg _ (w.heap.size + 1) 0 V.zero) fun j hj e => by omega
    | false =>
      go_wp2
      refine ret_val (t := 4) (b := w.heap.size + 1) (x := x1) rfl rfl rfl (put5_bk (y := x1) hZ3.out) ⟨rfl, ?_⟩
      exact hC3.out.trans (put5_chg _ (w.heap.size + 1) 0 x1) fun j hj e => by omega
/-! ### Len of the document -/
set_option maxHeartbeats 2000000 in
theorem doc_len (h : DocM w c vs L) (hn : L.length ≤ 1000000) {x : Nat} (hx : nOf L = x) :
    Calls Try.prog 60 #[.pointer (some ⟨c, 0, none⟩)] w fun e w' => e = .returned (.int .i64 x) ∧ w = w' := by
  obtain ⟨A, cap, hvs, _⟩ := own_form h.row
  subst hvs
  obtain ⟨m, hm⟩ : ∃ m, Hid (L.length = m) := ⟨_, hid rfl⟩
  have c0 : w.cell? ⟨c, 0, none⟩ = some (.slice A m cap) := by rw [← hm.out]; exact h.blk.cell 0
  have hrow := hid (Rd.of_own h.row)
  have hxh := hid hx
  rw [hm.out] at hn
  clear h hx
  go_enter Try.func60, Try.ntmps60
  go_wp2
  go_loop [3, 4] (fun t i => ∃ j q : Nat, j ≤ m ∧ q ≤ j ∧ i = .int .i64 j ∧ t = .int .i64 q ∧ Hid (nOf (L.take j) = q)) (fun _ i => m - (intOf i).toNat)
  case atStart => exact ⟨0, 0, Nat.zero_le _, Nat.le_refl _, rfl, rfl, hid rfl⟩
  case round =>
    obtain ⟨j, q, hj, hq, rfl, rfl, hN⟩ := hrel
    by_cases hlt : j < m
    · obtain ⟨g, o, rfl, hg, hcell⟩ := Sl.at_ hrow.out (i := j) (by have := hm.out; omega)
      have y10 := hcell 10 (by omega)
      simp only [Sl.cs, List.getElem?_cons_succ, List.getElem?_cons_zero] at y10
      rw [← Nat.add_assoc] at y10
      have htk := nOf_take_succ (L := L) (j := j) (by have := hm.out; omega)
      cases hgone : (slAt L j).g with
      | true =>
        rw [hgone] at y10 htk
        have hN' : Hid (nOf (L.take (j + 1)) = q) := hid (by rw [htk]; exact hN.out)
        clear htk hgone hcell
        go_wp2
        go_round
        case rel => exact ⟨j + 1, q, by omega, by omega, by go_num, rfl, hN'⟩
        case measure => simp [intOf] <;> omega
      | false =>
        rw [hgone] at y10 htk
        have hN' : Hid (nOf (L.take (j + 1)) = q + 1) := hid (by rw [htk]; simp [hN.out])
        clear htk hgone hcell
        go_wp2
        go_round
        case rel => exact ⟨j + 1, q + 1, by omega, by omega, by go_num, by go_num, hN'⟩
        case measure => simp [intOf] <;> omega
    · obtain rfl : j = m := by omega
      have hq' : Hid (q = x) := hid (by rw [← hN.out, List.take_of_length_le (by have := hm.out; omega)]; exact hxh.out)
      go_wp2
      go_ret
      exact ⟨by rw [← hq'.out]; rfl, rfl⟩
/-! ### Keys -/
theorem keys_take_succ {L : List Sl} {j : Nat} (h : j < L.length) : keysM (L.take (j + 1)) = if (slAt L j).g then keysM (L.take j) else keysM (L.take j) ++ [(slAt L j).k] := by
  unfold keysM
  rw [liveL_take_succ h]
  split <;> simp
/-- A key more. -/
theorem keys_more {w0 wr w5 : World} {rs : List V} {q k k' : Nat} {A A5 : Option Addr} {x : V} {H : Nat} (hS : OwnR w0 wr 26 5 (.slice A q k) q (rs.flatMap V.cs)) (hC : Chg (fun _ => False) w0 wr) (he : Chg (fun _ => False) wr w')
    (hown : w5.ownsRow 0 26 5 (.slice A5 (q + 1) k') (q + 1) (rs.flatMap V.cs ++ x.cs)) (hg : w'.grownBy w5 (Value.slice A q k).ownBlock)
    (hat : ∀ m, (Value.slice A5 (q + 1) k').ownBlock = some m → (Value.slice A q k).ownBlock = some m ∨ m = H) (hH : w0.heap.size ≤ H) :
    OwnR w0 w5 26 5 (.slice A5 (q + 1) k') (q + 1) ((rs ++ [x]).flatMap V.cs) ∧ Chg (fun _ => False) w0 w5 := by
  have hS2 := hS.none_ he
  refine ⟨?_, hS2.grown (hC.trans_same he) hg⟩
  rw [List.flatMap_append]
  refine hS2.appended ?_ hat hH
  simpa using hown
theorem own_keys_nil (w : World) : Calls Try.prog 41 #[.pointer none] w fun e w' => e = .returned (.slice none 0 0) ∧ w = w' := by
  go_enter Try.func41, Try.ntmps41
  go_wp2
  go_ret
  exact ⟨rfl, rfl⟩
set_option maxRecDepth 100000 in
set_option maxHeartbeats 4000000 in
theorem own_keys (h : OwnM w c vs bm n D L) (hn : L.length ≤ 1000) {x : Nat} (hx : nOf L = x) :
    Calls Try.prog 41 #[.pointer (some ⟨c, 0, none⟩)] w fun e w' => ∃ A k, e = .returned (.slice A x k) ∧ OwnR w w' 26 5 (.slice A x k) x ((keysM L).flatMap V.cs) ∧ Chg (fun _ => False) w w' := by
  obtain ⟨i28, hi28, hz28, hs28, hb28⟩ := info_parts Try.info26
  obtain ⟨A0, cap, hvs, _⟩ := own_form h.row
  subst hvs
  obtain ⟨m, hm⟩ : ∃ m, Hid (L.length = m) := ⟨_, hid rfl⟩
  have c0 : w.cell? ⟨c, 0, none⟩ = some (.slice A0 m cap) := by rw [← hm.out]; exact h.blk.cell 0
  have hcl := h.blk.lt
  have hrow := hid (Rd.of_own h.row)
  have hxh := hid hx
  rw [hm.out] at hn
  clear h hx
  go_enter Try.func41, Try.ntmps41
  go_wp2
  go_loopw [3, 13] (fun s i wr => ∃ j q : Nat, j ≤ m ∧ q ≤ j ∧ i = .int .i64 j ∧ Hid (nOf (L.take j) = q) ∧ Hid (OwnR w wr 26 5 s q ((keysM (L.take j)).flatMap V.cs) ∧ Chg (fun _ => False) w wr)) (fun _ i _ => m - (intOf i).toNat)
  case atStart => exact ⟨0, 0, Nat.zero_le _, Nat.le_refl _, rfl, hid rfl, hid ⟨OwnR.nil w w 26 5, Chg.refl _ w⟩⟩
  case round =>
    obtain ⟨j, q, hj, hq, rfl, hN, hS⟩ := hrel
    obtain ⟨A, k, rfl⟩ := hS.out.1.form
    by_cases hlt : j < m
    · obtain ⟨g, o, rfl, hg, hcell⟩ := Sl.at_ (hrow.out.none_ hS.out.2) (i := j) (by have := hm.out; omega)
      have y0 := hcell 0 (by omega)
      have y1 := hcell 1 (by omega)
      have y2 := hcell 2 (by omega)
      have y3 := hcell 3 (by omega)
      have y4 := hcell 4 (by omega)
      have y5 := hcell 5 (by omega)
      have y6 := hcell 6 (by omega)
      have y7 := hcell 7 (by omega)
      have y8 := hcell 8 (by omega)
      have y9 := hcell 9 (by omega)
      have y10 := hcell 10 (by omega)
      simp only [Sl.cs, List.getElem?_cons_succ, List.getElem?_cons_zero, Nat.add_zero] at y0 y1 y2 y3 y4 y5 y6 y7 y8 y9 y10
      rw [← Nat.add_assoc] at y1 y2 y3 y4 y5 y6 y7 y8 y9 y10
      have htk := nOf_take_succ (L := L) (j := j) (by have := hm.out; omega)
      have hkt := keys_take_succ (L := L) (j := j) (by have := hm.out; omega)
      cases hgone : (slAt L j).g with
      | true =>
        rw [hgone] at y10 htk hkt
        have hN' : Hid (nOf (L.take (j + 1)) = q) := hid (by rw [htk]; exact hN.out)
        have hS' : Hid (OwnR w _ 26 5 (.slice A q k) q ((keysM (L.take (j + 1))).flatMap V.cs) ∧ Chg (fun _ => False) w _) := hid (by rw [hkt]; exact hS.out)
        clear htk hgone hcell hkt
        go_wp2
        go_roundw
        case rel => exact ⟨j + 1, q, by omega, by omega, by go_num, hN', hid ⟨hS'.out.1.alloc _, hS'.out.2.alloc _⟩⟩
        case measure => simp [intOf] <;> omega
      | false =>
        rw [hgone] at y10 htk hkt
        have hN' : Hid (nOf (L.take (j + 1)) = q + 1) := hid (by rw [htk]; simp [hN.out])
        obtain ⟨x1, hx1⟩ : ∃ x1, Hid ((slAt L j).k = x1) := ⟨_, hid rfl⟩
        have hkt' : Hid (keysM (L.take (j + 1)) = keysM (L.take j) ++ [x1]) := hid (by rw [hkt, hx1.out]; rfl)
        rw [hx1.out] at y0 y1 y2 y3 y4
        obtain ⟨x2, hx2⟩ : ∃ x2, Hid ((slAt L j).v = x2) := ⟨_, hid rfl⟩
        rw [hx2.out] at y5 y6 y7 y8 y9
        have hz := hS.out.2.size
        clear htk hgone hcell hkt
        go_wp2_with ((with_reducible show wpList _ _ _ ((⟨some 24, _, _, _, _, _⟩ : Oper) :: _) _ _); refine wpList_append_rd (o := ⟨some 24, _, _, _, _, _⟩) rfl (.tmp 20) (.tmp 23) 52 rfl 26 i28 _ 5 48 Try.underlying52 hi28 hz28 hs28 hb28 rfl (by omega) (.slice A q k) q _ rfl ((hS.out.1.alloc _).alloc _).own (some ⟨wr.heap.size + 1, 0, none⟩) 1 1 x1.cs rfl (Rd.one (wr.alloc (.cells (Sl.cs ⟨x1, x2, false⟩).toArray 72)) 26 5 x1.cs rfl (wr.heap.size + 1) (by simp)) (V.ones1 x1) (by unfold maxLen; omega) (by omega) (wr.heap.size + 2) (by simp) ?_; intro A5 c5 w5 hown5' hg5' hat5'; have fin := hid (keys_more hS.out.1 hS.out.2 (((Chg.refl (fun _ => False) _).alloc _).alloc _) hown5' hg5' hat5' (by omega)); clear hown5' hg5' hat5')
        go_roundw
        case rel => exact ⟨j + 1, q + 1, by omega, by omega, by go_num, hN', hid (by rw [hkt'.out]; exact fin.out)⟩
        case measure => simp [intOf] <;> omega
    · obtain rfl : j = m := by omega
      have hq' : Hid (q = x) := hid (by rw [← hN.out, List.take_of_length_le (by have := hm.out; omega)]; exact hxh.out)
      have hkl : Hid (keysM (L.take j) = keysM L) := hid (by rw [List.take_of_length_le (by have := hm.out; omega)])
      go_wp2
      go_ret
      refine ⟨A, k, by rw [← hq'.out]; rfl, ?_, hS.out.2⟩
      rw [← hq'.out, ← hkl.out]
      exact hS.out.1
set_option maxRecDepth 100000 in
set_option maxHeartbeats 4000000 in
theorem doc_keys (h : DocM w c vs L) (hn : L.length ≤ 1000) {x : Nat} (hx : nOf L = x) :
    Calls Try.prog 62 #[.pointer (some ⟨c, 0, none⟩)] w fun e w' => ∃ A k, e = .returned (.slice A x k) ∧ OwnR w w' 26 5 (.slice A x k) x ((keysM L).flatMap V.cs) ∧ Chg (fun _ => False) w w' := by
  obtain ⟨i28, hi28, hz28, hs28, hb28⟩ := info_parts Try.info26
  obtain ⟨A0, cap, hvs, _⟩ := own_form h.row
  subst hvs
  obtain ⟨m, hm⟩ : ∃ m, Hid (L.length = m) := ⟨_, hid rfl⟩
  have hblk : Hid (Bk w c 82 [.slice A0 m cap]) := hid (by rw [← hm.out]; exact h.blk)
  have hcl := h.blk.lt
  have hrow := hid (Rd.of_own h.row)
  have hxh := hid hx
  rw [hm.out] at hn
  clear h hx
  go_enter Try.func62, Try.ntmps62
  go_wp2
  go_loopw [3, 4] (fun s i wr => ∃ j q : Nat, j ≤ m ∧ q ≤ j ∧ i = .int .i64 j ∧ Hid (nOf (L.take j) = q) ∧ Hid (OwnR w wr 26 5 s q ((keysM (L.take j)).flatMap V.cs) ∧ Chg (fun _ => False) w wr)) (fun _ i _ => m - (intOf i).toNat)
  case atStart => exact ⟨0, 0, Nat.zero_le _, Nat.le_refl _, rfl, hid rfl, hid ⟨OwnR.nil w w 26 5, Chg.refl _ w⟩⟩
  case round =>
    obtain ⟨j, q, hj, hq, rfl, hN, hS⟩ := hrel
    obtain ⟨A, k, rfl⟩ := hS.out.1.form
    have c0 := (hblk.out.none_ hS.out.2).cell 0
    simp only [List.getElem?_cons_zero] at c0
    by_cases hlt : j < m
    · obtain ⟨g, o, rfl, hg, hcell⟩ := Sl.at_ (hrow.out.none_ hS.out.2) (i := j) (by have := hm.out; omega)
      have y0 := hcell 0 (by omega)
      have y1 := hcell 1 (by omega)
      have y2 := hcell 2 (by omega)
      have y3 := hcell 3 (by omega)
      have y4 := hcell 4 (by omega)
      have y10 := hcell 10 (by omega)
      simp only [Sl.cs, List.getElem?_cons_succ, List.getElem?_cons_zero, Nat.add_zero] at y0 y1 y2 y3 y4 y10
      rw [← Nat.add_assoc] at y1 y2 y3 y4 y10
      have htk := nOf_take_succ (L := L) (j := j) (by have := hm.out; omega)
      have hkt := keys_take_succ (L := L) (j := j) (by have := hm.out; omega)
      cases hgone : (slAt L j).g with
      | true =>
        rw [hgone] at y10 htk hkt
        have hN' : Hid (nOf (L.take (j + 1)) = q) := hid (by rw [htk]; exact hN.out)
        have hS' : Hid (OwnR w _ 26 5 (.slice A q k) q ((keysM (L.take (j + 1))).flatMap V.cs) ∧ Chg (fun _ => False) w _) := hid (by rw [hkt]; exact hS.out)
        clear htk hgone hcell hkt
        go_wp2
        go_roundw
        case rel => exact ⟨j + 1, q, by omega, by omega, by go_num, hN', hS'⟩
        case measure => simp [intOf] <;> omega
      | false =>
        rw [hgone] at y10 htk hkt
        have hN' : Hid (nOf (L.take (j + 1)) = q + 1) := hid (by rw [htk]; simp [hN.out])
        obtain ⟨x1, hx1⟩ : ∃ x1, Hid ((slAt L j).k = x1) := ⟨_, hid rfl⟩
        have hkt' : Hid (keysM (L.take (j + 1)) = keysM (L.take j) ++ [x1]) := hid (by rw [hkt, hx1.out]; rfl)
        rw [hx1.out] at y0 y1 y2 y3 y4
        have hz := hS.out.2.size
        clear htk hgone hcell hkt
        go_wp2_with ((with_reducible show wpList _ _ _ ((⟨some 36, _, _, _, _, _⟩ : Oper) :: _) _ _); refine wpList_append_rd (o := ⟨some 36, _, _, _, _, _⟩) rfl (.tmp 26) (.tmp 35) 52 rfl 26 i28 _ 5 48 Try.underlying52 hi28 hz28 hs28 hb28 rfl (by omega) (.slice A q k) q _ rfl (hS.out.1.alloc _).own (some ⟨wr.heap.size, 0, none⟩) 1 1 x1.cs rfl (Rd.one wr 26 5 x1.cs rfl wr.heap.size rfl) (V.ones1 x1) (by unfold maxLen; omega) (by omega) (wr.heap.size + 1) (by simp) ?_; intro A5 c5 w5 hown5' hg5' hat5'; have fin := hid (keys_more hS.out.1 hS.out.2 ((Chg.refl (fun _ => False) _).alloc _) hown5' hg5' hat5' (by omega)); clear hown5' hg5' hat5')
        go_roundw
        case rel => exact ⟨j + 1, q + 1, by omega, by omega, by go_num, hN', hid (by rw [hkt'.out]; exact fin.out)⟩
        case measure => simp [intOf] <;> omega
    · obtain rfl : j = m := by omega
      have hq' : Hid (q = x) := hid (by rw [← hN.out, List.take_of_length_le (by have := hm.out; omega)]; exact hxh.out)
      have hkl : Hid (keysM (L.take j) = keysM L) := hid (by rw [List.take_of_length_le (by have := hm.out; omega)])
      go_wp2
      go_ret
      refine ⟨A, k, by rw [← hq'.out]; rfl, ?_, hS.out.2⟩
      rw [← hq'.out, ← hkl.out]
      exact hS.out.1
end
end Go.Proofs.Ytoelgnjnbelokaa
