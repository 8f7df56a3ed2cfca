/-
  The document's list: new, the values, push.
-/
import Derived.Test.YtpfopidmdnkkeaaWVals
namespace Go.Proofs.Ytpfopidmdnkkeaa
open Go.RowKit Go.Maps

theorem Try.info3 : (Try.prog.info? 3).map (fun i => (i.zero, i.size, i.bytes)) = some (some (.int .i64 0), 1, 8) := by kernel_rfl
section
variable {w w' : World} {c : Nat} {vr vv tv : Value} {es : List En} {fl : Option Fl}
theorem made_row (W : World) (e s : Nat) : (W.alloc (.cells #[] e)).ownsRow 0 e s (.slice (some ⟨W.heap.size, 0, none⟩) 0 0) 0 [] := by
  have := World.ownsRow_made (base := 0) (e := e) (size := s) W #[] 0 (Nat.zero_le _) (Nat.zero_le _) (by simp)
  simpa using this
theorem made_drew (W : World) (e s : Nat) {H : Nat} (hH : W.heap.size = H) : ((W.alloc (.cells #[] e)).drew).ownsRow 0 e s (.slice (some ⟨H, 0, none⟩) 0 0) 0 [] := by
  subst hH
  exact own_chg (made_row W e s) ((Chg.refl (fun _ => False) _).drew) fun _ _ h => h
theorem doc_new (w : World) : Calls Try.prog 21 #[] w fun e w' => e = .returned (.pointer (some ⟨w.heap.size, 0, none⟩)) ∧ DocL w' w.heap.size (.slice none 0 0) (.slice none 0 0) (.slice none 0 0) [] none ∧ Chg (fun _ => False) w w' := by
  go_enter Try.func21, Try.ntmps21
  go_wp2
  go_ret
  exact ⟨rfl, ⟨Bk.new_at _ 56 _ _ rfl, (OwnR.nil w _ 3 1).own, (OwnR.nil w _ 25 5).own, (OwnR.nil w _ 64 3).own⟩, (Chg.refl _ w).alloc _⟩
set_option maxRecDepth 100000 in
set_option maxHeartbeats 2000000 in
theorem doc_values (h : DocL w c vr vv tv es fl) (hn : es.length ≤ 1000) :
    Calls Try.prog 24 #[.pointer (some ⟨c, 0, none⟩)] w fun e w' => ∃ A k, e = .returned (.slice A es.length k) ∧ OwnR w w' 25 5 (.slice A es.length k) es.length ((valsOf es).flatMap V.cs) ∧ Chg (fun _ => False) w w' := by
  obtain ⟨i25, hi25, hz25, hs25, hb25⟩ := info_parts Try.info25
  obtain ⟨A0, k0, hve, _⟩ := own_form h.val
  subst hve
  have hA := hid (Rd.of_own h.val)
  have c1 : w.cell? ⟨c, 1, none⟩ = some (.slice A0 es.length k0) := h.blk.cell 1
  have hcl := h.blk.lt
  have hC0 := hid ((Chg.refl (fun _ => False) w).alloc (.cells #[] 25))
  clear h
  go_enter Try.func24, Try.ntmps24
  go_wp2_with ((with_reducible show wpList _ _ _ ((⟨some 10, _, _, _, _, _⟩ : Oper) :: _) _ _); refine wpList_append_rd (o := ⟨some 10, _, _, _, _, _⟩) rfl (.tmp 5) (.tmp 9) 38 rfl 25 i25 _ 5 48 Try.underlying38 hi25 hz25 hs25 hb25 rfl (by omega) (.slice (some ⟨w.heap.size, 0, none⟩) 0 0) 0 [] rfl (made_row w 25 5) A0 es.length k0 ((valsOf es).flatMap V.cs) rfl (hA.out.none_ hC0.out) (V.ones _) (by unfold maxLen; omega) (by omega) (w.heap.size + 1) (by simp) ?_; intro A5 c5 w5 hown5' hg5' hat5'; rw [Nat.zero_add, List.nil_append] at hown5'; rw [Nat.zero_add] at hat5'; have hown5 := hid hown5'; have hat5 := hid hat5'; have hC5 := hid ((((Chg.refl (fun k => k = w.heap.size) w).alloc (.cells #[] 25)).grown hg5' (fun k hk _ => by simpa [Value.ownBlock] using hk.symm)).mono (T := fun _ => False) (fun k hk e => by omega)); clear hown5' hg5' hat5')
  go_ret
  refine ⟨A5, c5, rfl, ⟨hown5.out, fun k hk => ?_⟩, hC5.out⟩
  rcases hat5.out k hk with e | e
  · have : w.heap.size = k := by simpa [Value.ownBlock] using e
    omega
  · omega
theorem doc_valid_eq {w : World} {v : V} {b : Bool} (hb : vok v = b) : Calls Try.prog 26 #[(.agg #[.int .i64 v.k, .int .i64 v.p, .int .i64 v.q, .string v.s, .int .i64 v.r])] w fun e w' => e = .returned (.bool b) ∧ Chg (fun _ => False) w w' := by subst hb; exact doc_valid w v
theorem Reg.at_ {w : World} {A : Option Addr} {es : List En} {cap : Nat} (h : w.ownsRow 0 3 1 (.slice A es.length cap) es.length (es.map fun e => .int .i64 e.r)) {i : Nat} (hi : i < es.length) : ∃ b, A = some ⟨b, 0, none⟩ ∧ b < w.heap.size ∧ w.cell? ⟨b, i, none⟩ = some (.int .i64 (enAt es i).r) := by
  obtain ⟨A', cap', e1, _, _, hA, hc⟩ := own_form h
  injection e1 with e1 _ e3
  subst e1; subst e3
  obtain ⟨b, rfl⟩ := hA (by omega)
  refine ⟨b, rfl, own_lt h (k := b) rfl, ?_⟩
  rw [(hc b rfl).1 i (by omega), List.getElem?_map, enAt_get es i hi]
  rfl
set_option maxRecDepth 100000 in
set_option maxHeartbeats 4000000 in
theorem doc_push_early (h : DocL w c vr vv tv es fl) (r : Int) (v : V) (hn : es.length ≤ 1000) (he : ¬ (0 ≤ r ∧ r ≤ 2147483647 ∧ vok v = true ∧ trueV v = true ∧ ¬ (0 < es.length ∧ r ≤ (lastE es).r))) :
    Calls Try.prog 34 #[.pointer (some ⟨c, 0, none⟩), .int .i64 r, (.agg #[.int .i64 v.k, .int .i64 v.p, .int .i64 v.q, .string v.s, .int .i64 v.r])] w fun e w' => e = .returned (.int .i64 (push es r v).1) ∧ Chg (fun _ => False) w w' := by
  by_cases h0 : r < 0
  · rw [show push es r v = (2, es) by unfold push; rw [if_pos (.inl h0)]]
    have d0 : decide (r < 0) = true := by simpa using h0
    clear he h0
    go_enter Try.func34, Try.ntmps34
    go_wp2
    go_ret
    exact ⟨rfl, (Chg.refl _ w).alloc _⟩
  have d0 : decide (r < 0) = false := by simpa using h0
  by_cases h1 : 2147483647 < r
  · rw [show push es r v = (2, es) by unfold push; rw [if_pos (.inr (.inl h1))]]
    have d1 : decide (2147483647 < r) = true := by simpa using h1
    clear he h0 h1
    go_enter Try.func34, Try.ntmps34
    go_wp2
    go_ret
    exact ⟨rfl, (Chg.refl _ w).alloc _⟩
  have d1 : decide (2147483647 < r) = false := by simpa using h1
  have hb0 := hid (Bk.new w 25 v.cs)
  cases hv0 : vok v
  · rw [show push es r v = (2, es) by unfold push; rw [if_pos (.inr (.inr hv0))]]
    have hv := hid hv0
    clear he h0 h1 hv0
    go_enter Try.func34, Try.ntmps34
    go_wp2_with (go_at_call 26; refine (doc_valid_eq hv.out).mono ?_; rintro e w1 ⟨rfl, hc1⟩; have hC1 := hid (((Chg.refl (fun _ => False) w).alloc _).trans_same hc1); clear hc1)
    go_ret
    exact ⟨rfl, hC1.out⟩
  have hv := hid hv0
  cases ht0 : trueV v
  · rw [show push es r v = (0, es) by unfold push; rw [if_neg (by rw [hv0]; simp; omega), if_pos ht0]]
    have ht := hid ht0
    clear he h0 h1 hv0 ht0
    go_enter Try.func34, Try.ntmps34
    go_wp2_with (first
      | (go_at_call 26; refine (doc_valid_eq hv.out).mono ?_; rintro e w1 ⟨rfl, hc1⟩; have hb1 := hid (hb0.out.none_ hc1); obtain ⟨x0, x1, x2, x3, x4⟩ := V.box hb1.out; have hC1 := hid (((Chg.refl (fun _ => False) w).alloc _).trans_same hc1); clear hc1)
      | (go_at_call 27; refine (doc_true _ v ht.out).mono ?_; rintro e w2 ⟨rfl, hc2⟩; have hC2 := hid (hC1.out.trans_same hc2); clear hc2))
    go_ret
    exact ⟨rfl, hC2.out⟩
  · have hlast : 0 < es.length ∧ r ≤ (lastE es).r := by
      rcases Classical.em (0 < es.length ∧ r ≤ (lastE es).r) with h' | h'
      · exact h'
      · exact absurd ⟨by omega, by omega, hv0, ht0, h'⟩ he
    rw [show push es r v = (16, es) by unfold push; rw [if_neg (by rw [hv0]; simp; omega), if_neg (by rw [ht0]; simp), if_pos hlast]]
    have ht := hid ht0
    obtain ⟨A, cap, hve, _⟩ := own_form h.reg
    subst hve
    obtain ⟨m, hm⟩ : ∃ m, es.length = m + 1 := ⟨es.length - 1, by omega⟩
    have hle : r ≤ (enAt es m).r := by have := hlast.2; unfold lastE at this; rw [hm, Nat.add_sub_cancel] at this; exact this
    obtain ⟨b, rfl, hbl, q0⟩ := Reg.at_ h.reg (i := m) (by omega)
    have hL := hid h
    have hm := hid hm
    generalize (enAt es m).r = x at q0 hle
    have q0 := hid q0
    have hml : m + 1 ≤ 1000 := by have := hm.out; omega
    clear he h0 h1 hv0 ht0 hlast h hn
    go_enter Try.func34, Try.ntmps34
    go_wp2_with (first
      | (go_at_call 26; refine (doc_valid_eq hv.out).mono ?_; rintro e w1 ⟨rfl, hc1⟩; have hb1 := hid (hb0.out.none_ hc1); obtain ⟨x0, x1, x2, x3, x4⟩ := V.box hb1.out; have hC1 := hid (((Chg.refl (fun _ => False) w).alloc _).trans_same hc1); clear hc1)
      | (go_at_call 27; refine (doc_true _ v ht.out).mono ?_; rintro e w2 ⟨rfl, hc2⟩; have hC2 := hid (hC1.out.trans_same hc2); have c0 : w2.cell? ⟨c, 0, none⟩ = some (.slice (some ⟨b, 0, none⟩) (m + 1) cap) := (by rw [← hm.out]; exact (hL.out.none_ hC2.out).blk.cell 0); have q1 : w2.cell? ⟨b, m, none⟩ = some (.int .i64 x) := hC2.out.of_cell q0.out hbl id; clear hc2))
    have hw1 : IntKind.i64.wrap (m : Int) = m := by rw [IntKind.wrap_i64]; omega
    have hmc : (m : Int) < (m : Int) + 1 := by omega
    (refine wp_region_rc (id := 7) [.rd [0, 1, 2, 3, 4, 5, 6, 7, 8, 9, 10, 11, 12, 13, 14, 15, 16, 17, 18, 19, 20, 21]] [] [] (fun w' => w' = _) (by kernel_rfl) 65 rfl (by kernel_rfl) (fun _ _ _ _ _ h => h) rfl ?_; refine steps_rdW ?_; apply Exists.intro; refine ⟨?_, ?_⟩; (focus (rintro w' rfl; (iterate 22 (refine stW_step rfl (fun K hK => ?_); go_simp; refine hK _ ?_; clear hK K)); exact stW_nil rfl)); refine steps_end rfl ?_)
    go_wp2
    go_ret
    exact ⟨rfl, hC2.out.drew⟩
end
end Go.Proofs.Ytpfopidmdnkkeaa
