/-
  The program's list: the values, the arguments of closing, a new list.
-/
import Derived.Test.YtpfopidmdnkkeaaWFail
namespace Go.Proofs.Ytpfopidmdnkkeaa
open Go.RowKit Go.Maps

section
variable {w w' : World} {c bm n : Nat} {ve vf tv : Value} {D : DataW Unit} {es : List En} {fl : Option Fl}
theorem upTo_vals (es : List En) : upTo (fun i => (enAt es i).v) es.length = valsOf es := by
  unfold upTo valsOf
  apply List.ext_getElem?
  intro i
  rw [List.getElem?_map, List.getElem?_map]
  by_cases hi : i < es.length
  · rw [List.getElem?_range hi, enAt_get es i hi]; rfl
  · rw [List.getElem?_eq_none (by simp; omega), List.getElem?_eq_none (by omega)]; rfl
theorem En.at_ {w : World} {A : Option Addr} {es : List En} (h : Rd w 6 A es.length (es.flatMap En.cs)) {i : Nat} (hi : i < es.length) :
    ∃ b o, A = some ⟨b, o, none⟩ ∧ b < w.heap.size ∧ w.cell? ⟨b, o + i * 6, none⟩ = some (.int .i64 (enAt es i).r) ∧ w.cell? ⟨b, o + i * 6 + 1, none⟩ = some (.int .i64 (enAt es i).v.k) ∧ w.cell? ⟨b, o + i * 6 + 2, none⟩ = some (.int .i64 (enAt es i).v.p) ∧
      w.cell? ⟨b, o + i * 6 + 3, none⟩ = some (.int .i64 (enAt es i).v.q) ∧ w.cell? ⟨b, o + i * 6 + 4, none⟩ = some (.string (enAt es i).v.s) ∧ w.cell? ⟨b, o + i * 6 + 5, none⟩ = some (.int .i64 (enAt es i).v.r) := by
  obtain ⟨b, o, e, hb, hc⟩ := h.2 (by omega)
  have g : ∀ j, j < 6 → w.cell? ⟨b, o + (i * 6 + j), none⟩ = (enAt es i).cs[j]? := fun j hj => by
    rw [hc _ (by omega), flat_at _ 6 En.cs_len _ _ _ hj, enAt_get _ _ hi]; rfl
  exact ⟨b, o, e, hb, g 0 (by omega), g 1 (by omega), g 2 (by omega), g 3 (by omega), g 4 (by omega), g 5 (by omega)⟩
/-- A value of the list more. -/
theorem vals_more {w0 wr w5 : World} {es : List En} {j k k' : Nat} {A A5 : Option Addr} {x : En} (hS : OwnR w0 wr 25 5 (.slice A j k) j ((upTo (fun i => (enAt es i).v) j).flatMap V.cs)) (hC : Chg (fun _ => False) w0 wr) (hx : enAt es j = x)
    (hown : w5.ownsRow 0 25 5 (.slice A5 (j + 1) k') (j + 1) ((upTo (fun i => (enAt es i).v) j).flatMap V.cs ++ x.v.cs)) (hg : ((wr.alloc (.cells x.cs.toArray 73)).alloc (.cells x.v.cs.toArray 25)).grownBy w5 (Value.slice A j k).ownBlock)
    (hat : ∀ m, (Value.slice A5 (j + 1) k').ownBlock = some m → (Value.slice A j k).ownBlock = some m ∨ m = wr.heap.size + 2) :
    OwnR w0 w5 25 5 (.slice A5 (j + 1) k') (j + 1) ((upTo (fun i => (enAt es i).v) (j + 1)).flatMap V.cs) ∧ Chg (fun _ => False) w0 w5 := by
  subst hx
  have e : Chg (fun _ => False) wr ((wr.alloc (.cells (enAt es j).cs.toArray 73)).alloc (.cells (enAt es j).v.cs.toArray 25)) := ((Chg.refl _ wr).alloc _).alloc _
  have hS2 := hS.none_ e
  have hz := hC.size
  refine ⟨?_, hS2.grown (hC.trans_same e) hg⟩
  rw [upTo_succ]
  exact hS2.appended hown hat (by omega)
set_option maxRecDepth 100000 in
set_option maxHeartbeats 4000000 in
theorem own_values (h : OwnL w c ve bm vf tv n D es fl) (hn : es.length ≤ 1000) :
    Calls Try.prog 15 #[.pointer (some ⟨c, 0, none⟩)] w fun e w' => ∃ A k, e = .returned (.slice A es.length k) ∧ OwnR w w' 25 5 (.slice A es.length k) es.length ((valsOf es).flatMap V.cs) ∧ Chg (fun _ => False) w w' := by
  obtain ⟨i25, hi25, hz25, hs25, hb25⟩ := info_parts Try.info25
  obtain ⟨A0, k0, hve, _⟩ := own_form h.ent
  subst hve
  have hA := hid (Rd.of_own h.ent)
  have c0 : w.cell? ⟨c, 0, none⟩ = some (.slice A0 es.length k0) := h.blk.cell 0
  have hcl := h.blk.lt
  have hup := hid (upTo_vals es)
  clear h
  go_enter Try.func15, Try.ntmps15
  go_wp2
  go_loopw [3, 14] (fun s i wr => ∃ j : Nat, j ≤ es.length ∧ i = .int .i64 j ∧ Hid (OwnR w wr 25 5 s j ((upTo (fun i => (enAt es i).v) j).flatMap V.cs) ∧ Chg (fun _ => False) w wr)) (fun _ i _ => es.length - (intOf i).toNat)
  case atStart => exact ⟨0, Nat.zero_le _, rfl, hid ⟨OwnR.nil w w 25 5, Chg.refl _ w⟩⟩
  case round =>
    obtain ⟨j, hj, rfl, hS⟩ := hrel
    obtain ⟨A, k, rfl⟩ := hS.out.1.form
    by_cases hlt : j < es.length
    · obtain ⟨b, o, rfl, hb, x0, x1, x2, x3, x4, x5⟩ := En.at_ (hA.out.none_ hS.out.2) hlt
      obtain ⟨x, hx⟩ : ∃ x, Hid (enAt es j = x) := ⟨_, hid rfl⟩
      rw [hx.out] at x0 x1 x2 x3 x4 x5
      go_wp2_with ((with_reducible show wpList _ _ _ ((⟨some 22, _, _, _, _, _⟩ : Oper) :: _) _ _); refine wpList_append_rd (o := ⟨some 22, _, _, _, _, _⟩) rfl (.tmp 18) (.tmp 21) 38 rfl 25 i25 _ 5 48 Try.underlying38 hi25 hz25 hs25 hb25 rfl (by omega) (.slice A j k) j _ rfl ((hS.out.1.alloc _).alloc _).own (some ⟨wr.heap.size + 1, 0, none⟩) 1 1 x.v.cs rfl (Rd.one (wr.alloc (.cells x.cs.toArray 73)) 25 5 x.v.cs rfl (wr.heap.size + 1) (by simp)) (V.ones1 x.v) (by unfold maxLen; omega) (by omega) (wr.heap.size + 2) (by simp) ?_; intro A5 c5 w5 hown5' hg5' hat5'; have fin := hid (vals_more hS.out.1 hS.out.2 hx.out hown5' hg5' hat5'); clear hown5' hg5' hat5')
      go_roundw
      case rel => exact ⟨j + 1, by omega, by go_num, fin⟩
      case measure => simp [intOf]; omega
    · obtain rfl : j = es.length := by omega
      go_wp2
      go_ret
      exact ⟨A, k, rfl, by rw [← hup.out]; exact hS.out.1, hS.out.2⟩
theorem own_values_nil (w : World) : Calls Try.prog 15 #[.pointer none] w fun e w' => e = .returned (.slice none 0 0) ∧ w = w' := by
  go_enter Try.func15, Try.ntmps15
  go_wp2
  go_ret
  exact ⟨rfl, rfl⟩
theorem own_len_nil (w : World) : Calls Try.prog 14 #[.pointer none] w fun e w' => e = .returned (.int .i64 0) ∧ w = w' := by
  go_enter Try.func14, Try.ntmps14
  go_wp2
  go_ret
  exact ⟨rfl, rfl⟩
theorem own_args_nil (w : World) (v : V) : Calls Try.prog 16 #[.pointer none, (.agg #[.int .i64 v.k, .int .i64 v.p, .int .i64 v.q, .string v.s, .int .i64 v.r])] w fun e w' => e = .returned (.slice none 0 0) ∧ Chg (fun _ => False) w w' := by
  go_enter Try.func16, Try.ntmps16
  go_wp2
  go_ret
  exact ⟨rfl, (Chg.refl _ w).alloc _⟩
/-- Two values laid as a row. -/
theorem two_row (w0 w : World) (v x : V) {H : Nat} (hH : w.heap.size = H) (hz : w0.heap.size ≤ H) : OwnR w0 (w.alloc (.cells #[.int .i64 v.k, .int .i64 v.p, .int .i64 v.q, .string v.s, .int .i64 v.r, .int .i64 x.k, .int .i64 x.p, .int .i64 x.q, .string x.s, .int .i64 x.r] 25)) 25 5 (.slice (some ⟨H, 0, none⟩) 2 2) 2 ([v, x].flatMap V.cs) := by
  subst hH
  exact ⟨Bk.own (Bk.new w 25 [.int .i64 v.k, .int .i64 v.p, .int .i64 v.q, .string v.s, .int .i64 v.r, .int .i64 x.k, .int .i64 x.p, .int .i64 x.q, .string x.s, .int .i64 x.r]) (Nat.le_refl _) (by unfold maxLen; omega) rfl rfl, fun k hk => by
    simp [Value.ownBlock] at hk
    omega⟩
set_option maxRecDepth 100000 in
set_option maxHeartbeats 4000000 in
theorem own_args (h : OwnL w c ve bm vf tv n D es fl) (v : V) {x : V} (hx : failV fl = x) :
    Calls Try.prog 16 #[.pointer (some ⟨c, 0, none⟩), (.agg #[.int .i64 v.k, .int .i64 v.p, .int .i64 v.q, .string v.s, .int .i64 v.r])] w fun e w' => ∃ A k, e = .returned (.slice A 2 k) ∧ OwnR w w' 25 5 (.slice A 2 k) 2 ([v, x].flatMap V.cs) ∧ Chg (fun _ => False) w w' := by
  obtain ⟨A0, k0, htv, hrd⟩ := h.fa.form
  obtain ⟨b, hb⟩ : ∃ b, Hid (fl.isSome = b) := ⟨_, hid rfl⟩
  subst htv
  have hx := hid hx
  have hb0 := hid (Bk.new w 25 v.cs)
  have hL0 := hid (h.none_ ((Chg.refl (fun _ => False) w).alloc (.cells v.cs.toArray 25)))
  have hcl := h.blk.lt
  have c2 : w.cell? ⟨c, 2, none⟩ = some vf := h.blk.cell 2
  generalize (fl.getD Fl.zero).tr.length = m at hL0
  clear h hrd
  go_enter Try.func16, Try.ntmps16
  go_wp2_with (go_at_call 31; refine (own_last_fail hL0.out.fa hx.out hb.out).mono ?_; rintro e w3 ⟨rfl, hc3⟩; obtain ⟨x0, x1, x2, x3, x4⟩ := V.box (hb0.out.none_ hc3); have hlx := (hb0.out.none_ hc3).lt; have hC3 := hid (((Chg.refl (fun _ => False) w).alloc (.cells v.cs.toArray 25)).trans_same hc3); clear hc3)
  go_ret
  have hz := hC3.out.size
  exact ⟨_, _, rfl, two_row w (w3.alloc (.cells #[.int .i64 x.k, .int .i64 x.p, .int .i64 x.q, .string x.s, .int .i64 x.r, .slice A0 m k0] 30)) v x (by simp) (by omega), (hC3.out.alloc _).alloc _⟩
/-- The program's new list. -/
theorem own_new (w : World) : Calls Try.prog 17 #[] w fun e w' => ∃ o bm, e = .returned (.pointer (some ⟨o, 0, none⟩)) ∧ OwnL w' o (.slice none 0 0) bm (.slice none 0 0) (.slice none 0 0) 0 (.map []) [] none ∧ w.heap.size ≤ o ∧ w.heap.size ≤ bm ∧ Chg (fun _ => False) w w' := by
  have hmm := @run_makeMap Try.prog
  go_enter Try.func17, Try.ntmps17
  go_wp2
  go_ret
  refine ⟨_, w.heap.size, rfl, ⟨?_, (OwnR.nil w _ 73 6).own, ?_, fun i hi => absurd hi (by simp), Up.nil, ⟨rfl, rfl⟩⟩, ?_, Nat.le_refl _, ((Chg.refl _ w).alloc _).alloc _⟩
  rotate_left
  · exact (World.ownsMap_made w Try.prog 3 (plainElem Try.prog 3)).alloc _
  · exact Nat.le_succ _
  · exact Bk.new_at _ 71 _ _ (by simp)
theorem own_new_one (w : World) : Calls Try.prog 17 #[] w fun e w' => ∃ o, e = .returned (.pointer (some ⟨o, 0, none⟩)) ∧ One w' (fun _ => False) w.heap.size o 0 [] none ∧ Chg (fun _ => False) w w' :=
  (own_new w).mono fun e w' ⟨o, bm, h1, h2, h3, h4, h5⟩ => ⟨o, h1, ⟨_, _, _, _, _, _, h2, fun k hk => .inr (by
    rcases hk with hk | hk | hk | hk | hk
    · omega
    · simp [Value.ownBlock] at hk
    · omega
    · simp [Value.ownBlock] at hk
    · simp [Value.ownBlock] at hk), Nat.le_refl _⟩, h5⟩
end
end Go.Proofs.Ytpfopidmdnkkeaa
