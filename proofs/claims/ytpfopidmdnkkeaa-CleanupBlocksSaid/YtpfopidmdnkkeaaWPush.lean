/-
  Push of the program.
-/
import Derived.Test.YtpfopidmdnkkeaaWSmall
namespace Go.Proofs.Ytpfopidmdnkkeaa
open Go.RowKit Go.Maps

theorem Try.info73 : (Try.prog.info? 73).map (fun i => (i.zero, i.size, i.bytes)) = some (some (.agg #[.int .i64 0, .int .i64 0, .int .i64 0, .int .i64 0, .string ⟨#[]⟩, .int .i64 0]), 6, 56) := by kernel_rfl

/-- What a call on the program's list c leaves. -/
def OwnPost (w w' : World) (c : Nat) (ve : Value) (bm : Nat) (vf tv : Value) (n : Nat) (es' : List En) (fl' : Option Fl) : Prop :=
  ∃ ve' vf' tv' n' D', OwnL w' c ve' bm vf' tv' n' D' es' fl' ∧ n' ≤ n + 1 ∧ Chg (ownF c ve bm vf tv) w w' ∧ ∀ k, ownF c ve' bm vf' tv' k → ownF c ve bm vf tv k ∨ w.heap.size ≤ k
section
variable {w w' : World} {c bm n : Nat} {ve vf tv : Value} {D : DataW Unit} {es : List En} {fl : Option Fl}
theorem map_not_row {w : World} {b n : Nat} {D : DataW Unit} {g : Nat} {t : TypeId} {cs : List Value} (h : w.ownsMap Try.prog 3 (plainElem Try.prog 3) b n D) (hb : Bk w g t cs) : b ≠ g := by
  obtain ⟨e, cl, he, _⟩ := h
  rintro rfl
  unfold Bk at hb
  rw [he] at hb
  cases hb
theorem map_not_own {w : World} {b n base : Nat} {D : DataW Unit} {e : TypeId} {size m : Nat} {v : Value} {xs : List Value} (h : w.ownsMap Try.prog 3 (plainElem Try.prog 3) b n D) (hr : w.ownsRow base e size v m xs) : v.ownBlock ≠ some b := by
  rcases hr.2 with ⟨rfl, _⟩ | ⟨g, cap, cur, rfl, _, hh, _⟩
  · simp [Value.ownBlock]
  · intro hk
    obtain rfl : g = b := by simpa [Value.ownBlock] using hk
    obtain ⟨e, cl, he, _⟩ := h
    rw [he] at hh
    cases hh
theorem map_chg {S : Nat → Prop} {w w' : World} {b n : Nat} {D : DataW Unit} (h : w.ownsMap Try.prog 3 (plainElem Try.prog 3) b n D) (hc : Chg S w w') (hn : ¬ S b) : w'.ownsMap Try.prog 3 (plainElem Try.prog 3) b n D := by
  obtain ⟨e, cl, he, h2⟩ := h
  exact ⟨e, cl, (hc.block b (Array.getElem?_eq_some_iff.1 he).1 hn).trans he, h2⟩
theorem FaRep.chg {S : Nat → Prop} (h : FaRep w vf tv fl) (hc : Chg S w w') (h1 : ∀ k, vf.ownBlock = some k → ¬ S k) (h2 : ∀ k, tv.ownBlock = some k → ¬ S k) : FaRep w' vf tv fl := by
  cases fl with
  | none => exact h
  | some f =>
    obtain ⟨bf, rfl, hb, ho⟩ := h
    exact ⟨bf, rfl, hb.chg hc (h1 bf rfl), own_chg ho hc h2⟩
theorem OwnL.chg {S : Nat → Prop} (h : OwnL w c ve bm vf tv n D es fl) (hc : Chg S w w') (hn : ∀ k, ownF c ve bm vf tv k → ¬ S k) : OwnL w' c ve bm vf tv n D es fl :=
  ⟨h.blk.chg hc (hn _ (.inl rfl)), own_chg h.ent hc fun k hk => hn k (.inr (.inl hk)), map_chg h.mp hc (hn _ (.inr (.inr (.inl rfl)))), h.ix, h.up, h.fa.chg hc (fun k hk => hn k (.inr (.inr (.inr (.inl hk))))) fun k hk => hn k (.inr (.inr (.inr (.inr hk))))⟩
theorem OwnL.none_ (h : OwnL w c ve bm vf tv n D es fl) (hc : Chg (fun _ => False) w w') : OwnL w' c ve bm vf tv n D es fl := h.chg hc fun _ _ h => h
theorem OwnPost.same (h : OwnL w c ve bm vf tv n D es fl) (hc : Chg (fun _ => False) w w') : OwnPost w w' c ve bm vf tv n es fl :=
  ⟨ve, vf, tv, n, D, h.none_ hc, Nat.le_succ _, hc.mono fun _ _ h => h.elim, fun _ h => .inl h⟩
theorem own_push_nil (w : World) (r : Int) (v : V) : Calls Try.prog 13 #[.pointer none, .int .i64 r, (.agg #[.int .i64 v.k, .int .i64 v.p, .int .i64 v.q, .string v.s, .int .i64 v.r])] w fun e w' => e = .returned (.int .i64 1) ∧ Chg (fun _ => False) w w' := by
  go_enter Try.func13, Try.ntmps13
  go_wp2
  go_ret
  exact ⟨rfl, (Chg.refl _ w).alloc _⟩
theorem val_valid_eq {w : World} {v : V} {b : Bool} (hb : vok v = b) : Calls Try.prog 32 #[(.agg #[.int .i64 v.k, .int .i64 v.p, .int .i64 v.q, .string v.s, .int .i64 v.r])] w fun e w' => e = .returned (.bool b) ∧ Chg (fun _ => False) w w' := by subst hb; exact val_valid w v
theorem last_entry_eq {w : World} {A : Option Addr} {m : Nat} {es : List En} {k : Nat} {x : En} {b : Bool} (hx : lastE es = x) (hb : decide (0 < es.length) = b) (hm : es.length = m) (h : Rd w 6 A es.length (es.flatMap En.cs)) (hn : es.length ≤ 1000) :
    Calls Try.prog 30 #[.slice A m k] w fun e w' => e = .returned (.tuple #[.agg #[.int .i64 x.r, .int .i64 x.v.k, .int .i64 x.v.p, .int .i64 x.v.q, .string x.v.s, .int .i64 x.v.r], .bool b]) ∧ Chg (fun _ => False) w w' := by subst hx; subst hb; subst hm; exact last_entry w A es k h hn
theorem push_early {es : List En} {r : Int} {v : V} (he : ¬ (0 ≤ r ∧ r ≤ 2147483647 ∧ vok v = true ∧ trueV v = true ∧ ¬ (0 < es.length ∧ r ≤ (lastE es).r))) : (push es r v).2 = es := by
  unfold push
  split
  · rfl
  · rename_i h1
    split
    · rfl
    · rename_i h2
      split
      · rfl
      · rename_i h3
        exact absurd ⟨by omega, by omega, by cases h : vok v <;> simp_all, by cases h : trueV v <;> simp_all, h3⟩ he
theorem push_main {es : List En} {r : Int} {v : V} (h0 : 0 ≤ r) (h1 : r ≤ 2147483647) (hv : vok v = true) (ht : trueV v = true) (hl : ¬ (0 < es.length ∧ r ≤ (lastE es).r)) : push es r v = (0, es ++ [⟨r, v⟩]) := by
  unfold push
  rw [if_neg (by rw [hv]; simp; omega), if_neg (by rw [ht]; simp), if_neg hl]
set_option maxRecDepth 100000 in
set_option maxHeartbeats 4000000 in
theorem own_push_early (h : OwnL w c ve bm vf tv n D es fl) (r : Int) (v : V) (hn : es.length ≤ 1000) (he : ¬ (0 ≤ r ∧ r ≤ 2147483647 ∧ vok v = true ∧ trueV v = true ∧ ¬ (0 < es.length ∧ r ≤ (lastE es).r))) :
    Calls Try.prog 13 #[.pointer (some ⟨c, 0, none⟩), .int .i64 r, (.agg #[.int .i64 v.k, .int .i64 v.p, .int .i64 v.q, .string v.s, .int .i64 v.r])] w fun e w' => e = .returned (.int .i64 (push es r v).1) ∧ Chg (fun _ => False) w w' := by
  by_cases h0 : r < 0
  · rw [show push es r v = (2, es) by unfold push; rw [if_pos (.inl h0)]]
    have d0 : decide (r < 0) = true := by simpa using h0
    clear he h0
    go_enter Try.func13, Try.ntmps13
    go_wp2
    go_ret
    exact ⟨rfl, (Chg.refl _ w).alloc _⟩
  have d0 : decide (r < 0) = false := by simpa using h0
  by_cases h1 : 2147483647 < r
  · rw [show push es r v = (2, es) by unfold push; rw [if_pos (.inr (.inl h1))]]
    have d1 : decide (2147483647 < r) = true := by simpa using h1
    clear he h0 h1
    go_enter Try.func13, Try.ntmps13
    go_wp2
    go_ret
    exact ⟨rfl, (Chg.refl _ w).alloc _⟩
  have d1 : decide (2147483647 < r) = false := by simpa using h1
  have hb0 := hid (Bk.new w 25 v.cs)
  cases hv0 : vok v
  · rw [show push es r v = (2, es) by unfold push; rw [if_pos (.inr (.inr hv0))]]
    have hv := hid hv0
    clear he h0 h1 hv0
    go_enter Try.func13, Try.ntmps13
    go_wp2_with (go_at_call 32; refine (val_valid_eq hv.out).mono ?_; rintro e w1 ⟨rfl, hc1⟩; have hC1 := hid (((Chg.refl (fun _ => False) w).alloc _).trans_same hc1); clear hc1)
    go_ret
    exact ⟨rfl, hC1.out⟩
  have hv := hid hv0
  cases ht0 : trueV v
  · rw [show push es r v = (0, es) by unfold push; rw [if_neg (by rw [hv0]; simp; omega), if_pos ht0]]
    have ht := hid ht0
    clear he h0 h1 hv0 ht0
    go_enter Try.func13, Try.ntmps13
    go_wp2_with (first
      | (go_at_call 32; refine (val_valid_eq hv.out).mono ?_; rintro e w1 ⟨rfl, hc1⟩; have hb1 := hid (hb0.out.none_ hc1); obtain ⟨x0, x1, x2, x3, x4⟩ := V.box hb1.out; have hC1 := hid (((Chg.refl (fun _ => False) w).alloc _).trans_same hc1); clear hc1)
      | (go_at_call 33; refine (own_true _ v ht.out).mono ?_; rintro e w2 ⟨rfl, hc2⟩; have hC2 := hid (hC1.out.trans_same hc2); clear hc2))
    go_ret
    exact ⟨rfl, hC2.out⟩
  · have hlast : 0 < es.length ∧ r ≤ (lastE es).r := by
      rcases Classical.em (0 < es.length ∧ r ≤ (lastE es).r) with h' | h'
      · exact h'
      · exact absurd ⟨by omega, by omega, hv0, ht0, h'⟩ he
    rw [show push es r v = (16, es) by unfold push; rw [if_neg (by rw [hv0]; simp; omega), if_neg (by rw [ht0]; simp), if_pos hlast]]
    have ht := hid ht0
    obtain ⟨A, cap, hve, _⟩ := own_form h.ent
    obtain ⟨x, hx⟩ : ∃ x, Hid (lastE es = x) := ⟨_, hid rfl⟩
    have hle : r ≤ x.r := by have := hlast.2; rw [hx.out] at this; exact this
    have hpos := hid (decide_eq_true hlast.1)
    subst hve
    have hL := hid h
    have hn := hid hn
    clear he h0 h1 hv0 ht0 hlast h
    go_enter Try.func13, Try.ntmps13
    go_wp2_with (first
      | (go_at_call 32; refine (val_valid_eq hv.out).mono ?_; rintro e w1 ⟨rfl, hc1⟩; have hb1 := hid (hb0.out.none_ hc1); obtain ⟨x0, x1, x2, x3, x4⟩ := V.box hb1.out; have hL1 := hid ((hL.out.none_ ((Chg.refl (fun _ => False) w).alloc _)).none_ hc1); have hC1 := hid (((Chg.refl (fun _ => False) w).alloc _).trans_same hc1); clear hc1)
      | (go_at_call 33; refine (own_true _ v ht.out).mono ?_; rintro e w2 ⟨rfl, hc2⟩; have hL2 := hid (hL1.out.none_ hc2); have c0 : w2.cell? ⟨c, 0, none⟩ = some (.slice A es.length cap) := hL2.out.blk.cell 0; have hC2 := hid (hC1.out.trans_same hc2); clear hc2)
      | (go_at_call 30; refine (last_entry_eq hx.out hpos.out rfl (Rd.of_own hL2.out.ent) hn.out).mono ?_; rintro e w3 ⟨rfl, hc3⟩; have hC3 := hid (hC2.out.trans_same hc3); clear hc3))
    go_ret
    exact ⟨rfl, hC3.out.alloc _⟩
end
end Go.Proofs.Ytpfopidmdnkkeaa
