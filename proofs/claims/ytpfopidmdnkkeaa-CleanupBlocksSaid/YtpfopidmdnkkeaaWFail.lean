/-
  The program's list: the error in flight, the values, the arguments of closing, a new list.
-/
import Derived.Test.YtpfopidmdnkkeaaTwo
namespace Go.Proofs.Ytpfopidmdnkkeaa
open Go.RowKit Go.Maps

theorem Try.info64 : (Try.prog.info? 64).map (fun i => (i.zero, i.size, i.bytes)) = some (some (.agg #[.string ⟨#[]⟩, .int .i64 0, .bool false]), 3, 32) := by kernel_rfl
theorem Try.info25 : (Try.prog.info? 25).map (fun i => (i.zero, i.size, i.bytes)) = some (some (.agg #[.int .i64 0, .int .i64 0, .int .i64 0, .string ⟨#[]⟩, .int .i64 0]), 5, 48) := by kernel_rfl
theorem Pl.ones (l : List Pl) : ∀ u ∈ l.flatMap Pl.cs, u.oneCell' = true := by
  intro u hu
  obtain ⟨v, _, hv⟩ := List.mem_flatMap.1 hu
  simp [Pl.cs] at hv
  rcases hv with rfl | rfl | rfl <;> rfl
section
variable {w w' : World} {c bm n : Nat} {ve vf tv : Value} {D : DataW Unit} {es : List En} {fl : Option Fl}
theorem FB.box {w : World} {b : Nat} {x : V} {tv : Value} (h : Bk w b 30 [.int .i64 x.k, .int .i64 x.p, .int .i64 x.q, .string x.s, .int .i64 x.r, tv]) : w.cell? ⟨b, 0, none⟩ = some (.int .i64 x.k) ∧ w.cell? ⟨b, 1, none⟩ = some (.int .i64 x.p) ∧ w.cell? ⟨b, 2, none⟩ = some (.int .i64 x.q) ∧
    w.cell? ⟨b, 3, none⟩ = some (.string x.s) ∧ w.cell? ⟨b, 4, none⟩ = some (.int .i64 x.r) ∧ w.cell? ⟨b, 5, none⟩ = some tv := ⟨h.cell 0, h.cell 1, h.cell 2, h.cell 3, h.cell 4, h.cell 5⟩
theorem load_fl {W : World} {b : Nat} {x : V} {A : Option Addr} {n k : Nat} (hB : Bk W b 30 [.int .i64 x.k, .int .i64 x.p, .int .i64 x.q, .string x.s, .int .i64 x.r, .slice A n k]) : (loadVar 30 ⟨b, 0, none⟩).run Try.prog W = .ok (.agg #[.int .i64 x.k, .int .i64 x.p, .int .i64 x.q, .string x.s, .int .i64 x.r, .slice A n k]) W := by
  obtain ⟨h0, h1, h2, h3, h4, h5⟩ := FB.box hB
  simp [go_sem, h0, h1, h2, h3, h4, h5]
/-- A failure in an own block and a truth value handed back. -/
theorem ret_flb {fn : Func} {t u : Nat} {R : Ending → World → Prop} {a : Act} {W : World} {b : Nat} {x : V} {A : Option Addr} {n k : Nat} {bb : Bool} (hres : fn.results = #[.cell t 30, .tmp u]) (ht : a.tmps.getD t undef = .pointer (some ⟨b, 0, none⟩)) (hu : a.tmps.getD u undef = .bool bb) (hd : a.defers = [])
    (hB : Bk W b 30 [.int .i64 x.k, .int .i64 x.p, .int .i64 x.q, .string x.s, .int .i64 x.r, .slice A n k]) (hR : R (.returned (.tuple #[.agg #[.int .i64 x.k, .int .i64 x.p, .int .i64 x.q, .string x.s, .int .i64 x.r, .slice A n k], .bool bb])) W) : bodyPost Try.prog fn R .ret a W := by
  refine bodyPost_ret (v := .tuple #[.agg #[.int .i64 x.k, .int .i64 x.p, .int .i64 x.q, .string x.s, .int .i64 x.r, .slice A n k], .bool bb]) ?_ hd hR
  have h := load_fl hB
  have ht' : a.tmps[t]?.getD undef = .pointer (some ⟨b, 0, none⟩) := by simpa using ht
  have hu' : a.tmps[u]?.getD undef = .bool bb := by simpa using hu
  unfold results
  rw [hres]
  simp [ht', hu', asAddr, h]
def put6 (w : World) (g : Nat) (v : V) (tv : Value) : World := (put5 w g 0 v).setCell ⟨g, 5, none⟩ tv
theorem put6_bk {w : World} {b : Nat} {x y : V} {tv tw : Value} (h : Bk w b 30 [.int .i64 x.k, .int .i64 x.p, .int .i64 x.q, .string x.s, .int .i64 x.r, tv]) : Bk (put6 w b y tw) b 30 [.int .i64 y.k, .int .i64 y.p, .int .i64 y.q, .string y.s, .int .i64 y.r, tw] := (((((h.set_ 0 _).set_ 1 _).set_ 2 _).set_ 3 _).set_ 4 _).set_ 5 _
theorem put6_chg (w : World) (g : Nat) (v : V) (tv : Value) : Chg (fun k => k = g) w (put6 w g v tv) := (put5_chg w g 0 v).setCell (p := ⟨g, 5, none⟩) (fun _ => rfl) _
/-- The slice of the trace. -/
theorem FaRep.form (h : FaRep w vf tv fl) : ∃ A k, tv = .slice A (fl.getD Fl.zero).tr.length k ∧ Rd w 3 A (fl.getD Fl.zero).tr.length ((fl.getD Fl.zero).tr.flatMap Pl.cs) := by
  cases fl with
  | none => exact ⟨none, 0, h.2, ⟨rfl, fun h => absurd h (by simp [Fl.zero])⟩⟩
  | some f =>
    obtain ⟨bf, _, _, ho⟩ := h
    obtain ⟨A, cap, rfl, _⟩ := own_form ho
    exact ⟨A, cap, rfl, Rd.of_own ho⟩
set_option maxRecDepth 100000 in
set_option maxHeartbeats 2000000 in
theorem own_last_fail {A : Option Addr} {m k : Nat} (h : FaRep w vf (.slice A m k) fl) {x : V} {b : Bool} (hx : failV fl = x) (hb : fl.isSome = b) :
    Calls Try.prog 31 #[vf] w fun e w' => e = .returned (.tuple #[.agg #[.int .i64 x.k, .int .i64 x.p, .int .i64 x.q, .string x.s, .int .i64 x.r, .slice A m k], .bool b]) ∧ Chg (fun _ => False) w w' := by
  subst hx; subst hb
  cases fl with
  | none =>
    obtain ⟨rfl, h2⟩ := h
    injection h2 with h2 h3 h4
    subst h2 h3 h4
    go_enter Try.func31, Try.ntmps31
    go_wp2
    exact bodyPost_ret (v := .tuple #[.agg #[.int .i64 V.zero.k, .int .i64 V.zero.p, .int .i64 V.zero.q, .string V.zero.s, .int .i64 V.zero.r, .slice none 0 0], .bool false]) (by simp [results, Try.results31, go_sem, V.zero]) rfl ⟨rfl, ((Chg.refl _ w).alloc _).alloc _⟩
  | some f =>
    obtain ⟨bf, rfl, hb, _⟩ := h
    obtain ⟨x, l⟩ := f
    obtain ⟨x0, x1, x2, x3, x4, x5⟩ := FB.box hb
    have hbl := hb.lt
    simp only at x0 x1 x2 x3 x4 x5
    clear hb
    go_enter Try.func31, Try.ntmps31
    go_wp2
    exact bodyPost_ret (v := .tuple #[.agg #[.int .i64 x.k, .int .i64 x.p, .int .i64 x.q, .string x.s, .int .i64 x.r, .slice A m k], .bool true]) (by simp [results, Try.results31, go_sem]) rfl ⟨rfl, ((Chg.refl _ w).alloc _).alloc _⟩
theorem own_fail_fin {w5 W : World} {x : V} {l : List Pl} {A5 : Option Addr} {c5 bx : Nat} (h : OwnL w c ve bm vf tv n D es fl) (hbx : w.heap.size ≤ bx) (hown : w5.ownsRow 0 64 3 (.slice A5 l.length c5) l.length (l.flatMap Pl.cs)) (hc : Chg (fun _ => False) w w5)
    (hat : ∀ k, (Value.slice A5 l.length c5).ownBlock = some k → w.heap.size ≤ k ∧ k ≠ bx)
    (hW : W = (((w5.setCell ⟨bx, 5, none⟩ (.slice A5 l.length c5)).setCell ⟨c, 2, none⟩ (.slice (some ⟨w5.heap.size, 0, none⟩) 1 1)).alloc (.cells #[.int .i64 x.k, .int .i64 x.p, .int .i64 x.q, .string x.s, .int .i64 x.r, .slice A5 l.length c5] 30))) : OwnPost w W c ve bm vf tv n es (some ⟨x, l⟩) := by
  subst hW
  obtain ⟨s1, s2, s3, s4⟩ := h.sep
  have hcl := h.blk.lt
  have hz := hc.size
  have C6 : Chg (fun k => k = c) w (w5.setCell ⟨bx, 5, none⟩ (.slice A5 l.length c5)) := (hc.mono (T := fun k => k = c) fun _ _ h => h.elim).setCell (p := ⟨bx, 5, none⟩) (fun h => absurd h (by simp; omega)) _
  have C8 := (C6.setCell (p := ⟨c, 2, none⟩) (fun _ => rfl) (.slice (some ⟨w5.heap.size, 0, none⟩) 1 1)).alloc (.cells #[.int .i64 x.k, .int .i64 x.p, .int .i64 x.q, .string x.s, .int .i64 x.r, .slice A5 l.length c5] 30)
  have D8 : Chg (fun k => k = bx ∨ k = c) w5 (((w5.setCell ⟨bx, 5, none⟩ (.slice A5 l.length c5)).setCell ⟨c, 2, none⟩ (.slice (some ⟨w5.heap.size, 0, none⟩) 1 1)).alloc (.cells #[.int .i64 x.k, .int .i64 x.p, .int .i64 x.q, .string x.s, .int .i64 x.r, .slice A5 l.length c5] 30)) :=
    (((Chg.refl (fun k => k = bx ∨ k = c) w5).setCell (p := ⟨bx, 5, none⟩) (fun _ => .inl rfl) _).setCell (p := ⟨c, 2, none⟩) (fun _ => .inr rfl) _).alloc _
  refine ⟨ve, _, .slice A5 l.length c5, n, D, ⟨(((h.blk.none_ hc).far (p := ⟨bx, 5, none⟩) (by simp; omega) _).set_ 2 _).alloc _, own_chg h.ent C8 fun k hk e => h.blk.ne_row h.ent (by decide) (by rw [← e]; exact hk), map_chg h.mp C8 s1, h.ix, h.up, w5.heap.size, rfl, ?_, ?_⟩, Nat.le_succ _, C8.mono fun k _ e => .inl e, ?_⟩
  · exact Bk.new_at _ 30 _ _ (by simp)
  · exact own_chg hown D8 fun k hk e => e.elim (hat k hk).2 fun e => by have := (hat k hk).1; omega
  · intro k hk
    rcases hk with hk | hk | hk | hk | hk
    · exact .inl (.inl hk)
    · exact .inl (.inr (.inl hk))
    · exact .inl (.inr (.inr (.inl hk)))
    · right
      simp [Value.ownBlock] at hk
      omega
    · exact .inr (hat k hk).1
set_option maxRecDepth 100000 in
set_option maxHeartbeats 4000000 in
theorem own_fail (h : OwnL w c ve bm vf tv n D es fl) (x : V) (A : Option Addr) (l : List Pl) (k : Nat) (hA : Rd w 3 A l.length (l.flatMap Pl.cs)) (hl : l.length ≤ 1000) :
    Calls Try.prog 10 #[.pointer (some ⟨c, 0, none⟩), .agg #[.int .i64 x.k, .int .i64 x.p, .int .i64 x.q, .string x.s, .int .i64 x.r, .slice A l.length k]] w fun e w' => e = .returned (.tuple #[]) ∧ OwnPost w w' c ve bm vf tv n es (some ⟨x, l⟩) := by
  obtain ⟨i64, hi64, hz64, hs64, hb64⟩ := info_parts Try.info64
  have hL := hid h
  have hA := hid hA
  have hb0 := hid (Bk.new w 30 [.int .i64 x.k, .int .i64 x.p, .int .i64 x.q, .string x.s, .int .i64 x.r, .slice A l.length k])
  have hcl := h.blk.lt
  clear h
  go_enter Try.func10, Try.ntmps10
  go_wp2_with ((with_reducible show wpList _ _ _ ((⟨some 8, _, _, _, _, _⟩ : Oper) :: _) _ _); refine wpList_append_rd (o := ⟨some 8, _, _, _, _, _⟩) rfl (.const (.slice none 0 0)) (.tmp 7) 28 rfl 64 i64 _ 3 32 Try.underlying28 hi64 hz64 hs64 hb64 rfl (by omega) (.slice none 0 0) 0 [] rfl (OwnR.nil w _ 64 3).own A l.length k (l.flatMap Pl.cs) rfl (hA.out.alloc _) (Pl.ones l) (by unfold maxLen; omega) (by omega) (w.heap.size + 1) (by simp) ?_; intro A5 c5 w5 hown5' hg5' hat5'; rw [Nat.zero_add, List.nil_append] at hown5'; rw [Nat.zero_add] at hat5'; have hown5 := hid hown5'; have hat5 := hid hat5'; have hb5 := hid (hb0.out.grown hg5' (by simp [Value.ownBlock])); have hC5 := hid (((Chg.refl (fun _ => False) w).alloc (.cells #[.int .i64 x.k, .int .i64 x.p, .int .i64 x.q, .string x.s, .int .i64 x.r, .slice A l.length k] 30)).grown hg5' (by simp [Value.ownBlock])); obtain ⟨x0, x1, x2, x3, x4, x5⟩ := FB.box hb5.out; have hlx := hb5.out.lt; have hfx := fun j => hb5.out.frozen j; have k2 : w5.cell? ⟨c, 2, none⟩ = some vf := (hL.out.blk.none_ hC5.out).cell 2; have kf : w5.frozen? ⟨c, 2, none⟩ = false := (hL.out.blk.none_ hC5.out).frozen 2; have hcl5 : c < w5.heap.size := (hL.out.blk.none_ hC5.out).lt; clear hown5' hg5' hat5')
  go_end0
  refine ⟨rfl, own_fail_fin hL.out (Nat.le_refl w.heap.size) hown5.out hC5.out (fun k hk => ?_) rfl⟩
  rcases hat5.out k hk with e | e
  · simp [Value.ownBlock] at e
  · omega
theorem own_fail_nil (w : World) (x : V) (A : Option Addr) (m k : Nat) : Calls Try.prog 10 #[.pointer none, .agg #[.int .i64 x.k, .int .i64 x.p, .int .i64 x.q, .string x.s, .int .i64 x.r, .slice A m k]] w fun e w' => e = .returned (.tuple #[]) ∧ Chg (fun _ => False) w w' := by
  go_enter Try.func10, Try.ntmps10
  go_wp2
  refine bodyPost_ret (results_none rfl _ _ _) rfl ?_
  exact ⟨rfl, (Chg.refl _ w).alloc _⟩
set_option maxRecDepth 100000 in
set_option maxHeartbeats 4000000 in
theorem own_failure (h : OwnL w c ve bm vf tv n D es fl) {x : V} {b : Bool} {l : List Pl} (hx : failV fl = x) (hb : fl.isSome = b) (hm : (fl.getD Fl.zero).tr = l) (hl : l.length ≤ 1000) :
    Calls Try.prog 12 #[.pointer (some ⟨c, 0, none⟩)] w fun e w' => ∃ A k, e = .returned (.tuple #[.agg #[.int .i64 x.k, .int .i64 x.p, .int .i64 x.q, .string x.s, .int .i64 x.r, .slice A l.length k], .bool b]) ∧ OwnR w w' 64 3 (.slice A l.length k) l.length (l.flatMap Pl.cs) ∧ Chg (fun _ => False) w w' := by
  obtain ⟨i64, hi64, hz64, hs64, hb64⟩ := info_parts Try.info64
  obtain ⟨A0, k0, htv, hrd⟩ := h.fa.form
  rw [hm] at htv hrd
  subst htv
  have hA := hid hrd
  have hx := hid hx
  have hb := hid hb
  have hL := hid h
  have hz0 := hid (Bk.new w 30 [.int .i64 V.zero.k, .int .i64 V.zero.p, .int .i64 V.zero.q, .string V.zero.s, .int .i64 V.zero.r, .slice none 0 0])
  have hL0 := hid (h.none_ ((Chg.refl (fun _ => False) w).alloc (.cells #[.int .i64 V.zero.k, .int .i64 V.zero.p, .int .i64 V.zero.q, .string V.zero.s, .int .i64 V.zero.r, .slice none 0 0] 30)))
  have hcl := h.blk.lt
  have c2 : w.cell? ⟨c, 2, none⟩ = some vf := h.blk.cell 2
  clear h hm hrd
  go_enter Try.func12, Try.ntmps12
  go_wp2_with (first
    | (go_at_call 31; refine (own_last_fail hL0.out.fa hx.out hb.out).mono ?_; rintro e w3 ⟨rfl, hc3⟩; have hz3 := hid (hz0.out.none_ hc3); have hA3 := hid ((hA.out.none_ ((Chg.refl (fun _ => False) w).alloc (.cells #[.int .i64 V.zero.k, .int .i64 V.zero.p, .int .i64 V.zero.q, .string V.zero.s, .int .i64 V.zero.r, .slice none 0 0] 30))).none_ hc3); have hC3 := hid (((Chg.refl (fun _ => False) w).alloc (.cells #[.int .i64 V.zero.k, .int .i64 V.zero.p, .int .i64 V.zero.q, .string V.zero.s, .int .i64 V.zero.r, .slice none 0 0] 30)).trans_same hc3); have hb3 := hid (Bk.new w3 30 [.int .i64 x.k, .int .i64 x.p, .int .i64 x.q, .string x.s, .int .i64 x.r, .slice A0 l.length k0]); clear hc3)
    | ((with_reducible show wpList _ _ _ ((⟨some 19, _, _, _, _, _⟩ : Oper) :: _) _ _); refine wpList_append_rd (o := ⟨some 19, _, _, _, _, _⟩) rfl (.const (.slice none 0 0)) (.tmp 18) 28 rfl 64 i64 _ 3 32 Try.underlying28 hi64 hz64 hs64 hb64 rfl (by omega) (.slice none 0 0) 0 [] rfl (OwnR.nil w _ 64 3).own A0 l.length k0 (l.flatMap Pl.cs) rfl (hA3.out.alloc _) (Pl.ones l) (by unfold maxLen; omega) (by omega) (w3.heap.size + 1) (by simp) ?_; intro A5 c5 w5 hown5' hg5' hat5'; rw [Nat.zero_add, List.nil_append] at hown5'; rw [Nat.zero_add] at hat5'; have hown5 := hid hown5'; have hat5 := hid hat5'; have hb5 := hid (hb3.out.grown hg5' (by simp [Value.ownBlock])); have hz5 := hid ((hz3.out.alloc (.cells #[.int .i64 x.k, .int .i64 x.p, .int .i64 x.q, .string x.s, .int .i64 x.r, .slice A0 l.length k0] 30)).grown hg5' (by simp [Value.ownBlock])); have hC5 := hid ((hC3.out.alloc (.cells #[.int .i64 x.k, .int .i64 x.p, .int .i64 x.q, .string x.s, .int .i64 x.r, .slice A0 l.length k0] 30)).grown hg5' (by simp [Value.ownBlock])); obtain ⟨x0, x1, x2, x3, x4, x5⟩ := FB.box hb5.out; obtain ⟨z0, z1, z2, z3, z4, z5⟩ := FB.box hz5.out; have hlx := hb5.out.lt; have hfx := fun j => hb5.out.frozen j; have hlz := hz3.out.lt; have hfz := fun j => hz5.out.frozen j; clear hown5' hg5' hat5'))
  have hlz := hz3.out.lt
  refine ret_flb (t := 2) (u := 3) (b := w.heap.size) (x := x) (A := A5) (n := l.length) (k := c5) (bb := b) rfl rfl rfl rfl (put6_bk (y := x) (tw := .slice A5 l.length c5) (hz5.out.far (p := ⟨w3.heap.size, 5, none⟩) (by simp; omega) (.slice A5 l.length c5))) ⟨A5, c5, rfl, ⟨?_, ?_⟩, ?_⟩
  · have hD : Chg (fun k => k = w3.heap.size ∨ k = w.heap.size) w5 (put6 (w5.setCell ⟨w3.heap.size, 5, none⟩ (.slice A5 l.length c5)) w.heap.size x (.slice A5 l.length c5)) :=
      ((Chg.refl (fun k => k = w3.heap.size ∨ k = w.heap.size) w5).setCell (p := ⟨w3.heap.size, 5, none⟩) (fun _ => .inl rfl) _).trans (put6_chg _ w.heap.size x _) fun k _ e => .inr e
    exact own_chg hown5.out hD fun k hk e => by
      have h1 := hb5.out.ne_row hown5.out (by decide)
      have h2 := hz5.out.ne_row hown5.out (by decide)
      rcases e with rfl | rfl
      · exact h1 hk
      · exact h2 hk
  · intro k hk
    rcases hat5.out k hk with e | e
    · simp [Value.ownBlock] at e
    · have := hC3.out.size
      omega
  · exact (hC5.out.setCell (p := ⟨w3.heap.size, 5, none⟩) (fun h => absurd h (show ¬ w3.heap.size < w.heap.size by omega)) _).trans (put6_chg _ w.heap.size x _) fun k hk e => by omega
theorem own_failure_nil (w : World) : Calls Try.prog 12 #[.pointer none] w fun e w' => e = .returned (.tuple #[.agg #[.int .i64 V.zero.k, .int .i64 V.zero.p, .int .i64 V.zero.q, .string V.zero.s, .int .i64 V.zero.r, .slice none 0 0], .bool false]) ∧ Chg (fun _ => False) w w' := by
  go_enter Try.func12, Try.ntmps12
  go_wp2
  exact bodyPost_ret (v := .tuple #[.agg #[.int .i64 V.zero.k, .int .i64 V.zero.p, .int .i64 V.zero.q, .string V.zero.s, .int .i64 V.zero.r, .slice none 0 0], .bool false]) (by simp [results, Try.results12, go_sem, V.zero]) rfl ⟨rfl, (Chg.refl _ w).alloc _⟩
end
end Go.Proofs.Ytpfopidmdnkkeaa
