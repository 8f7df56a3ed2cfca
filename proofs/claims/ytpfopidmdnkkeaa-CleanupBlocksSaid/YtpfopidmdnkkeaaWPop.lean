/-
  Pop of the program.
-/
import Derived.Test.YtpfopidmdnkkeaaWPush2
namespace Go.Proofs.Ytpfopidmdnkkeaa
open Go.RowKit Go.Maps

section
variable {w w' : World} {c bm n : Nat} {ve vf tv : Value} {D : DataW Unit} {es : List En} {fl : Option Fl}
theorem load_val {W : World} {b : Nat} {x : V} (hB : Bk W b 25 x.cs) : (loadVar 25 ⟨b, 0, none⟩).run Try.prog W = .ok (.agg #[.int .i64 x.k, .int .i64 x.p, .int .i64 x.q, .string x.s, .int .i64 x.r]) W := by
  obtain ⟨h0, h1, h2, h3, h4⟩ := V.box hB
  simp [go_sem, h0, h1, h2, h3, h4]
/-- A value in an own block and a truth value handed back. -/
theorem ret_valb {fn : Func} {t u : Nat} {R : Ending → World → Prop} {a : Act} {W : World} {b : Nat} {x : V} {bb : Bool} (hres : fn.results = #[.cell t 25, .tmp u]) (ht : a.tmps.getD t undef = .pointer (some ⟨b, 0, none⟩)) (hu : a.tmps.getD u undef = .bool bb) (hd : a.defers = [])
    (hB : Bk W b 25 x.cs) (hR : R (.returned (.tuple #[(.agg #[.int .i64 x.k, .int .i64 x.p, .int .i64 x.q, .string x.s, .int .i64 x.r]), .bool bb])) W) : bodyPost Try.prog fn R .ret a W := by
  refine bodyPost_ret (v := .tuple #[(.agg #[.int .i64 x.k, .int .i64 x.p, .int .i64 x.q, .string x.s, .int .i64 x.r]), .bool bb]) ?_ hd hR
  have h := load_val hB
  have ht' : a.tmps[t]?.getD undef = .pointer (some ⟨b, 0, none⟩) := by simpa using ht
  have hu' : a.tmps[u]?.getD undef = .bool bb := by simpa using hu
  unfold results
  rw [hres]
  simp [ht', hu', asAddr, h]
theorem put5_bk {w : World} {b : Nat} {x y : V} (h : Bk w b 25 x.cs) : Bk (put5 w b 0 y) b 25 y.cs := ((((h.set_ 0 _).set_ 1 _).set_ 2 _).set_ 3 _).set_ 4 _
theorem own_pop_nil (w : World) (r : Int) : Calls Try.prog 11 #[.pointer none, .int .i64 r] w fun e w' => e = .returned (.tuple #[(.agg #[.int .i64 V.zero.k, .int .i64 V.zero.p, .int .i64 V.zero.q, .string V.zero.s, .int .i64 V.zero.r]), .bool false]) ∧ Chg (fun _ => False) w w' := by
  go_enter Try.func11, Try.ntmps11
  go_wp2
  exact bodyPost_ret (v := .tuple #[(.agg #[.int .i64 V.zero.k, .int .i64 V.zero.p, .int .i64 V.zero.q, .string V.zero.s, .int .i64 V.zero.r]), .bool false]) (by simp [results, Try.results11, go_sem, V.zero]) rfl ⟨rfl, (Chg.refl _ w).alloc _⟩
set_option maxRecDepth 100000 in
set_option maxHeartbeats 4000000 in
theorem own_pop_no (h : OwnL w c ve bm vf tv n D es fl) (r : Int) (hn : es.length ≤ 1000) (hl : es.length = 0 ∨ (lastE es).r < r) :
    Calls Try.prog 11 #[.pointer (some ⟨c, 0, none⟩), .int .i64 r] w fun e w' => e = .returned (.tuple #[(.agg #[.int .i64 V.zero.k, .int .i64 V.zero.p, .int .i64 V.zero.q, .string V.zero.s, .int .i64 V.zero.r]), .bool false]) ∧ Chg (fun _ => False) w w' := by
  obtain ⟨A, cap, hve, _⟩ := own_form h.ent
  obtain ⟨x, hx⟩ : ∃ x, Hid (lastE es = x) := ⟨_, hid rfl⟩
  subst hve
  have hL := hid h
  obtain ⟨pb, hpb⟩ : ∃ pb, Hid (decide (0 < es.length) = pb) := ⟨_, hid rfl⟩
  have hlt : pb = true → decide (x.r < r) = true := fun e => by
    have h3 := hpb.out
    rw [e] at h3
    rw [hx.out] at hl
    simp at h3 ⊢
    omega
  have c0 : (w.alloc (.cells #[.int .i64 V.zero.k, .int .i64 V.zero.p, .int .i64 V.zero.q, .string V.zero.s, .int .i64 V.zero.r] 25)).cell? ⟨c, 0, none⟩ = some (.slice A es.length cap) := (h.blk.alloc _).cell 0
  have hL0 := hid (h.none_ ((Chg.refl (fun _ => False) w).alloc (.cells #[.int .i64 V.zero.k, .int .i64 V.zero.p, .int .i64 V.zero.q, .string V.zero.s, .int .i64 V.zero.r] 25)))
  have hcl : c < w.heap.size := h.blk.lt
  have c00 : w.cell? ⟨c, 0, none⟩ = some (.slice A es.length cap) := h.blk.cell 0
  clear hl h
  cases pb
  all_goals
    first
      | have hlt := hlt rfl
      | clear hlt
    go_enter Try.func11, Try.ntmps11
    go_wp2_with (go_at_call 30; refine (last_entry_eq hx.out hpb.out rfl (Rd.of_own hL0.out.ent) hn).mono ?_; rintro e w3 ⟨rfl, hc3⟩; have hz3 := hid ((Bk.new w 25 V.zero.cs).none_ hc3); obtain ⟨z0, z1, z2, z3, z4⟩ := V.box hz3.out; simp only [V.zero] at z0 z1 z2 z3 z4; have hlz := hz3.out.lt; have hfz := fun j => hz3.out.frozen j; have hC3 := hid (((Chg.refl (fun _ => False) w).alloc _).trans_same hc3); clear hc3)
    refine ret_valb (t := 4) (u := 5) (b := w.heap.size) (x := V.zero) (bb := false) rfl rfl rfl rfl ((put5_bk (y := V.zero) hz3.out).alloc _) ⟨rfl, ?_⟩
    exact (hC3.out.trans (put5_chg _ w.heap.size 0 V.zero) (fun j hj e => by omega)).alloc _
end
end Go.Proofs.Ytpfopidmdnkkeaa
