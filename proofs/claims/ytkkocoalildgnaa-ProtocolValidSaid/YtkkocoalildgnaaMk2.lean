/-
  Return, Fail, Error, called, Call, Try, Yield: what each makes.
-/
import Derived.Test.YtkkocoalildgnaaMk
namespace Go.Proofs.Ytkkocoalildgnaa
open Go.RowKit

/-- The cells of an action that has nothing. -/
def zA : List Value := [.int .i64 0, .int .i64 0, .int .i64 0, .int .i64 0, .int .i64 0, .string ⟨#[]⟩, .int .i64 0, .slice none 0 0, .string ⟨#[]⟩, .int .i64 0, .int .i64 0, .slice none 0 0]
theorem zA_box {w : World} {b : Nat} {t : TypeId} (h : Bk w b t zA) : w.cell? ⟨b, 0, none⟩ = some (.int .i64 0) ∧ w.cell? ⟨b, 1, none⟩ = some (.int .i64 0) ∧ w.cell? ⟨b, 2, none⟩ = some (.int .i64 0) ∧ w.cell? ⟨b, 3, none⟩ = some (.int .i64 0) ∧
    w.cell? ⟨b, 4, none⟩ = some (.int .i64 0) ∧ w.cell? ⟨b, 5, none⟩ = some (.string ⟨#[]⟩) ∧ w.cell? ⟨b, 6, none⟩ = some (.int .i64 0) ∧ w.cell? ⟨b, 7, none⟩ = some (.slice none 0 0) ∧ w.cell? ⟨b, 8, none⟩ = some (.string ⟨#[]⟩) ∧
    w.cell? ⟨b, 9, none⟩ = some (.int .i64 0) ∧ w.cell? ⟨b, 10, none⟩ = some (.int .i64 0) ∧ w.cell? ⟨b, 11, none⟩ = some (.slice none 0 0) ∧ (∀ j, w.frozen? ⟨b, j, none⟩ = false) ∧ b < w.heap.size :=
  ⟨h.cell 0, h.cell 1, h.cell 2, h.cell 3, h.cell 4, h.cell 5, h.cell 6, h.cell 7, h.cell 8, h.cell 9, h.cell 10, h.cell 11, fun j => h.frozen j, h.lt⟩
theorem OwnR.set {w w0 w1 W : World} {s : Value} {n b : Nat} {xs : List Value} (h : OwnR w0 w1 25 5 s n xs) (hW : Chg (fun k => k = b) w1 W) (hb : b < w0.heap.size) (hw : w.heap.size ≤ w0.heap.size) : OwnR w W 25 5 s n xs :=
  ⟨own_chg h.own hW fun k hk e => by have := h.lo k hk; omega, fun k hk => Nat.le_trans hw (h.lo k hk)⟩
theorem Chg.set {w w1 W : World} {b : Nat} (h : Chg (fun _ => False) w w1) (hW : Chg (fun k => k = b) w1 W) (hb : w.heap.size ≤ b) : Chg (fun _ => False) w W :=
  h.trans hW fun j hj e => by omega
theorem made_of {w w0 w1 W : World} {b c c2 : Nat} {A A2 : Option Addr} {vs ks : List V} {k o l n : Int} {f : V} {s : ByteArray} {e : Ending} (he : e = .returned (.agg #[.int .i64 k, .int .i64 o, .int .i64 f.k, .int .i64 f.p, .int .i64 f.q, .string f.s, .int .i64 f.r, .slice A vs.length c, .string s, .int .i64 l, .int .i64 n, .slice A2 ks.length c2]))
    (h1 : OwnR w0 w1 25 5 (.slice A vs.length c) vs.length (vs.flatMap V.cs)) (h2 : OwnR w0 w1 25 5 (.slice A2 ks.length c2) ks.length (ks.flatMap V.cs)) (hC : Chg (fun _ => False) w w1) (hW : Chg (fun k => k = b) w1 W) (hb : b < w0.heap.size) (hb0 : w.heap.size ≤ b) : Made w W e k o f vs s l n ks :=
  ⟨A, c, A2, c2, he, h1.set hW hb (by omega), h2.set hW hb (by omega), hC.set hW hb0⟩

theorem load_act {W : World} {b : Nat} {c0 c1 c2 c3 c4 c5 c6 c7 c8 c9 c10 c11 : Value} (hB : Bk W b 28 [c0, c1, c2, c3, c4, c5, c6, c7, c8, c9, c10, c11]) : (loadVar 28 ⟨b, 0, none⟩).run Try.prog W = .ok (.agg #[c0, c1, c2, c3, c4, c5, c6, c7, c8, c9, c10, c11]) W := by
  have h0 : W.cell? ⟨b, 0, none⟩ = some c0 := hB.cell 0
  have h1 : W.cell? ⟨b, 1, none⟩ = some c1 := hB.cell 1
  have h2 : W.cell? ⟨b, 2, none⟩ = some c2 := hB.cell 2
  have h3 : W.cell? ⟨b, 3, none⟩ = some c3 := hB.cell 3
  have h4 : W.cell? ⟨b, 4, none⟩ = some c4 := hB.cell 4
  have h5 : W.cell? ⟨b, 5, none⟩ = some c5 := hB.cell 5
  have h6 : W.cell? ⟨b, 6, none⟩ = some c6 := hB.cell 6
  have h7 : W.cell? ⟨b, 7, none⟩ = some c7 := hB.cell 7
  have h8 : W.cell? ⟨b, 8, none⟩ = some c8 := hB.cell 8
  have h9 : W.cell? ⟨b, 9, none⟩ = some c9 := hB.cell 9
  have h10 : W.cell? ⟨b, 10, none⟩ = some c10 := hB.cell 10
  have h11 : W.cell? ⟨b, 11, none⟩ = some c11 := hB.cell 11
  simp [go_sem, h0, h1, h2, h3, h4, h5, h6, h7, h8, h9, h10, h11]
theorem ret_act {fn : Func} {t : Nat} {R : Ending → World → Prop} {a : Act} {W : World} {b : Nat} {c0 c1 c2 c3 c4 c5 c6 c7 c8 c9 c10 c11 : Value} (hres : fn.results = #[.cell t 28]) (ht : a.tmps.getD t undef = .pointer (some ⟨b, 0, none⟩)) (hd : a.defers = [])
    (hB : Bk W b 28 [c0, c1, c2, c3, c4, c5, c6, c7, c8, c9, c10, c11]) (hR : R (.returned (.agg #[c0, c1, c2, c3, c4, c5, c6, c7, c8, c9, c10, c11])) W) : bodyPost Try.prog fn R .ret a W := by
  refine bodyPost_ret (v := .agg #[c0, c1, c2, c3, c4, c5, c6, c7, c8, c9, c10, c11]) ?_ hd hR
  have h := load_act hB
  have ht' : a.tmps[t]?.getD undef = .pointer (some ⟨b, 0, none⟩) := by simpa using ht
  unfold results
  rw [hres]
  simp [ht', asAddr, h]
/-- An action stored into twelve cells. -/
def put12 (w : World) (b : Nat) (c0 c1 c2 c3 c4 c5 c6 c7 c8 c9 c10 c11 : Value) : World := ((((((((((((w.setCell ⟨b, 0, none⟩ c0).setCell ⟨b, 1, none⟩ c1).setCell ⟨b, 2, none⟩ c2).setCell ⟨b, 3, none⟩ c3).setCell ⟨b, 4, none⟩ c4).setCell ⟨b, 5, none⟩ c5).setCell ⟨b, 6, none⟩ c6).setCell ⟨b, 7, none⟩ c7).setCell ⟨b, 8, none⟩ c8).setCell ⟨b, 9, none⟩ c9).setCell ⟨b, 10, none⟩ c10).setCell ⟨b, 11, none⟩ c11)
theorem put12_bk {w : World} {b : Nat} {c0 c1 c2 c3 c4 c5 c6 c7 c8 c9 c10 c11 : Value} (h : Bk w b 28 zA) : Bk (put12 w b c0 c1 c2 c3 c4 c5 c6 c7 c8 c9 c10 c11) b 28 [c0, c1, c2, c3, c4, c5, c6, c7, c8, c9, c10, c11] := ((((((((((((h.set_ 0 _).set_ 1 _).set_ 2 _).set_ 3 _).set_ 4 _).set_ 5 _).set_ 6 _).set_ 7 _).set_ 8 _).set_ 9 _).set_ 10 _).set_ 11 _)
theorem put12_chg (w : World) (b : Nat) (c0 c1 c2 c3 c4 c5 c6 c7 c8 c9 c10 c11 : Value) : Chg (fun k => k = b) w (put12 w b c0 c1 c2 c3 c4 c5 c6 c7 c8 c9 c10 c11) := (((((((((((((Chg.refl (fun k => k = b) w).setCell (p := ⟨b, 0, none⟩) (fun _ => rfl) _).setCell (p := ⟨b, 1, none⟩) (fun _ => rfl) _).setCell (p := ⟨b, 2, none⟩) (fun _ => rfl) _).setCell (p := ⟨b, 3, none⟩) (fun _ => rfl) _).setCell (p := ⟨b, 4, none⟩) (fun _ => rfl) _).setCell (p := ⟨b, 5, none⟩) (fun _ => rfl) _).setCell (p := ⟨b, 6, none⟩) (fun _ => rfl) _).setCell (p := ⟨b, 7, none⟩) (fun _ => rfl) _).setCell (p := ⟨b, 8, none⟩) (fun _ => rfl) _).setCell (p := ⟨b, 9, none⟩) (fun _ => rfl) _).setCell (p := ⟨b, 10, none⟩) (fun _ => rfl) _).setCell (p := ⟨b, 11, none⟩) (fun _ => rfl) _)
theorem fin_act {fn : Func} {t : Nat} {a : Act} {w w0 w1 : World} {b c c2 : Nat} {A A2 : Option Addr} {vs ks : List V} {k o l n : Int} {f : V} {s : ByteArray} (hres : fn.results = #[.cell t 28]) (ht : a.tmps.getD t undef = .pointer (some ⟨b, 0, none⟩)) (hd : a.defers = [])
    (hz : Bk w1 b 28 zA) (h1 : OwnR w0 w1 25 5 (.slice A vs.length c) vs.length (vs.flatMap V.cs)) (h2 : OwnR w0 w1 25 5 (.slice A2 ks.length c2) ks.length (ks.flatMap V.cs)) (hC : Chg (fun _ => False) w w1) (hb : b < w0.heap.size) (hb0 : w.heap.size ≤ b) :
    bodyPost Try.prog fn (fun e w' => Made w w' e k o f vs s l n ks) .ret a (put12 w1 b (.int .i64 k) (.int .i64 o) (.int .i64 f.k) (.int .i64 f.p) (.int .i64 f.q) (.string f.s) (.int .i64 f.r) (.slice A vs.length c) (.string s) (.int .i64 l) (.int .i64 n) (.slice A2 ks.length c2)) :=
  ret_act hres ht hd (put12_bk hz) (made_of rfl h1 h2 hC (put12_chg _ _ _ _ _ _ _ _ _ _ _ _ _ _) hb hb0)
set_option maxHeartbeats 1000000 in
theorem own_return (w : World) (A : Option Addr) (vs : List V) (k : Nat) (h : Vs w A vs) (hn : vs.length ≤ 1000) : Calls Try.prog 14 #[.slice A vs.length k] w fun e w' => Made w w' e 1 0 V.zero vs ⟨#[]⟩ 0 0 [] := by
  have h := hid h
  go_enter Try.func14, Try.ntmps14
  go_wp2_with (go_at_call 39; refine (list_any _ A vs k (Rd.alloc h.out _) hn).mono ?_; rintro e w1 ⟨A1, c1, rfl, hO', hC'⟩; obtain ⟨z0, z1, z2, z3, z4, z5, z6, z7, z8, z9, z10, z11, hfz, hlt⟩ := zA_box ((Bk.new w 28 zA).none_ hC'); have hz := hid ((Bk.new w 28 zA).none_ hC'); have hO := hid hO'; have hC := hid hC'; clear hO' hC')
  exact fin_act (t := 2) (w0 := w.alloc (.cells zA.toArray 28)) (w1 := w1) (b := w.heap.size) (k := 1) (o := 0) (f := V.zero) (vs := vs) (s := ⟨#[]⟩) (l := 0) (n := 0) (ks := []) rfl rfl rfl hz.out hO.out (OwnR.nil _ _ _ _) (((Chg.refl _ w).alloc _).trans_same hC.out) (by simp) (Nat.le_refl _)
set_option maxHeartbeats 1000000 in
theorem doc_return (w : World) (A : Option Addr) (vs : List V) (k : Nat) (h : Vs w A vs) (hn : vs.length ≤ 1000) : Calls Try.prog 15 #[.slice A vs.length k] w fun e w' => Made w w' e 1 0 V.zero vs ⟨#[]⟩ 0 0 [] := by
  have h := hid h
  go_enter Try.func15, Try.ntmps15
  go_wp2_with (go_at_call 40; refine (copied_any _ A vs k (Rd.alloc h.out _) hn).mono ?_; rintro e w1 ⟨A1, c1, rfl, hO', hC'⟩; obtain ⟨z0, z1, z2, z3, z4, z5, z6, z7, z8, z9, z10, z11, hfz, hlt⟩ := zA_box ((Bk.new w 28 zA).none_ hC'); have hz := hid ((Bk.new w 28 zA).none_ hC'); have hO := hid hO'; have hC := hid hC'; clear hO' hC')
  exact fin_act (t := 2) (w0 := w.alloc (.cells zA.toArray 28)) (w1 := w1) (b := w.heap.size) (k := 1) (o := 0) (f := V.zero) (vs := vs) (s := ⟨#[]⟩) (l := 0) (n := 0) (ks := []) rfl rfl rfl hz.out hO.out (OwnR.nil _ _ _ _) (((Chg.refl _ w).alloc _).trans_same hC.out) (by simp) (Nat.le_refl _)
end Go.Proofs.Ytkkocoalildgnaa
