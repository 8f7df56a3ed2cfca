/-
  called, Call, Try, Yield: what each makes.
-/
import Derived.Test.YtkkocoalildgnaaMk2
namespace Go.Proofs.Ytkkocoalildgnaa
open Go.RowKit

set_option maxHeartbeats 2000000 in
theorem called_any (w : World) (kd : Int) (f : V) (A : Option Addr) (vs : List V) (k : Nat) (nx : Int) (A' : Option Addr) (ks : List V) (k' : Nat) (h : Vs w A vs) (hn : vs.length ≤ 1000) (h' : Vs w A' ks) (hn' : ks.length ≤ 1000) :
    Calls Try.prog 42 #[.int .i64 kd, (.agg #[.int .i64 f.k, .int .i64 f.p, .int .i64 f.q, .string f.s, .int .i64 f.r]), .slice A vs.length k, .int .i64 nx, .slice A' ks.length k'] w fun e w' => Made w w' e kd 0 f vs ⟨#[]⟩ 0 nx ks := by
  have hv0 := hid (Rd.none_ h ((((Chg.refl (fun _ => False) w).alloc (.cells f.cs.toArray 25)).alloc (.cells zA.toArray 28)).drew))
  have hk0 := hid (Rd.none_ h' ((((Chg.refl (fun _ => False) w).alloc (.cells f.cs.toArray 25)).alloc (.cells zA.toArray 28)).drew))
  have hz0 : Hid (Bk ((w.alloc (.cells f.cs.toArray 25)).alloc (.cells zA.toArray 28)).drew (w.heap.size + 1) 28 zA) := hid (Bk.new_at (w.alloc (.cells f.cs.toArray 25)) 28 zA.toArray (w.heap.size + 1) (by simp)).drew
  have hb0 : Hid (Bk ((w.alloc (.cells f.cs.toArray 25)).alloc (.cells zA.toArray 28)).drew w.heap.size 25 f.cs) := hid ((Bk.new w 25 f.cs).alloc _).drew
  clear h h'
  go_enter Try.func42, Try.ntmps42
  go_wp2
  refine wp_region_rc (id := 1) [.rd [0,1,2,4,5], .act 3, .act 6, .wl [7]] [8] [] (fun w' => w'.cell? ⟨w.heap.size, 0, none⟩ = some (.int .i64 f.k) ∧ w'.cell? ⟨w.heap.size, 1, none⟩ = some (.int .i64 f.p) ∧ w'.cell? ⟨w.heap.size, 2, none⟩ = some (.int .i64 f.q) ∧ w'.cell? ⟨w.heap.size, 3, none⟩ = some (.string f.s) ∧ w'.cell? ⟨w.heap.size, 4, none⟩ = some (.int .i64 f.r)) (by kernel_rfl) 19 rfl (by kernel_rfl) (fun _ _ _ _ _ h => h) (V.box hb0.out) ?_
  refine steps_rdW ?_
  apply Exists.intro
  refine ⟨?_, ?_⟩
  focus
    rintro w' ⟨s0, s1, s2, s3, s4⟩
    iterate 5 (refine stW_step rfl (fun K hK => ?_); go_simp; refine hK _ ?_; clear hK K)
    exact stW_nil rfl
  refine steps_act (o := ⟨_, _, _, _, _, _⟩) rfl (fun K2 hK2 => ?_)
  go_wp2_with (go_at_call 39; refine (list_any _ A vs k hv0.out hn).mono ?_; rintro e w1 ⟨A1, c1, rfl, hO', hC'⟩; have hz1 := hid (hz0.out.none_ hC'); have hb1 := hid (hb0.out.none_ hC'); have hk1 := hid (Rd.none_ hk0.out hC'); have hO1 := hid hO'; have hC1 := hid hC'; clear hO' hC')
  refine hK2 _ _ (V.box hb1.out) rfl ?_
  clear hK2 K2
  refine steps_act (o := ⟨_, _, _, _, _, _⟩) rfl (fun K2 hK2 => ?_)
  go_wp2_with (go_at_call 39; refine (list_any _ A' ks k' hk1.out hn').mono ?_; rintro e w2 ⟨A2, c2, rfl, hO', hC'⟩; have hz2 := hid (hz1.out.none_ hC'); have hb2 := hid (hb1.out.none_ hC'); have hO2 := hid hO'; have hO3 := hid (hO1.out.none_ hC'); have hC2 := hid (hC1.out.trans_same hC'); have hl2 := hid hC1.out.size; clear hO' hC')
  refine hK2 _ _ (V.box hb2.out) rfl ?_
  clear hK2 K2
  refine steps_wlW ?_
  apply Exists.intro
  refine ⟨?_, ?_⟩
  focus
    intro w'
    iterate 1 (refine stW_step rfl (fun K hK => ?_); go_simp; refine hK _ ?_; clear hK K)
    exact stW_nil rfl
  obtain ⟨z0, z1, z2, z3, z4, z5, z6, z7, z8, z9, z10, z11, hfz, hlt⟩ := zA_box hz2.out
  refine steps_nil (l := [⟨_, _, _, _, _, _⟩]) rfl (fun K2 hK2 => ?_)
  go_wp2
  refine hK2 _ _ rfl ?_
  clear hK2 K2
  refine stI_nil ?_
  go_wp2
  exact fin_act (t := 10) (w0 := ((w.alloc (.cells f.cs.toArray 25)).alloc (.cells zA.toArray 28)).drew) (w1 := w2) (b := w.heap.size + 1) (k := kd) (o := 0) (f := f) (vs := vs) (s := ⟨#[]⟩) (l := 0) (n := nx) (ks := ks) rfl rfl rfl hz2.out hO3.out (hO2.out.base hl2.out) (((((Chg.refl _ w).alloc _).alloc _).drew).trans_same hC2.out) (by simp) (by omega)
set_option maxHeartbeats 2000000 in
theorem doc_call_any (w : World)  (f : V) (A : Option Addr) (vs : List V) (k : Nat) (nx : Int) (A' : Option Addr) (ks : List V) (k' : Nat) (h : Vs w A vs) (hn : vs.length ≤ 1000) (h' : Vs w A' ks) (hn' : ks.length ≤ 1000) :
    Calls Try.prog 21 #[(.agg #[.int .i64 f.k, .int .i64 f.p, .int .i64 f.q, .string f.s, .int .i64 f.r]), .slice A vs.length k, .int .i64 nx, .slice A' ks.length k'] w fun e w' => Made w w' e 3 0 f vs ⟨#[]⟩ 0 nx ks := by
  have hv0 := hid (Rd.none_ h ((((Chg.refl (fun _ => False) w).alloc (.cells f.cs.toArray 25)).alloc (.cells zA.toArray 28)).drew))
  have hk0 := hid (Rd.none_ h' ((((Chg.refl (fun _ => False) w).alloc (.cells f.cs.toArray 25)).alloc (.cells zA.toArray 28)).drew))
  have hz0 : Hid (Bk ((w.alloc (.cells f.cs.toArray 25)).alloc (.cells zA.toArray 28)).drew (w.heap.size + 1) 28 zA) := hid (Bk.new_at (w.alloc (.cells f.cs.toArray 25)) 28 zA.toArray (w.heap.size + 1) (by simp)).drew
  have hb0 : Hid (Bk ((w.alloc (.cells f.cs.toArray 25)).alloc (.cells zA.toArray 28)).drew w.heap.size 25 f.cs) := hid ((Bk.new w 25 f.cs).alloc _).drew
  clear h h'
  go_enter Try.func21, Try.ntmps21
  go_wp2
  refine wp_region_rc (id := 1) [.rd [0,1,3,4], .act 2, .act 5, .wl [6]] [7] [] (fun w' => w'.cell? ⟨w.heap.size, 0, none⟩ = some (.int .i64 f.k) ∧ w'.cell? ⟨w.heap.size, 1, none⟩ = some (.int .i64 f.p) ∧ w'.cell? ⟨w.heap.size, 2, none⟩ = some (.int .i64 f.q) ∧ w'.cell? ⟨w.heap.size, 3, none⟩ = some (.string f.s) ∧ w'.cell? ⟨w.heap.size, 4, none⟩ = some (.int .i64 f.r)) (by kernel_rfl) 16 rfl (by kernel_rfl) (fun _ _ _ _ _ h => h) (V.box hb0.out) ?_
  refine steps_rdW ?_
  apply Exists.intro
  refine ⟨?_, ?_⟩
  focus
    rintro w' ⟨s0, s1, s2, s3, s4⟩
    iterate 4 (refine stW_step rfl (fun K hK => ?_); go_simp; refine hK _ ?_; clear hK K)
    exact stW_nil rfl
  refine steps_act (o := ⟨_, _, _, _, _, _⟩) rfl (fun K2 hK2 => ?_)
  go_wp2_with (go_at_call 40; refine (copied_any _ A vs k hv0.out hn).mono ?_; rintro e w1 ⟨A1, c1, rfl, hO', hC'⟩; have hz1 := hid (hz0.out.none_ hC'); have hb1 := hid (hb0.out.none_ hC'); have hk1 := hid (Rd.none_ hk0.out hC'); have hO1 := hid hO'; have hC1 := hid hC'; clear hO' hC')
  refine hK2 _ _ (V.box hb1.out) rfl ?_
  clear hK2 K2
  refine steps_act (o := ⟨_, _, _, _, _, _⟩) rfl (fun K2 hK2 => ?_)
  go_wp2_with (go_at_call 40; refine (copied_any _ A' ks k' hk1.out hn').mono ?_; rintro e w2 ⟨A2, c2, rfl, hO', hC'⟩; have hz2 := hid (hz1.out.none_ hC'); have hb2 := hid (hb1.out.none_ hC'); have hO2 := hid hO'; have hO3 := hid (hO1.out.none_ hC'); have hC2 := hid (hC1.out.trans_same hC'); have hl2 := hid hC1.out.size; clear hO' hC')
  refine hK2 _ _ (V.box hb2.out) rfl ?_
  clear hK2 K2
  refine steps_wlW ?_
  apply Exists.intro
  refine ⟨?_, ?_⟩
  focus
    intro w'
    iterate 1 (refine stW_step rfl (fun K hK => ?_); go_simp; refine hK _ ?_; clear hK K)
    exact stW_nil rfl
  obtain ⟨z0, z1, z2, z3, z4, z5, z6, z7, z8, z9, z10, z11, hfz, hlt⟩ := zA_box hz2.out
  refine steps_nil (l := [⟨_, _, _, _, _, _⟩]) rfl (fun K2 hK2 => ?_)
  go_wp2
  refine hK2 _ _ rfl ?_
  clear hK2 K2
  refine stI_nil ?_
  go_wp2
  exact fin_act (t := 8) (w0 := ((w.alloc (.cells f.cs.toArray 25)).alloc (.cells zA.toArray 28)).drew) (w1 := w2) (b := w.heap.size + 1) (k := 3) (o := 0) (f := f) (vs := vs) (s := ⟨#[]⟩) (l := 0) (n := nx) (ks := ks) rfl rfl rfl hz2.out hO3.out (hO2.out.base hl2.out) (((((Chg.refl _ w).alloc _).alloc _).drew).trans_same hC2.out) (by simp) (by omega)
set_option maxHeartbeats 2000000 in
theorem doc_try_any (w : World)  (f : V) (A : Option Addr) (vs : List V) (k : Nat) (nx : Int) (A' : Option Addr) (ks : List V) (k' : Nat) (h : Vs w A vs) (hn : vs.length ≤ 1000) (h' : Vs w A' ks) (hn' : ks.length ≤ 1000) :
    Calls Try.prog 23 #[(.agg #[.int .i64 f.k, .int .i64 f.p, .int .i64 f.q, .string f.s, .int .i64 f.r]), .slice A vs.length k, .int .i64 nx, .slice A' ks.length k'] w fun e w' => Made w w' e 4 0 f vs ⟨#[]⟩ 0 nx ks := by
  have hv0 := hid (Rd.none_ h ((((Chg.refl (fun _ => False) w).alloc (.cells f.cs.toArray 25)).alloc (.cells zA.toArray 28)).drew))
  have hk0 := hid (Rd.none_ h' ((((Chg.refl (fun _ => False) w).alloc (.cells f.cs.toArray 25)).alloc (.cells zA.toArray 28)).drew))
  have hz0 : Hid (Bk ((w.alloc (.cells f.cs.toArray 25)).alloc (.cells zA.toArray 28)).drew (w.heap.size + 1) 28 zA) := hid (Bk.new_at (w.alloc (.cells f.cs.toArray 25)) 28 zA.toArray (w.heap.size + 1) (by simp)).drew
  have hb0 : Hid (Bk ((w.alloc (.cells f.cs.toArray 25)).alloc (.cells zA.toArray 28)).drew w.heap.size 25 f.cs) := hid ((Bk.new w 25 f.cs).alloc _).drew
  clear h h'
  go_enter Try.func23, Try.ntmps23
  go_wp2
  refine wp_region_rc (id := 1) [.rd [0,1,3,4], .act 2, .act 5, .wl [6]] [7] [] (fun w' => w'.cell? ⟨w.heap.size, 0, none⟩ = some (.int .i64 f.k) ∧ w'.cell? ⟨w.heap.size, 1, none⟩ = some (.int .i64 f.p) ∧ w'.cell? ⟨w.heap.size, 2, none⟩ = some (.int .i64 f.q) ∧ w'.cell? ⟨w.heap.size, 3, none⟩ = some (.string f.s) ∧ w'.cell? ⟨w.heap.size, 4, none⟩ = some (.int .i64 f.r)) (by kernel_rfl) 16 rfl (by kernel_rfl) (fun _ _ _ _ _ h => h) (V.box hb0.out) ?_
  refine steps_rdW ?_
  apply Exists.intro
  refine ⟨?_, ?_⟩
  focus
    rintro w' ⟨s0, s1, s2, s3, s4⟩
    iterate 4 (refine stW_step rfl (fun K hK => ?_); go_simp; refine hK _ ?_; clear hK K)
    exact stW_nil rfl
  refine steps_act (o := ⟨_, _, _, _, _, _⟩) rfl (fun K2 hK2 => ?_)
  go_wp2_with (go_at_call 40; refine (copied_any _ A vs k hv0.out hn).mono ?_; rintro e w1 ⟨A1, c1, rfl, hO', hC'⟩; have hz1 := hid (hz0.out.none_ hC'); have hb1 := hid (hb0.out.none_ hC'); have hk1 := hid (Rd.none_ hk0.out hC'); have hO1 := hid hO'; have hC1 := hid hC'; clear hO' hC')
  refine hK2 _ _ (V.box hb1.out) rfl ?_
  clear hK2 K2
  refine steps_act (o := ⟨_, _, _, _, _, _⟩) rfl (fun K2 hK2 => ?_)
  go_wp2_with (go_at_call 40; refine (copied_any _ A' ks k' hk1.out hn').mono ?_; rintro e w2 ⟨A2, c2, rfl, hO', hC'⟩; have hz2 := hid (hz1.out.none_ hC'); have hb2 := hid (hb1.out.none_ hC'); have hO2 := hid hO'; have hO3 := hid (hO1.out.none_ hC'); have hC2 := hid (hC1.out.trans_same hC'); have hl2 := hid hC1.out.size; clear hO' hC')
  refine hK2 _ _ (V.box hb2.out) rfl ?_
  clear hK2 K2
  refine steps_wlW ?_
  apply Exists.intro
  refine ⟨?_, ?_⟩
  focus
    intro w'
    iterate 1 (refine stW_step rfl (fun K hK => ?_); go_simp; refine hK _ ?_; clear hK K)
    exact stW_nil rfl
  obtain ⟨z0, z1, z2, z3, z4, z5, z6, z7, z8, z9, z10, z11, hfz, hlt⟩ := zA_box hz2.out
  refine steps_nil (l := [⟨_, _, _, _, _, _⟩]) rfl (fun K2 hK2 => ?_)
  go_wp2
  refine hK2 _ _ rfl ?_
  clear hK2 K2
  refine stI_nil ?_
  go_wp2
  exact fin_act (t := 8) (w0 := ((w.alloc (.cells f.cs.toArray 25)).alloc (.cells zA.toArray 28)).drew) (w1 := w2) (b := w.heap.size + 1) (k := 4) (o := 0) (f := f) (vs := vs) (s := ⟨#[]⟩) (l := 0) (n := nx) (ks := ks) rfl rfl rfl hz2.out hO3.out (hO2.out.base hl2.out) (((((Chg.refl _ w).alloc _).alloc _).drew).trans_same hC2.out) (by simp) (by omega)
end Go.Proofs.Ytkkocoalildgnaa
