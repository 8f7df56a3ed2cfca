/-
  Call, Try, Yield of the program, Yield of the document, Need of both, num, Arg of both.
-/
import Derived.Test.YtkkocoalildgnaaMk3
import Derived.Test.YtkkocoalildgnaaMk4
import Derived.Test.YtkkocoalildgnaaSame
namespace Go.Proofs.Ytkkocoalildgnaa
open Go.RowKit

set_option maxHeartbeats 1000000 in
theorem own_call (w : World) (f : V) (A : Option Addr) (vs : List V) (k : Nat) (nx : Int) (A' : Option Addr) (ks : List V) (k' : Nat) (h : Vs w A vs) (hn : vs.length ≤ 1000) (h' : Vs w A' ks) (hn' : ks.length ≤ 1000) :
    Calls Try.prog 20 #[(.agg #[.int .i64 f.k, .int .i64 f.p, .int .i64 f.q, .string f.s, .int .i64 f.r]), .slice A vs.length k, .int .i64 nx, .slice A' ks.length k'] w fun e w' => Made w w' e 3 0 f vs ⟨#[]⟩ 0 nx ks := by
  have hv0 := hid (Rd.none_ h (((Chg.refl (fun _ => False) w).alloc (.cells f.cs.toArray 25)).alloc (.cells zA.toArray 28)))
  have hk0 := hid (Rd.none_ h' (((Chg.refl (fun _ => False) w).alloc (.cells f.cs.toArray 25)).alloc (.cells zA.toArray 28)))
  have hz0 : Hid (Bk ((w.alloc (.cells f.cs.toArray 25)).alloc (.cells zA.toArray 28)) (w.heap.size + 1) 28 zA) := hid (Bk.new_at (w.alloc (.cells f.cs.toArray 25)) 28 zA.toArray (w.heap.size + 1) (by simp))
  clear h h'
  go_enter Try.func20, Try.ntmps20
  go_wp2_with (go_at_call 42; refine (called_any _ 3 f A vs k nx A' ks k' hv0.out hn hk0.out hn').mono ?_; rintro e w2 ⟨A1, c1, A2, c2, rfl, hO1', hO2', hC'⟩; obtain ⟨z0, z1, z2, z3, z4, z5, z6, z7, z8, z9, z10, z11, hfz, hlt⟩ := zA_box (hz0.out.none_ hC'); have hz := hid (hz0.out.none_ hC'); have hO1 := hid hO1'; have hO2 := hid hO2'; have hC := hid hC'; clear hO1' hO2' hC')
  exact fin_act (t := 8) (w0 := (w.alloc (.cells f.cs.toArray 25)).alloc (.cells zA.toArray 28)) (w1 := w2) (b := w.heap.size + 1) (k := 3) (o := 0) (f := f) (vs := vs) (s := ⟨#[]⟩) (l := 0) (n := nx) (ks := ks) rfl rfl rfl hz.out hO1.out hO2.out ((((Chg.refl _ w).alloc _).alloc _).trans_same hC.out) (by simp) (by omega)
set_option maxHeartbeats 1000000 in
theorem own_try (w : World) (f : V) (A : Option Addr) (vs : List V) (k : Nat) (nx : Int) (A' : Option Addr) (ks : List V) (k' : Nat) (h : Vs w A vs) (hn : vs.length ≤ 1000) (h' : Vs w A' ks) (hn' : ks.length ≤ 1000) :
    Calls Try.prog 22 #[(.agg #[.int .i64 f.k, .int .i64 f.p, .int .i64 f.q, .string f.s, .int .i64 f.r]), .slice A vs.length k, .int .i64 nx, .slice A' ks.length k'] w fun e w' => Made w w' e 4 0 f vs ⟨#[]⟩ 0 nx ks := by
  have hv0 := hid (Rd.none_ h (((Chg.refl (fun _ => False) w).alloc (.cells f.cs.toArray 25)).alloc (.cells zA.toArray 28)))
  have hk0 := hid (Rd.none_ h' (((Chg.refl (fun _ => False) w).alloc (.cells f.cs.toArray 25)).alloc (.cells zA.toArray 28)))
  have hz0 : Hid (Bk ((w.alloc (.cells f.cs.toArray 25)).alloc (.cells zA.toArray 28)) (w.heap.size + 1) 28 zA) := hid (Bk.new_at (w.alloc (.cells f.cs.toArray 25)) 28 zA.toArray (w.heap.size + 1) (by simp))
  clear h h'
  go_enter Try.func22, Try.ntmps22
  go_wp2_with (go_at_call 42; refine (called_any _ 4 f A vs k nx A' ks k' hv0.out hn hk0.out hn').mono ?_; rintro e w2 ⟨A1, c1, A2, c2, rfl, hO1', hO2', hC'⟩; obtain ⟨z0, z1, z2, z3, z4, z5, z6, z7, z8, z9, z10, z11, hfz, hlt⟩ := zA_box (hz0.out.none_ hC'); have hz := hid (hz0.out.none_ hC'); have hO1 := hid hO1'; have hO2 := hid hO2'; have hC := hid hC'; clear hO1' hO2' hC')
  exact fin_act (t := 8) (w0 := (w.alloc (.cells f.cs.toArray 25)).alloc (.cells zA.toArray 28)) (w1 := w2) (b := w.heap.size + 1) (k := 4) (o := 0) (f := f) (vs := vs) (s := ⟨#[]⟩) (l := 0) (n := nx) (ks := ks) rfl rfl rfl hz.out hO1.out hO2.out ((((Chg.refl _ w).alloc _).alloc _).trans_same hC.out) (by simp) (by omega)
set_option maxHeartbeats 1000000 in
theorem own_yield (w : World) (A : Option Addr) (vs : List V) (k : Nat) (nx : Int) (A' : Option Addr) (ks : List V) (k' : Nat) (h : Vs w A vs) (hn : vs.length ≤ 1000) (h' : Vs w A' ks) (hn' : ks.length ≤ 1000) :
    Calls Try.prog 24 #[.slice A vs.length k, .int .i64 nx, .slice A' ks.length k'] w fun e w' => Made w w' e 5 0 V.zero vs ⟨#[]⟩ 0 nx ks := by
  have hv0 := hid (Rd.none_ h ((Chg.refl (fun _ => False) w).alloc (.cells zA.toArray 28)))
  have hk0 := hid (Rd.none_ h' ((Chg.refl (fun _ => False) w).alloc (.cells zA.toArray 28)))
  have hz0 : Hid (Bk (w.alloc (.cells zA.toArray 28)) w.heap.size 28 zA) := hid (Bk.new w 28 zA)
  clear h h'
  go_enter Try.func24, Try.ntmps24
  go_wp2_with (go_at_call 42; refine (called_any _ 5 V.zero A vs k nx A' ks k' hv0.out hn hk0.out hn').mono ?_; rintro e w2 ⟨A1, c1, A2, c2, rfl, hO1', hO2', hC'⟩; obtain ⟨z0, z1, z2, z3, z4, z5, z6, z7, z8, z9, z10, z11, hfz, hlt⟩ := zA_box (hz0.out.none_ hC'); have hz := hid (hz0.out.none_ hC'); have hO1 := hid hO1'; have hO2 := hid hO2'; have hC := hid hC'; clear hO1' hO2' hC')
  exact fin_act (t := 6) (w0 := w.alloc (.cells zA.toArray 28)) (w1 := w2) (b := w.heap.size) (k := 5) (o := 0) (f := V.zero) (vs := vs) (s := ⟨#[]⟩) (l := 0) (n := nx) (ks := ks) rfl rfl rfl hz.out hO1.out hO2.out (((Chg.refl _ w).alloc _).trans_same hC.out) (by simp) (by omega)
set_option maxHeartbeats 1000000 in
theorem doc_yield (w : World) (A : Option Addr) (vs : List V) (k : Nat) (nx : Int) (A' : Option Addr) (ks : List V) (k' : Nat) (h : Vs w A vs) (hn : vs.length ≤ 1000) (h' : Vs w A' ks) (hn' : ks.length ≤ 1000) :
    Calls Try.prog 25 #[.slice A vs.length k, .int .i64 nx, .slice A' ks.length k'] w fun e w' => Made w w' e 5 0 V.zero vs ⟨#[]⟩ 0 nx ks := by
  have hv0 := hid (Rd.none_ h ((Chg.refl (fun _ => False) w).alloc (.cells zA.toArray 28)))
  have hk0 := hid (Rd.none_ h' ((Chg.refl (fun _ => False) w).alloc (.cells zA.toArray 28)))
  have hz0 : Hid (Bk (w.alloc (.cells zA.toArray 28)) w.heap.size 28 zA) := hid (Bk.new w 28 zA)
  clear h h'
  go_enter Try.func25, Try.ntmps25
  go_wp2_with fail
  refine (copied_any _ A vs k hv0.out hn).mono ?_
  rintro e w1 ⟨A1, c1, rfl, hO', hC'⟩
  have hO1 := hid hO'
  have hC1 := hid hC'
  have hk1 := hid (Rd.none_ hk0.out hC')
  have hz1 := hid (hz0.out.none_ hC')
  clear hO' hC'
  go_wp2_with fail
  refine (copied_any _ A' ks k' hk1.out hn').mono ?_
  rintro e w2 ⟨A2, c2, rfl, hO', hC'⟩
  have hO2 := hid (hO'.base (w0 := w.alloc (.cells zA.toArray 28)) hC1.out.size)
  have hO3 := hid (hO1.out.none_ hC')
  have hC2 := hid (hC1.out.trans_same hC')
  have hz2 := hid (hz1.out.none_ hC')
  obtain ⟨z0, z1, z2, z3, z4, z5, z6, z7, z8, z9, z10, z11, hfz, hlt⟩ := zA_box hz2.out
  clear hO' hC'
  go_wp2
  exact fin_act (t := 6) (w0 := w.alloc (.cells zA.toArray 28)) (w1 := w2) (b := w.heap.size) (k := 5) (o := 0) (f := V.zero) (vs := vs) (s := ⟨#[]⟩) (l := 0) (n := nx) (ks := ks) rfl rfl rfl hz2.out hO3.out hO2.out (((Chg.refl _ w).alloc _).trans_same hC2.out) (by simp) (by omega)

theorem num_any (w : World) (n : Int) : Calls Try.prog 31 #[.int .i64 n] w fun e w' => e = .returned (.agg #[.int .i64 ((⟨2, n, 1, ⟨#[]⟩, 0⟩ : V)).k, .int .i64 ((⟨2, n, 1, ⟨#[]⟩, 0⟩ : V)).p, .int .i64 ((⟨2, n, 1, ⟨#[]⟩, 0⟩ : V)).q, .string ((⟨2, n, 1, ⟨#[]⟩, 0⟩ : V)).s, .int .i64 ((⟨2, n, 1, ⟨#[]⟩, 0⟩ : V)).r]) ∧ Chg (fun _ => False) w w' := by
  go_enter Try.func31, Try.ntmps31
  go_wp2
  exact bodyPost_ret (v := (.agg #[.int .i64 ((⟨2, n, 1, ⟨#[]⟩, 0⟩ : V)).k, .int .i64 ((⟨2, n, 1, ⟨#[]⟩, 0⟩ : V)).p, .int .i64 ((⟨2, n, 1, ⟨#[]⟩, 0⟩ : V)).q, .string ((⟨2, n, 1, ⟨#[]⟩, 0⟩ : V)).s, .int .i64 ((⟨2, n, 1, ⟨#[]⟩, 0⟩ : V)).r])) (by simp [results, Try.results31, go_sem]) rfl ⟨rfl, (Chg.refl _ w).alloc _⟩

def argAt (vs : List V) (i : Int) : V := if i < 0 ∨ (vs.length : Int) ≤ i then V.zero else vAt vs i.toNat
set_option maxHeartbeats 1000000 in
theorem own_arg (w : World) (A : Option Addr) (vs : List V) (k : Nat) (i : Int) (h : Vs w A vs) (_hn : vs.length ≤ 1000) : Calls Try.prog 27 #[.slice A vs.length k, .int .i64 i] w fun e w' => e = .returned (.agg #[.int .i64 (argAt vs i).k, .int .i64 (argAt vs i).p, .int .i64 (argAt vs i).q, .string (argAt vs i).s, .int .i64 (argAt vs i).r]) ∧ Chg (fun _ => False) w w' := by
  by_cases h0 : i < 0
  · rw [show argAt vs i = V.zero by unfold argAt; rw [if_pos (.inl h0)]]
    have hd : decide (i < 0) = true := by simpa using h0
    go_enter Try.func27, Try.ntmps27
    go_wp2
    exact bodyPost_ret (v := (.agg #[.int .i64 V.zero.k, .int .i64 V.zero.p, .int .i64 V.zero.q, .string V.zero.s, .int .i64 V.zero.r])) (by simp [results, Try.results27, go_sem, V.zero]) rfl ⟨rfl, (Chg.refl _ w).alloc _⟩
  have hd : decide (i < 0) = false := by simpa using h0
  by_cases h1 : (vs.length : Int) ≤ i
  · rw [show argAt vs i = V.zero by unfold argAt; rw [if_pos (.inr h1)]]
    have hd1 : decide ((vs.length : Int) ≤ i) = true := by simpa using h1
    go_enter Try.func27, Try.ntmps27
    go_wp2
    exact bodyPost_ret (v := (.agg #[.int .i64 V.zero.k, .int .i64 V.zero.p, .int .i64 V.zero.q, .string V.zero.s, .int .i64 V.zero.r])) (by simp [results, Try.results27, go_sem, V.zero]) rfl ⟨rfl, (Chg.refl _ w).alloc _⟩
  · obtain ⟨j, rfl⟩ := Int.eq_ofNat_of_zero_le (Int.not_lt.1 h0)
    have hj : j < vs.length := by omega
    rw [show argAt vs j = vAt vs j by unfold argAt; rw [if_neg (by omega), Int.toNat_natCast]]
    have hd1 : decide ((vs.length : Int) ≤ j) = false := by simp; omega
    obtain ⟨b, o, rfl, hb, x0, x1, x2, x3, x4⟩ := h.at_ hj
    have h := hid h
    clear h0 h1
    go_enter Try.func27, Try.ntmps27
    go_wp2
    exact bodyPost_ret (v := (.agg #[.int .i64 (vAt vs j).k, .int .i64 (vAt vs j).p, .int .i64 (vAt vs j).q, .string (vAt vs j).s, .int .i64 (vAt vs j).r])) (by simp [results, Try.results27, go_sem]) rfl ⟨rfl, (Chg.refl _ w).alloc _⟩
set_option maxHeartbeats 1000000 in
theorem doc_arg (w : World) (A : Option Addr) (vs : List V) (k : Nat) (i : Int) (h : Vs w A vs) (_hn : vs.length ≤ 1000) : Calls Try.prog 28 #[.slice A vs.length k, .int .i64 i] w fun e w' => e = .returned (.agg #[.int .i64 (argAt vs i).k, .int .i64 (argAt vs i).p, .int .i64 (argAt vs i).q, .string (argAt vs i).s, .int .i64 (argAt vs i).r]) ∧ Chg (fun _ => False) w w' := by
  by_cases h0 : i < 0
  · rw [show argAt vs i = V.zero by unfold argAt; rw [if_pos (.inl h0)]]
    have hd : decide (i < 0) = true := by simpa using h0
    go_enter Try.func28, Try.ntmps28
    go_wp2
    exact bodyPost_ret (v := (.agg #[.int .i64 V.zero.k, .int .i64 V.zero.p, .int .i64 V.zero.q, .string V.zero.s, .int .i64 V.zero.r])) (by simp [results, Try.results28, go_sem, V.zero]) rfl ⟨rfl, (Chg.refl _ w).alloc _⟩
  have hd : decide (i < 0) = false := by simpa using h0
  by_cases h1 : (vs.length : Int) ≤ i
  · rw [show argAt vs i = V.zero by unfold argAt; rw [if_pos (.inr h1)]]
    have hd1 : decide ((vs.length : Int) ≤ i) = true := by simpa using h1
    go_enter Try.func28, Try.ntmps28
    go_wp2
    exact bodyPost_ret (v := (.agg #[.int .i64 V.zero.k, .int .i64 V.zero.p, .int .i64 V.zero.q, .string V.zero.s, .int .i64 V.zero.r])) (by simp [results, Try.results28, go_sem, V.zero]) rfl ⟨rfl, (Chg.refl _ w).alloc _⟩
  · obtain ⟨j, rfl⟩ := Int.eq_ofNat_of_zero_le (Int.not_lt.1 h0)
    have hj : j < vs.length := by omega
    rw [show argAt vs j = vAt vs j by unfold argAt; rw [if_neg (by omega), Int.toNat_natCast]]
    have hd1 : decide ((vs.length : Int) ≤ j) = false := by simp; omega
    obtain ⟨b, o, rfl, hb, x0, x1, x2, x3, x4⟩ := h.at_ hj
    have h := hid h
    clear h0 h1
    go_enter Try.func28, Try.ntmps28
    go_wp2
    exact bodyPost_ret (v := (.agg #[.int .i64 (vAt vs j).k, .int .i64 (vAt vs j).p, .int .i64 (vAt vs j).q, .string (vAt vs j).s, .int .i64 (vAt vs j).r])) (by simp [results, Try.results28, go_sem]) rfl ⟨rfl, (Chg.refl _ w).alloc _⟩
end Go.Proofs.Ytkkocoalildgnaa
