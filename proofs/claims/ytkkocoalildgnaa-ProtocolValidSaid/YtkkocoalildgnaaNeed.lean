/-
  Need of the program and of the document.
-/
import Derived.Test.YtkkocoalildgnaaMk5
namespace Go.Proofs.Ytkkocoalildgnaa
open Go.RowKit

/-- What comes of a need. -/
def needAc (k : Int) (v f : V) (vs : List V) (s : ByteArray) (nx : Int) (ks : List V) : Ac :=
  if k = 1 then ⟨1, 0, V.zero, [v], ⟨#[]⟩, 0, 0, []⟩ else if k = 2 then ⟨3, 0, f, vs, ⟨#[]⟩, 0, nx, ks⟩ else if k = 3 then ⟨2, 0, V.zero, [⟨3, 0, 0, cut s, 0⟩], ⟨#[]⟩, 1, 0, []⟩ else ⟨1, 0, V.zero, [], ⟨#[]⟩, 0, 0, []⟩
def MadeA (w w' : World) (e : Ending) (a : Ac) : Prop := Made w w' e a.k a.o a.f a.vs a.s a.l a.n a.ks
set_option maxHeartbeats 4000000 in
theorem own_need (w : World) (kd : Int) (v f : V) (A : Option Addr) (vs : List V) (k : Nat) (af : Int) (s : ByteArray) (nx : Int) (A' : Option Addr) (ks : List V) (k' : Nat) (h : Vs w A vs) (hn : vs.length ≤ 1000) (h' : Vs w A' ks) (hn' : ks.length ≤ 1000) (hs : s.size ≤ maxLen) :
    Calls Try.prog 29 #[.agg #[.int .i64 kd, .int .i64 v.k, .int .i64 v.p, .int .i64 v.q, .string v.s, .int .i64 v.r, .int .i64 f.k, .int .i64 f.p, .int .i64 f.q, .string f.s, .int .i64 f.r, .slice A vs.length k, .int .i64 af, .string s], .int .i64 nx, .slice A' ks.length k'] w fun e w' => MadeA w w' e (needAc kd v f vs s nx ks) := by
  obtain ⟨W0, hW⟩ : ∃ W0, W0 = (w.alloc (.cells #[.int .i64 kd, .int .i64 v.k, .int .i64 v.p, .int .i64 v.q, .string v.s, .int .i64 v.r, .int .i64 f.k, .int .i64 f.p, .int .i64 f.q, .string f.s, .int .i64 f.r, .slice A vs.length k, .int .i64 af, .string s] 47)).alloc (.cells zA.toArray 28) := ⟨_, rfl⟩
  have hC0 : Hid (Chg (fun _ => False) w W0) := hid (by rw [hW]; exact ((Chg.refl _ w).alloc _).alloc _)
  have hs0 : W0.heap.size = w.heap.size + 2 := by rw [hW]; simp
  have hz0 : Hid (Bk W0 (w.heap.size + 1) 28 zA) := hid (by rw [hW]; exact Bk.new_at (w.alloc _) 28 zA.toArray (w.heap.size + 1) (by simp))
  have hv0 := hid (Rd.none_ h hC0.out)
  have hk0 := hid (Rd.none_ h' hC0.out)
  have hs0 := hid hs0
  clear h h'
  by_cases h1 : kd = 1
  · subst h1
    have hvs : Hid (Vs (W0.alloc (.cells v.cs.toArray 25)) (some ⟨w.heap.size + 2, 0, none⟩) [v]) := hid (vs_one W0 v _ hs0.out)
    rw [show needAc 1 v f vs s nx ks = ⟨1, 0, V.zero, [v], ⟨#[]⟩, 0, 0, []⟩ by unfold needAc; rw [if_pos rfl]]
    subst hW
    go_enter Try.func29, Try.ntmps29
    go_wp2_with (go_at_call 14; refine (own_return _ _ [v] 1 hvs.out (by simp)).mono ?_; rintro e w2 ⟨A1, c1, A2, c2, rfl, hO1', hO2', hC'⟩; obtain ⟨z0, z1, z2, z3, z4, z5, z6, z7, z8, z9, z10, z11, hfz, hlt⟩ := zA_box ((hz0.out.alloc _).none_ hC'); have hz := hid ((hz0.out.alloc _).none_ hC'); have hO1 := hid hO1'; have hO2 := hid hO2'; have hC := hid hC'; clear hO1' hO2' hC')
    exact fin_act (t := 6) (w0 := ((w.alloc (.cells #[.int .i64 1, .int .i64 v.k, .int .i64 v.p, .int .i64 v.q, .string v.s, .int .i64 v.r, .int .i64 f.k, .int .i64 f.p, .int .i64 f.q, .string f.s, .int .i64 f.r, .slice A vs.length k, .int .i64 af, .string s] 47)).alloc (.cells zA.toArray 28)).alloc (.cells v.cs.toArray 25)) (w1 := w2) (b := w.heap.size + 1) (k := 1) (o := 0) (f := V.zero) (vs := [v]) (s := ⟨#[]⟩) (l := 0) (n := 0) (ks := []) rfl rfl rfl hz.out hO1.out hO2.out ((hC0.out.alloc _).trans_same hC.out) (by simp) (by omega)
  by_cases h2 : kd = 2
  · subst h2
    rw [show needAc 2 v f vs s nx ks = ⟨3, 0, f, vs, ⟨#[]⟩, 0, nx, ks⟩ by unfold needAc; rw [if_neg (by omega), if_pos rfl]]
    clear h1
    subst hW
    go_enter Try.func29, Try.ntmps29
    go_wp2_with (go_at_call 20; refine (own_call _ f A vs k nx A' ks k' hv0.out hn hk0.out hn').mono ?_; rintro e w2 ⟨A1, c1, A2, c2, rfl, hO1', hO2', hC'⟩; obtain ⟨z0, z1, z2, z3, z4, z5, z6, z7, z8, z9, z10, z11, hfz, hlt⟩ := zA_box (hz0.out.none_ hC'); have hz := hid (hz0.out.none_ hC'); have hO1 := hid hO1'; have hO2 := hid hO2'; have hC := hid hC'; clear hO1' hO2' hC')
    exact fin_act (t := 6) (w0 := (w.alloc (.cells #[.int .i64 2, .int .i64 v.k, .int .i64 v.p, .int .i64 v.q, .string v.s, .int .i64 v.r, .int .i64 f.k, .int .i64 f.p, .int .i64 f.q, .string f.s, .int .i64 f.r, .slice A vs.length k, .int .i64 af, .string s] 47)).alloc (.cells zA.toArray 28)) (w1 := w2) (b := w.heap.size + 1) (k := 3) (o := 0) (f := f) (vs := vs) (s := ⟨#[]⟩) (l := 0) (n := nx) (ks := ks) rfl rfl rfl hz.out hO1.out hO2.out (hC0.out.trans_same hC.out) (by simp) (by omega)
  by_cases h3 : kd = 3
  · subst h3
    rw [show needAc 3 v f vs s nx ks = ⟨2, 0, V.zero, [⟨3, 0, 0, cut s, 0⟩], ⟨#[]⟩, 1, 0, []⟩ by unfold needAc; rw [if_neg (by omega), if_neg (by omega), if_pos rfl]]
    clear h1 h2
    subst hW
    go_enter Try.func29, Try.ntmps29
    go_wp2_with (go_at_call 18; refine (own_error _ s hs).mono ?_; rintro e w2 ⟨A1, c1, A2, c2, rfl, hO1', hO2', hC'⟩; obtain ⟨z0, z1, z2, z3, z4, z5, z6, z7, z8, z9, z10, z11, hfz, hlt⟩ := zA_box (hz0.out.none_ hC'); have hz := hid (hz0.out.none_ hC'); have hO1 := hid hO1'; have hO2 := hid hO2'; have hC := hid hC'; clear hO1' hO2' hC')
    exact fin_act (t := 6) (w0 := (w.alloc (.cells #[.int .i64 3, .int .i64 v.k, .int .i64 v.p, .int .i64 v.q, .string v.s, .int .i64 v.r, .int .i64 f.k, .int .i64 f.p, .int .i64 f.q, .string f.s, .int .i64 f.r, .slice A vs.length k, .int .i64 af, .string s] 47)).alloc (.cells zA.toArray 28)) (w1 := w2) (b := w.heap.size + 1) (k := 2) (o := 0) (f := V.zero) (vs := [⟨3, 0, 0, cut s, 0⟩]) (s := ⟨#[]⟩) (l := 1) (n := 0) (ks := []) rfl rfl rfl hz.out hO1.out hO2.out (hC0.out.trans_same hC.out) (by simp) (by omega)
  · rw [show needAc kd v f vs s nx ks = ⟨1, 0, V.zero, [], ⟨#[]⟩, 0, 0, []⟩ by unfold needAc; rw [if_neg h1, if_neg h2, if_neg h3]]
    have k1 : (kd == 1) = false := by simpa using h1
    have k2 : (kd == 2) = false := by simpa using h2
    have k3 : (kd == 3) = false := by simpa using h3
    have hvs : Hid (Vs W0 none []) := hid ⟨by simp, fun h => absurd h (by simp)⟩
    clear h1 h2 h3
    subst hW
    go_enter Try.func29, Try.ntmps29
    go_wp2_with (go_at_call 14; refine (own_return _ none [] 0 hvs.out (by simp)).mono ?_; rintro e w2 ⟨A1, c1, A2, c2, rfl, hO1', hO2', hC'⟩; obtain ⟨z0, z1, z2, z3, z4, z5, z6, z7, z8, z9, z10, z11, hfz, hlt⟩ := zA_box (hz0.out.none_ hC'); have hz := hid (hz0.out.none_ hC'); have hO1 := hid hO1'; have hO2 := hid hO2'; have hC := hid hC'; clear hO1' hO2' hC')
    exact fin_act (t := 6) (w0 := (w.alloc (.cells #[.int .i64 kd, .int .i64 v.k, .int .i64 v.p, .int .i64 v.q, .string v.s, .int .i64 v.r, .int .i64 f.k, .int .i64 f.p, .int .i64 f.q, .string f.s, .int .i64 f.r, .slice A vs.length k, .int .i64 af, .string s] 47)).alloc (.cells zA.toArray 28)) (w1 := w2) (b := w.heap.size + 1) (k := 1) (o := 0) (f := V.zero) (vs := []) (s := ⟨#[]⟩) (l := 0) (n := 0) (ks := []) rfl rfl rfl hz.out hO1.out hO2.out (hC0.out.trans_same hC.out) (by simp) (by omega)
set_option maxHeartbeats 4000000 in
theorem doc_need (w : World) (kd : Int) (v f : V) (A : Option Addr) (vs : List V) (k : Nat) (af : Int) (s : ByteArray) (nx : Int) (A' : Option Addr) (ks : List V) (k' : Nat) (h : Vs w A vs) (hn : vs.length ≤ 1000) (h' : Vs w A' ks) (hn' : ks.length ≤ 1000) (hs : s.size ≤ maxLen) :
    Calls Try.prog 30 #[.agg #[.int .i64 kd, .int .i64 v.k, .int .i64 v.p, .int .i64 v.q, .string v.s, .int .i64 v.r, .int .i64 f.k, .int .i64 f.p, .int .i64 f.q, .string f.s, .int .i64 f.r, .slice A vs.length k, .int .i64 af, .string s], .int .i64 nx, .slice A' ks.length k'] w fun e w' => MadeA w w' e (needAc kd v f vs s nx ks) := by
  obtain ⟨W0, hW⟩ : ∃ W0, W0 = (w.alloc (.cells #[.int .i64 kd, .int .i64 v.k, .int .i64 v.p, .int .i64 v.q, .string v.s, .int .i64 v.r, .int .i64 f.k, .int .i64 f.p, .int .i64 f.q, .string f.s, .int .i64 f.r, .slice A vs.length k, .int .i64 af, .string s] 47)).alloc (.cells zA.toArray 28) := ⟨_, rfl⟩
  have hC0 : Hid (Chg (fun _ => False) w W0) := hid (by rw [hW]; exact ((Chg.refl _ w).alloc _).alloc _)
  have hs0 : W0.heap.size = w.heap.size + 2 := by rw [hW]; simp
  have hz0 : Hid (Bk W0 (w.heap.size + 1) 28 zA) := hid (by rw [hW]; exact Bk.new_at (w.alloc _) 28 zA.toArray (w.heap.size + 1) (by simp))
  have hv0 := hid (Rd.none_ h hC0.out)
  have hk0 := hid (Rd.none_ h' hC0.out)
  have hs0 := hid hs0
  clear h h'
  by_cases h1 : kd = 1
  · subst h1
    have hvs : Hid (Vs (W0.alloc (.cells v.cs.toArray 25)) (some ⟨w.heap.size + 2, 0, none⟩) [v]) := hid (vs_one W0 v _ hs0.out)
    rw [show needAc 1 v f vs s nx ks = ⟨1, 0, V.zero, [v], ⟨#[]⟩, 0, 0, []⟩ by unfold needAc; rw [if_pos rfl]]
    subst hW
    go_enter Try.func30, Try.ntmps30
    go_wp2_with (go_at_call 15; refine (doc_return _ _ [v] 1 hvs.out (by simp)).mono ?_; rintro e w2 ⟨A1, c1, A2, c2, rfl, hO1', hO2', hC'⟩; obtain ⟨z0, z1, z2, z3, z4, z5, z6, z7, z8, z9, z10, z11, hfz, hlt⟩ := zA_box ((hz0.out.alloc _).none_ hC'); have hz := hid ((hz0.out.alloc _).none_ hC'); have hO1 := hid hO1'; have hO2 := hid hO2'; have hC := hid hC'; clear hO1' hO2' hC')
    exact fin_act (t := 6) (w0 := ((w.alloc (.cells #[.int .i64 1, .int .i64 v.k, .int .i64 v.p, .int .i64 v.q, .string v.s, .int .i64 v.r, .int .i64 f.k, .int .i64 f.p, .int .i64 f.q, .string f.s, .int .i64 f.r, .slice A vs.length k, .int .i64 af, .string s] 47)).alloc (.cells zA.toArray 28)).alloc (.cells v.cs.toArray 25)) (w1 := w2) (b := w.heap.size + 1) (k := 1) (o := 0) (f := V.zero) (vs := [v]) (s := ⟨#[]⟩) (l := 0) (n := 0) (ks := []) rfl rfl rfl hz.out hO1.out hO2.out ((hC0.out.alloc _).trans_same hC.out) (by simp) (by omega)
  by_cases h2 : kd = 2
  · subst h2
    rw [show needAc 2 v f vs s nx ks = ⟨3, 0, f, vs, ⟨#[]⟩, 0, nx, ks⟩ by unfold needAc; rw [if_neg (by omega), if_pos rfl]]
    clear h1
    subst hW
    go_enter Try.func30, Try.ntmps30
    go_wp2_with (go_at_call 21; refine (doc_call_any _ f A vs k nx A' ks k' hv0.out hn hk0.out hn').mono ?_; rintro e w2 ⟨A1, c1, A2, c2, rfl, hO1', hO2', hC'⟩; obtain ⟨z0, z1, z2, z3, z4, z5, z6, z7, z8, z9, z10, z11, hfz, hlt⟩ := zA_box (hz0.out.none_ hC'); have hz := hid (hz0.out.none_ hC'); have hO1 := hid hO1'; have hO2 := hid hO2'; have hC := hid hC'; clear hO1' hO2' hC')
    exact fin_act (t := 6) (w0 := (w.alloc (.cells #[.int .i64 2, .int .i64 v.k, .int .i64 v.p, .int .i64 v.q, .string v.s, .int .i64 v.r, .int .i64 f.k, .int .i64 f.p, .int .i64 f.q, .string f.s, .int .i64 f.r, .slice A vs.length k, .int .i64 af, .string s] 47)).alloc (.cells zA.toArray 28)) (w1 := w2) (b := w.heap.size + 1) (k := 3) (o := 0) (f := f) (vs := vs) (s := ⟨#[]⟩) (l := 0) (n := nx) (ks := ks) rfl rfl rfl hz.out hO1.out hO2.out (hC0.out.trans_same hC.out) (by simp) (by omega)
  by_cases h3 : kd = 3
  · subst h3
    rw [show needAc 3 v f vs s nx ks = ⟨2, 0, V.zero, [⟨3, 0, 0, cut s, 0⟩], ⟨#[]⟩, 1, 0, []⟩ by unfold needAc; rw [if_neg (by omega), if_neg (by omega), if_pos rfl]]
    clear h1 h2
    subst hW
    go_enter Try.func30, Try.ntmps30
    go_wp2_with (go_at_call 19; refine (doc_error _ s hs).mono ?_; rintro e w2 ⟨A1, c1, A2, c2, rfl, hO1', hO2', hC'⟩; obtain ⟨z0, z1, z2, z3, z4, z5, z6, z7, z8, z9, z10, z11, hfz, hlt⟩ := zA_box (hz0.out.none_ hC'); have hz := hid (hz0.out.none_ hC'); have hO1 := hid hO1'; have hO2 := hid hO2'; have hC := hid hC'; clear hO1' hO2' hC')
    exact fin_act (t := 6) (w0 := (w.alloc (.cells #[.int .i64 3, .int .i64 v.k, .int .i64 v.p, .int .i64 v.q, .string v.s, .int .i64 v.r, .int .i64 f.k, .int .i64 f.p, .int .i64 f.q, .string f.s, .int .i64 f.r, .slice A vs.length k, .int .i64 af, .string s] 47)).alloc (.cells zA.toArray 28)) (w1 := w2) (b := w.heap.size + 1) (k := 2) (o := 0) (f := V.zero) (vs := [⟨3, 0, 0, cut s, 0⟩]) (s := ⟨#[]⟩) (l := 1) (n := 0) (ks := []) rfl rfl rfl hz.out hO1.out hO2.out (hC0.out.trans_same hC.out) (by simp) (by omega)
  · rw [show needAc kd v f vs s nx ks = ⟨1, 0, V.zero, [], ⟨#[]⟩, 0, 0, []⟩ by unfold needAc; rw [if_neg h1, if_neg h2, if_neg h3]]
    have k1 : (kd == 1) = false := by simpa using h1
    have k2 : (kd == 2) = false := by simpa using h2
    have k3 : (kd == 3) = false := by simpa using h3
    have hvs : Hid (Vs W0 none []) := hid ⟨by simp, fun h => absurd h (by simp)⟩
    clear h1 h2 h3
    subst hW
    go_enter Try.func30, Try.ntmps30
    go_wp2_with (go_at_call 15; refine (doc_return _ none [] 0 hvs.out (by simp)).mono ?_; rintro e w2 ⟨A1, c1, A2, c2, rfl, hO1', hO2', hC'⟩; obtain ⟨z0, z1, z2, z3, z4, z5, z6, z7, z8, z9, z10, z11, hfz, hlt⟩ := zA_box (hz0.out.none_ hC'); have hz := hid (hz0.out.none_ hC'); have hO1 := hid hO1'; have hO2 := hid hO2'; have hC := hid hC'; clear hO1' hO2' hC')
    exact fin_act (t := 6) (w0 := (w.alloc (.cells #[.int .i64 kd, .int .i64 v.k, .int .i64 v.p, .int .i64 v.q, .string v.s, .int .i64 v.r, .int .i64 f.k, .int .i64 f.p, .int .i64 f.q, .string f.s, .int .i64 f.r, .slice A vs.length k, .int .i64 af, .string s] 47)).alloc (.cells zA.toArray 28)) (w1 := w2) (b := w.heap.size + 1) (k := 1) (o := 0) (f := V.zero) (vs := []) (s := ⟨#[]⟩) (l := 0) (n := 0) (ks := []) rfl rfl rfl hz.out hO1.out hO2.out (hC0.out.trans_same hC.out) (by simp) (by omega)
end Go.Proofs.Ytkkocoalildgnaa
