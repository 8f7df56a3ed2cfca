/-
  CleanupOwn: the walk.
-/
import Derived.Test.YtpfopidmdnkkeaaHeld
import Derived.Test.YtpfopidmdnkkeaaWrap2
namespace Go.Proofs.Ytpfopidmdnkkeaa
open Go.RowKit Go.Maps

section
variable {w0 wr w' : World} {S : Nat → Prop} {N o r M n : Nat} {es es' es1 : List En} {fl fl' fl1 : Option Fl} {s : Value} {rs : List V}
theorem Held.bk' {b : Nat} {t : TypeId} {cs : List Value} (h : Held w0 wr S N o r M es fl es' fl' s n rs) (hb : Bk w0 b t cs) : Bk wr b t cs := hb.none_ h.chg
/-- From here on the lists keep to the blocks that they have and to new ones. -/
theorem Held.refix (h : Held w0 wr S N o r M es fl es' fl' s n rs) : ∃ S', (∀ k, S' k → k < wr.heap.size) ∧ ∀ w2, Chg (fun _ => False) wr w2 → Held w0 w2 S' w2.heap.size o r M es fl es' fl' s n rs := by
  obtain ⟨S', hS, hfix⟩ := h.two.fix
  refine ⟨S', fun k hk => (hS k hk).1, fun w2 hc => ⟨hfix w2 _ hc, own_chg h.row hc fun _ _ h => h, fun k hk => ⟨fun e => ?_, Nat.lt_of_lt_of_le (own_lt h.row hk) hc.size⟩, Nat.le_refl _, h.chg.trans_same hc, fun k hk => ?_⟩⟩
  · have h1 := h.out k hk
    rcases (hS k e).2 with h2 | h2
    · exact h1.1 h2
    · omega
  · rcases hk with e | e
    · exact h.lo k (hS k e).2
    · have := h.chg.size
      have := hc.size
      omega
/-- A block of the law's own beside the lists and the row is written. -/
theorem Held.far {g : Nat} (h : Held w0 wr S N o r M es fl es' fl' s n rs) (hc : Chg (fun k => k = g) wr w') (h1 : ¬ S g) (h2 : g < N) (h3 : s.ownBlock ≠ some g) (h4 : w0.heap.size ≤ g) : Held w0 w' S N o r M es fl es' fl' s n rs :=
  ⟨h.two.chg hc fun k hk e => by subst e; exact hk.elim h1 fun h => by omega, own_chg h.row hc fun k hk e => h3 (by rw [← e]; exact hk), h.out, Nat.le_trans h.hN hc.size, h.chg.trans hc fun k hk e => by omega, h.lo⟩
end
/-- A row that is written over: it stays one. -/
def Some5 (w : World) (A : Option Addr) (n k : Nat) : Prop := ∃ xs, w.ownsRow 0 25 5 (.slice A n k) n xs
theorem Some5.chg {T : Nat → Prop} {w w' : World} {A : Option Addr} {n k : Nat} (h : Some5 w A n k) (hc : Chg T w w') (hn : ∀ b, A = some ⟨b, 0, none⟩ → ¬ T b) : Some5 w' A n k := by
  obtain ⟨xs, h⟩ := h
  exact ⟨xs, own_chg h hc fun b hb => hn b (by
    obtain ⟨A', k', e, _⟩ := own_form h
    rcases h.2 with ⟨e1, _⟩ | ⟨g, cap, cur, e1, _⟩
    · rw [e1] at hb; simp [Value.ownBlock] at hb
    · rw [e1] at hb
      obtain rfl : g = b := by simpa [Value.ownBlock] using hb
      injection e1)⟩
theorem Some5.put {w : World} {g n k : Nat} (h : Some5 w (some ⟨g, 0, none⟩) n k) (j : Nat) (v : V) : Some5 (put5 w g j v) (some ⟨g, 0, none⟩) n k := by
  obtain ⟨xs, h⟩ := h
  exact ⟨_, own_put5 h j v⟩
theorem Some5.at_ {w : World} {A : Option Addr} {n k i : Nat} (h : Some5 w A n k) (hi : i < n) : ∃ g, A = some ⟨g, 0, none⟩ ∧ g < w.heap.size ∧ (∀ j, j < 5 → ∃ u, w.cell? ⟨g, i * 5 + j, none⟩ = some u) ∧ ∀ j, w.frozen? ⟨g, j, none⟩ = false := by
  obtain ⟨xs, h⟩ := h
  obtain ⟨A', cap', e1, _, _, hA, hc⟩ := own_form h
  injection e1 with e1 _ e3
  subst e1; subst e3
  obtain ⟨g, rfl⟩ := hA (by omega)
  refine ⟨g, rfl, own_lt h (k := g) rfl, fun j hj => ?_, (hc g rfl).2.1⟩
  have hl := h.1
  refine ⟨xs[i * 5 + j]'(by rw [hl]; omega), ?_⟩
  rw [(hc g rfl).1 _ (by omega), List.getElem?_eq_getElem (by rw [hl]; omega)]
def Some3 (w : World) (A : Option Addr) (n k : Nat) : Prop := ∃ xs, w.ownsRow 0 64 3 (.slice A n k) n xs
theorem Some3.chg {T : Nat → Prop} {w w' : World} {A : Option Addr} {n k : Nat} (h : Some3 w A n k) (hc : Chg T w w') (hn : ∀ b, A = some ⟨b, 0, none⟩ → ¬ T b) : Some3 w' A n k := by
  obtain ⟨xs, h⟩ := h
  exact ⟨xs, own_chg h hc fun b hb => hn b (by
    obtain ⟨A', k', e, _⟩ := own_form h
    rcases h.2 with ⟨e1, _⟩ | ⟨g, cap, cur, e1, _⟩
    · rw [e1] at hb; simp [Value.ownBlock] at hb
    · rw [e1] at hb
      obtain rfl : g = b := by simpa [Value.ownBlock] using hb
      injection e1)⟩
theorem Some3.put {w : World} {g n k : Nat} (h : Some3 w (some ⟨g, 0, none⟩) n k) (j : Nat) (u : Value) : Some3 (w.setCell ⟨g, j, none⟩ u) (some ⟨g, 0, none⟩) n k := by
  obtain ⟨xs, h⟩ := h
  exact ⟨_, own_set h j u⟩
theorem Some3.at_ {w : World} {A : Option Addr} {n k i : Nat} (h : Some3 w A n k) (hi : i < n) : ∃ g, A = some ⟨g, 0, none⟩ ∧ g < w.heap.size ∧ (∃ u, w.cell? ⟨g, i * 3, none⟩ = some u) ∧ ∀ j, w.frozen? ⟨g, j, none⟩ = false := by
  obtain ⟨xs, h⟩ := h
  obtain ⟨A', cap', e1, _, _, hA, hc⟩ := own_form h
  injection e1 with e1 _ e3
  subst e1; subst e3
  obtain ⟨g, rfl⟩ := hA (by omega)
  have hl := h.1
  refine ⟨g, rfl, own_lt h (k := g) rfl, ⟨xs[i * 3]'(by rw [hl]; omega), ?_⟩, (hc g rfl).2.1⟩
  rw [(hc g rfl).1 _ (by omega), List.getElem?_eq_getElem (by rw [hl]; omega)]
theorem own_name {w0 wr : World} {S : Nat → Prop} {o r M n b g nt k : Nat} {es es' : List En} {fl fl' : Option Fl} {s : Value} {rs : List V} {x : V} (h : Held w0 wr S (b + 1) o r M es fl es' fl' s n rs) (h3 : Some3 wr (some ⟨g, 0, none⟩) nt k) (hb : Bk wr b 30 [.int .i64 x.k, .int .i64 x.p, .int .i64 x.q, .string x.s, .int .i64 x.r, .slice (some ⟨g, 0, none⟩) nt k]) (j : Nat) (u : Value)
    (g1 : ¬ S g) (g2 : g < b) (g3 : s.ownBlock ≠ some g) (g4 : w0.heap.size ≤ g) : Held w0 (wr.setCell ⟨g, j, none⟩ u) S (b + 1) o r M es fl es' fl' s n rs ∧ Some3 (wr.setCell ⟨g, j, none⟩ u) (some ⟨g, 0, none⟩) nt k ∧ Bk (wr.setCell ⟨g, j, none⟩ u) b 30 [.int .i64 x.k, .int .i64 x.p, .int .i64 x.q, .string x.s, .int .i64 x.r, .slice (some ⟨g, 0, none⟩) nt k] :=
  ⟨h.far ((Chg.refl (fun k => k = g) _).setCell (p := ⟨g, j, none⟩) (fun _ => rfl) u) g1 (by omega) g3 g4, h3.put j u, hb.far (p := ⟨g, j, none⟩) (by simp; omega) u⟩
set_option maxRecDepth 100000 in
set_option maxHeartbeats 8000000 in
theorem own_true_ (w : World) (A : Option Addr) (l : List OpV) (k : Nat) (x : V) (At : Option Addr) (tr : List Pl) (kt : Nat) (hl : Rd w 7 A l.length (l.flatMap OpV.cs)) (ht : Rd w 3 At tr.length (tr.flatMap Pl.cs)) :
    Calls Try.prog 8 #[.slice A l.length k, .agg #[.int .i64 x.k, .int .i64 x.p, .int .i64 x.q, .string x.s, .int .i64 x.r, .slice At tr.length kt]] w fun e w' => e = .returned (.bool true) ∧ Below w.heap.size w w' := by
  have hC0 := hid ((Chg.refl (fun _ => False) w).alloc (.cells #[.int .i64 x.k, .int .i64 x.p, .int .i64 x.q, .string x.s, .int .i64 x.r, .slice At tr.length kt] 30))
  obtain ⟨nt, hnt⟩ : ∃ nt, Hid (tr.length = nt) := ⟨_, hid rfl⟩
  have htr := hid ht
  rw [hnt.out] at hC0 ⊢
  clear ht
  refine (Classical.em (300 < l.length)).elim ?lg ?sm
  case' lg =>
    intro hs
    go_enter Try.func8, Try.ntmps8
    go_wp2_with fail
    refine (large_any _ A l.length k (decide_eq_true hs)).mono ?_
    rintro e w1 ⟨rfl, rfl⟩
    clear hs
    go_wp2_with fail
  case' sm =>
    intro hs
    refine (Classical.em (300 < nt)).elim ?lg2 ?sm2
    case' lg2 =>
      intro ht
      have dt : decide ((300 : Int) < (nt : Int)) = true := by simp; omega
      go_enter Try.func8, Try.ntmps8
      go_wp2_with fail
      refine (large_any _ A l.length k (decide_eq_false hs)).mono ?_
      rintro e w1 ⟨rfl, rfl⟩
      clear hs ht
      go_wp2_with fail
  case' sm2 =>
    intro ht
    have dt : decide ((300 : Int) < (nt : Int)) = false := by simp; omega
    have hl := hid (hl.none_ hC0.out)
    have htrr := hid (htr.out.none_ hC0.out)
    have hs' := hid (decide_eq_false hs)
    have hs2 : l.length ≤ 300 := by omega
    have hnt2 : nt ≤ 300 := by omega
    have hF0 := hid (Bk.new w 30 [.int .i64 x.k, .int .i64 x.p, .int .i64 x.q, .string x.s, .int .i64 x.r, .slice At nt kt])
    obtain ⟨i25, hi25, hz25, hs25, hb25⟩ := info_parts Try.info25
    clear hs ht
    go_enter Try.func8, Try.ntmps8
    go_wp2_with fail
    refine (large_any _ A l.length k hs'.out).mono ?_
    rintro e w0 ⟨rfl, rfl⟩
    clear hs'
    go_wp2_with fail
    refine (made_true _ A l k hl.out hs2).mono ?_
    rintro e w1 ⟨o, r, rfl, es, fl, hT', hm', hsm', hz', hC'⟩
    have hH1 := hid (Held.bare hT' hC')
    obtain ⟨n, hn⟩ : ∃ n, Hid (es.length = n) := ⟨_, hid rfl⟩
    have hn1 : n ≤ 300 := by have := hn.out; omega
    generalize l.length = j at hH1 hs2
    clear hT' hC' hm' hsm' hz' hl dt
    have hF1 := hid (hF0.out.none_ hH1.out.chg)
    obtain ⟨x0, x1, x2, x3, x4, x5⟩ := FB.box hF1.out
    have hlx := hF1.out.lt
    go_wp2_with fail
    refine (p_fail_eq hH1.out.two hH1.out.hN x At tr kt hnt.out (htrr.out.none_ hH1.out.chg) (by omega)).mono ?_
    rintro e w2 ⟨rfl, hT', hc2⟩
    have hH2 := hid (hH1.out.post hT' hc2)
    have hHa := hid (hH2.out.alloc (.cells #[] 25))
    clear hT' hc2 hH1 x0 x1 x2 x3 x4 x5 hlx hF1
    go_wp2_with fail
    refine (o_values hHa.out.two.one hn.out (by omega)).mono ?_
    rintro e w3 ⟨A3, k3, rfl, hR', hc3⟩
    have hR3 := hid hR'
    have hM3 := hid (own_chg (made_row w2 25 5) hc3 fun _ _ h => h)
    have hz3 : w2.heap.size < w3.heap.size := by have := hc3.size; simp at this; omega
    have hc3' := hid (((Chg.refl (fun _ => False) w2).alloc (.cells #[] 25)).trans_same hc3)
    clear hR' hc3 hHa
    go_wp2_with ((with_reducible show wpList _ _ _ ((⟨some 37, _, _, _, _, _⟩ : Oper) :: _) _ _); refine wpList_append_rd (o := ⟨some 37, _, _, _, _, _⟩) rfl (.tmp 34) (.tmp 36) 38 rfl 25 i25 _ 5 48 Try.underlying38 hi25 hz25 hs25 hb25 rfl (by omega) (.slice (some ⟨w2.heap.size, 0, none⟩) 0 0) 0 [] rfl hM3.out A3 n k3 ((valsOf es).flatMap V.cs) rfl hR3.out.rd (V.ones _) (by unfold maxLen; omega) (by omega) w3.heap.size rfl ?_; intro A4 k4 w4 hown4' hg4' hat4'; rw [Nat.zero_add, List.nil_append] at hown4'; rw [Nat.zero_add] at hat4'; have hR4 := hid (show OwnR w2 w4 25 5 (.slice A4 n k4) n ((valsOf es).flatMap V.cs) from ⟨hown4', fun k hk => (hat4' k hk).elim (fun e => by (have : w2.heap.size = k := (by simpa [Value.ownBlock] using e)); omega) fun e => by omega⟩); have hc4 := hid ((hc3'.out.mono (T := fun k => k = w2.heap.size) fun _ _ h => h.elim).grown hg4' fun k hk _ => by simpa [Value.ownBlock] using hk.symm); have hc4' := hid (hc4.out.mono (T := fun _ => False) fun k hk e => by omega); clear hown4' hg4' hat4' hc4)
    clear hM3 hR3 hc3'
    have hT4 := hid (hH2.out.two.none_ hc4'.out)
    refine (o_values hT4.out.one hn.out (by omega)).mono ?_
    rintro e w5 ⟨A5, k5, rfl, hR', hc5⟩
    obtain ⟨S, hS, hfix⟩ := hH2.out.refix
    have hz4 : ∀ k, (Value.slice A4 n k4).ownBlock = some k → k < w4.heap.size := fun k hk => own_lt hR4.out.own hk
    have hH5 : Hid (Held (w.alloc (.cells #[.int .i64 x.k, .int .i64 x.p, .int .i64 x.q, .string x.s, .int .i64 x.r, .slice At nt kt] 30)) w5 S w5.heap.size o r (j + 1) es (some ⟨x, tr⟩) es fl (.slice A4 n k4) n (valsOf es)) := by
      have hH := hfix w5 (hc4'.out.trans_same hc5)
      exact hid ⟨hH.two, own_chg hR4.out.own hc5 fun _ _ h => h, fun k hk => ⟨fun e => by have := hS k e; have := hR4.out.lo k hk; omega, by have := hz4 k hk; have := hc5.size; omega⟩, hH.hN, hH.chg, hH.lo⟩
    have hG5 : Hid (Some5 w5 A5 n k5) := hid ⟨_, hR'.own⟩
    have hA5 : Hid (∀ g, A5 = some ⟨g, 0, none⟩ → ¬ S g ∧ g < w5.heap.size ∧ (Value.slice A4 n k4).ownBlock ≠ some g ∧ (w.alloc (.cells #[.int .i64 x.k, .int .i64 x.p, .int .i64 x.q, .string x.s, .int .i64 x.r, .slice At nt kt] 30)).heap.size ≤ g) := hid fun g hg => by
      have h1 := hR'.lo g (by rw [hg]; rfl)
      have h2 := own_lt hR'.own (k := g) (by rw [hg]; rfl)
      have h3 := hc4'.out.size
      have h4 := hH2.out.chg.size
      exact ⟨fun e => by have := hS g e; omega, h2, fun e => by have := hz4 g e; omega, by omega⟩
    have hN5 : Hid (w5.heap.size ≤ w5.heap.size) := hid (Nat.le_refl _)
    clear hR' hc5 hS hfix hz4 hc4' hT4 hR4 hH2
    go_wp2_with fail
    generalize hNN : w5.heap.size = N at hH5 hA5 hN5
    clear hNN hN5
    go_loopw [42] (fun i wr => ∃ m : Nat, m ≤ n ∧ i = .int .i64 m ∧ Hid (Held (w.alloc (.cells #[.int .i64 x.k, .int .i64 x.p, .int .i64 x.q, .string x.s, .int .i64 x.r, .slice At nt kt] 30)) wr S N o r (j + 1) es (some ⟨x, tr⟩) es fl (.slice A4 n k4) n (valsOf es) ∧ Some5 wr A5 n k5)) (fun i _ => n - (intOf i).toNat)
    case atStart => exact ⟨0, Nat.zero_le _, rfl, hid ⟨hH5.out, hG5.out⟩⟩
    case round =>
      obtain ⟨m, hm, rfl, hHr⟩ := hrel
      clear hH5 hG5
      by_cases hlt : m < n
      · go_wp2_with fail
        refine (num_nv _ 77).mono ?_
        rintro e w6 ⟨rfl, hc6⟩
        have hH6 := hid (hHr.out.1.none_ hc6)
        have hG6 := hid (hHr.out.2.chg hc6 fun _ _ h => h)
        obtain ⟨g, rfl, hgl, hcell, hfz⟩ := hG6.out.at_ hlt
        obtain ⟨u0, y0⟩ := hcell 0 (by omega)
        obtain ⟨u1, y1⟩ := hcell 1 (by omega)
        obtain ⟨u2, y2⟩ := hcell 2 (by omega)
        obtain ⟨u3, y3⟩ := hcell 3 (by omega)
        obtain ⟨u4, y4⟩ := hcell 4 (by omega)
        simp only [Nat.add_zero] at y0
        obtain ⟨g1, g2, g3, g4⟩ := hA5.out g rfl
        have fin : Hid (Held (w.alloc (.cells #[.int .i64 x.k, .int .i64 x.p, .int .i64 x.q, .string x.s, .int .i64 x.r, .slice At nt kt] 30)) (put5 w6 g (m * 5) (nv 77)) S N o r (j + 1) es (some ⟨x, tr⟩) es fl (.slice A4 n k4) n (valsOf es) ∧ Some5 (put5 w6 g (m * 5) (nv 77)) (some ⟨g, 0, none⟩) n k5) :=
          hid ⟨hH6.out.far (put5_chg w6 g _ _) g1 g2 g3 g4, hG6.out.put _ _⟩
        clear hc6 hHr hcell g1 g2 g3 g4 hH6 hG6
        go_wp2_with fail
        go_roundw
        case rel => exact ⟨m + 1, by omega, by go_num, fin⟩
        case measure => simp [intOf] <;> omega
      · obtain rfl : m = n := by omega
        have hH6 := hid hHr.out.1
        clear hHr hA5 hlt
        go_wp2_with fail
        refine (o_failure hH6.out.two.one (x := x) (b := true) (l := tr) rfl rfl rfl (by rw [hnt.out]; omega)).mono ?_
        rintro e w7 ⟨A7, k7, rfl, hR', hc7⟩
        rw [hnt.out] at hR' ⊢
        obtain ⟨S2, hS2, hfix⟩ := hH6.out.refix
        have hH7 := hid (hfix (w7.alloc (.cells #[.int .i64 x.k, .int .i64 x.p, .int .i64 x.q, .string x.s, .int .i64 x.r, .slice A7 nt k7] 30)) (hc7.alloc _))
        have hB7 := hid (Bk.new w7 30 [.int .i64 x.k, .int .i64 x.p, .int .i64 x.q, .string x.s, .int .i64 x.r, .slice A7 nt k7])
        have hG7 : Hid (Some3 (w7.alloc (.cells #[.int .i64 x.k, .int .i64 x.p, .int .i64 x.q, .string x.s, .int .i64 x.r, .slice A7 nt k7] 30)) A7 nt k7) := hid ⟨_, (hR'.alloc _).own⟩
        have hA7 : Hid (∀ g, A7 = some ⟨g, 0, none⟩ → ¬ S2 g ∧ g < w7.heap.size ∧ (Value.slice A4 m k4).ownBlock ≠ some g ∧ (w.alloc (.cells #[.int .i64 x.k, .int .i64 x.p, .int .i64 x.q, .string x.s, .int .i64 x.r, .slice At nt kt] 30)).heap.size ≤ g) := hid fun g hg => by
          have h1 := hR'.lo g (by rw [hg]; rfl)
          have h2 := own_lt hR'.own (k := g) (by rw [hg]; rfl)
          have h4 := hH6.out.chg.size
          exact ⟨fun e => by have := hS2 g e; omega, h2, fun e => by have := own_lt hH6.out.row e; omega, by omega⟩
        clear hR' hc7 hfix hS2 hH6
        go_wp2_with fail
        have hsz : (w7.alloc (.cells #[.int .i64 x.k, .int .i64 x.p, .int .i64 x.q, .string x.s, .int .i64 x.r, .slice A7 nt k7] 30)).heap.size = w7.heap.size + 1 := by simp
        rw [hsz] at hH7
        clear hsz
        go_loopw [58] (fun i wr => ∃ p : Nat, p ≤ nt ∧ i = .int .i64 p ∧ Hid (Held (w.alloc (.cells #[.int .i64 x.k, .int .i64 x.p, .int .i64 x.q, .string x.s, .int .i64 x.r, .slice At nt kt] 30)) wr S2 (w7.heap.size + 1) o r (j + 1) es (some ⟨x, tr⟩) es fl (.slice A4 m k4) m (valsOf es) ∧ Some3 wr A7 nt k7 ∧ Bk wr w7.heap.size 30 [.int .i64 x.k, .int .i64 x.p, .int .i64 x.q, .string x.s, .int .i64 x.r, .slice A7 nt k7])) (fun i _ => nt - (intOf i).toNat)
        case atStart => exact ⟨0, Nat.zero_le _, rfl, hid ⟨hH7.out, hG7.out, hB7.out⟩⟩
        case round =>
          obtain ⟨p, hp, rfl, hHr⟩ := hrel
          clear hH7 hG7 hB7
          by_cases hlt : p < nt
          · obtain ⟨g, rfl, hgl, ⟨u0, y0⟩, hfz⟩ := hHr.out.2.1.at_ hlt
            obtain ⟨g1, g2, g3, g4⟩ := hA7.out g rfl
            obtain ⟨x0, x1, x2, x3, x4, x5⟩ := FB.box hHr.out.2.2
            have hlx := hHr.out.2.2.lt
            have fin := hid (own_name hHr.out.1 hHr.out.2.1 hHr.out.2.2 (p * 3) (.string ⟨#[99, 104, 97, 110, 103, 101, 100]⟩) g1 g2 g3 g4)
            clear g1 g2 g3 g4 hHr
            go_wp2_with fail
            go_roundw
            case rel => exact ⟨p + 1, by omega, by go_num, fin⟩
            case measure => simp [intOf] <;> omega
          · obtain rfl : p = nt := by omega
            have hH8 := hid hHr.out.1
            clear hHr hA7 hlt
            go_wp2_with fail
            refine (o_failure hH8.out.two.one (x := x) (b := true) (l := tr) rfl rfl rfl (by rw [hnt.out]; omega)).mono ?_
            rintro e w9 ⟨A9, k9, rfl, hR', hc9⟩
            rw [hnt.out] at hR' ⊢
            have hH9 := hid ((hH8.out.none_ hc9).alloc (.cells #[.int .i64 x.k, .int .i64 x.p, .int .i64 x.q, .string x.s, .int .i64 x.r, .slice A9 p k9] 30))
            have hR9 := hid (hR'.alloc (.cells #[.int .i64 x.k, .int .i64 x.p, .int .i64 x.q, .string x.s, .int .i64 x.r, .slice A9 p k9] 30))
            have hF9 := hid (hF0.out.none_ (hH8.out.none_ hc9).chg)
            obtain ⟨x0, x1, x2, x3, x4, x5⟩ := FB.box hF9.out
            have hlx := hF9.out.lt
            clear hR' hc9 hH8
            go_wp2_with fail
            refine (failure_same _ x At A9 tr p kt k9 hnt.out (htrr.out.none_ hH9.out.chg) (by rw [hnt.out]; exact hR9.out.rd) (by omega)).mono ?_
            rintro e wa ⟨rfl, hca⟩
            have hHa := hid (hH9.out.none_ hca)
            clear hca hH9 hR9 hF9 x0 x1 x2 x3 x4 x5 hlx
            go_wp2_with fail
            refine (o_values hHa.out.two.one hn.out (by omega)).mono ?_
            rintro e wb ⟨Ab, kb, rfl, hR', hcb⟩
            have hRb := hid hR'
            have hHb := hid (hHa.out.none_ hcb)
            clear hR' hcb hHa
            go_wp2_with fail
            refine (values_own (by rw [vals_len]; exact hn.out) (by rw [vals_len]; exact hn.out) hRb.out.own hHb.out.row (by omega) (by omega) (decide_eq_true rfl)).mono ?_
            rintro e wc ⟨rfl, hcc⟩
            have hHc := hid (hHb.out.none_ hcc)
            clear hcc hHb hRb
            go_wp2_with fail
            refine (awake_true _).mono ?_
            rintro e wd ⟨rfl, hcd⟩
            have fin := hid (none_below (hC0.out.trans_same (hHc.out.none_ hcd).chg))
            clear hcd hHc
            go_wp2_with fail
            go_ret
            exact ⟨rfl, fin.out⟩
  all_goals
    refine (awake_true _).mono ?_
    rintro e w1 ⟨rfl, hc1⟩
    have fin := hid (none_below (hC0.out.trans_same hc1))
    clear hc1
    go_wp2_with fail
    go_ret
    exact ⟨rfl, fin.out⟩
end Go.Proofs.Ytpfopidmdnkkeaa
