/-
  TableSequences: the walk.
-/
import Derived.Test.YtoelgnjnbelokaaTSeq
namespace Go.Proofs.Ytoelgnjnbelokaa
open Go.RowKit Go.Maps

/-- The law's own value and the values that came in. -/
def SeqS (w : World) (g0 : Nat) (v : V) (A : Option Addr) (l : List V) : Prop := Bk w g0 26 v.cs ∧ Vs w A l
theorem SeqS.none_ {w w' : World} {g0 : Nat} {v : V} {A : Option Addr} {l : List V} (h : SeqS w g0 v A l) (hc : Chg (fun _ => False) w w') : SeqS w' g0 v A l := ⟨h.1.none_ hc, h.2.none_ hc⟩
/-- What holds on the way. -/
structure SeqI (w wr : World) (o M : Nat) (v : V) (a : List V) : Prop where
  tab : Tab wr (fun _ => False) (w.heap.size + 1) o M a []
  box : Bk wr w.heap.size 26 v.cs
  chg : Chg (fun _ => False) w wr
theorem SeqI.none_ {w wr w' : World} {o M : Nat} {v : V} {a : List V} (h : SeqI w wr o M v a) (hc : Chg (fun _ => False) wr w') : SeqI w w' o M v a :=
  ⟨h.tab.none_ hc, h.box.none_ hc, h.chg.trans_same hc⟩
theorem SeqI.size {w wr : World} {o M : Nat} {v : V} {a : List V} (h : SeqI w wr o M v a) : w.heap.size + 1 ≤ wr.heap.size := by have := h.box.lt; omega
theorem SeqI.next {w wr w' : World} {o M M' : Nat} {v : V} {a a' : List V} (h : SeqI w wr o M v a) (hT : Tab w' (fun _ => False) (w.heap.size + 1) o M' a' []) (hc : Chg (fun k => False ∨ w.heap.size + 1 ≤ k) wr w') : SeqI w w' o M' v a' :=
  ⟨hT, h.box.chg hc (fun e => e.elim id fun e => by omega), h.chg.trans hc fun b hb e => e.elim id fun e => by omega⟩
theorem seq_get {w wr : World} {o M : Nat} {v : V} {a : List V} (h : SeqI w wr o M v a) (hb : a.length ≤ 1000) {n : Int} (hn : -2147483647 ≤ n ∧ n ≤ 2147483647) {y : V} (hy : getT a [] (kI n) = y) :
    Calls Try.prog 13 #[.pointer (some ⟨o, 0, none⟩), .agg #[.int .i64 2, .int .i64 n, .int .i64 1, .string ⟨#[]⟩, .int .i64 0]] wr fun e w' => e = .returned (.agg #[.int .i64 y.k, .int .i64 y.p, .int .i64 y.q, .string y.s, .int .i64 y.r]) ∧ Chg (fun _ => False) wr w' :=
  t_get h.tab (by omega) (kI_wf hn.1 hn.2) hy
theorem seq_set {w wr : World} {o M : Nat} {v : V} {a : List V} (h : SeqI w wr o M v a) (hb : a.length ≤ 100) (hM : M ≤ 90000000) {n : Int} (hn : n = (a.length : Int) + 1) (x : V) :
    Calls Try.prog 14 #[.pointer (some ⟨o, 0, none⟩), .agg #[.int .i64 2, .int .i64 n, .int .i64 1, .string ⟨#[]⟩, .int .i64 0], (.agg #[.int .i64 x.k, .int .i64 x.p, .int .i64 x.q, .string x.s, .int .i64 x.r])] wr fun e w' => ∃ (e1 : Int) (a' : List V), e = .returned (.int .i64 e1) ∧ (e1 = 0 → vok x = true ∧ (x.k ≠ 0 → a' = a ++ [x])) ∧ SeqI w w' o (M + 400000) v a' := by
  subst hn
  refine (t_set h.tab h.size (by simp; omega) (by simp) (by omega) (k := kI ((a.length : Int) + 1)) (v := x) (kI_wf (by omega) (by omega))).mono ?_
  rintro e w' ⟨e1, a', m', rfl, h1, h2, hc⟩
  rcases h1.next_nil (by omega) with ⟨rfl, -, rfl, rfl⟩ | ⟨rfl, h3, h4, rfl, rfl⟩ | ⟨rfl, h3, h4, rfl, rfl⟩
  · exact ⟨2, a', rfl, (fun e => by cases e), h.next h2 hc⟩
  · exact ⟨0, _, rfl, fun _ => ⟨h3, fun _ => rfl⟩, h.next h2 hc⟩
  · exact ⟨0, _, rfl, fun _ => ⟨h3, fun e => absurd h4 e⟩, h.next h2 hc⟩
theorem seq_insert {w wr : World} {o M : Nat} {v : V} {a : List V} (h : SeqI w wr o M v a) (hb : a.length ≤ 100) (hM : M ≤ 90000000) (hf : ∀ i, i < a.length → (vAt a i).k ≠ 0) (hv : vok v = true) {i : Nat} (hi : i ≤ a.length) {n : Int} (hn : n = (i : Int) + 1) :
    Calls Try.prog 15 #[.pointer (some ⟨o, 0, none⟩), .int .i64 n, (.agg #[.int .i64 v.k, .int .i64 v.p, .int .i64 v.q, .string v.s, .int .i64 v.r])] wr fun e w' => ∃ a', e = .returned (.int .i64 0) ∧ SeqI w w' o (M + 400000) v a' ∧ a'.length ≤ 101 ∧ getT a' [] (kI n) = v ∧ (v.k ≠ 0 → a' = insA a i v) := by
  subst hn
  refine (seq_ins h.tab h.size hb hM hf hv hi).mono ?_
  rintro e w' ⟨rfl, ⟨a', h1, h2, h3, h4⟩, hc⟩
  exact ⟨a', rfl, h.next h1 hc, h2, h3, h4⟩
theorem seq_insert_bad {w wr : World} {o M : Nat} {v : V} {a : List V} (h : SeqI w wr o M v a) (hb : a.length ≤ 100) {n : Int} (hn : ¬ (1 ≤ n ∧ n ≤ (a.length : Int) + 1)) :
    Calls Try.prog 15 #[.pointer (some ⟨o, 0, none⟩), .int .i64 n, (.agg #[.int .i64 v.k, .int .i64 v.p, .int .i64 v.q, .string v.s, .int .i64 v.r])] wr fun e w' => e = .returned (.int .i64 6) ∧ SeqI w w' o M v a :=
  (t_insert_bad h.tab (by omega) hn v).mono fun _ _ ⟨h1, h2⟩ => ⟨h1, h.none_ h2⟩
theorem seq_insert_arg {w wr : World} {o M : Nat} {v : V} {a : List V} (h : SeqI w wr o M v a) (hb : a.length ≤ 100) {n : Int} (hn : 1 ≤ n ∧ n ≤ (a.length : Int) + 1) (hv : vok v = false) :
    Calls Try.prog 15 #[.pointer (some ⟨o, 0, none⟩), .int .i64 n, (.agg #[.int .i64 v.k, .int .i64 v.p, .int .i64 v.q, .string v.s, .int .i64 v.r])] wr fun e w' => e = .returned (.int .i64 2) ∧ SeqI w w' o M v a :=
  (t_insert_bad2 h.tab (by omega) hn hv).mono fun _ _ ⟨h1, h2⟩ => ⟨h1, h.none_ h2⟩
theorem seq_remove {w wr : World} {o M : Nat} {v : V} {a : List V} {i : Nat} (h : SeqI w wr o M v (insA a i v)) (hb : a.length ≤ 100) (hf : ∀ i, i < a.length → (vAt a i).k ≠ 0) (hi : i ≤ a.length) {n : Int} (hn : n = (i : Int) + 1) :
    Calls Try.prog 12 #[.pointer (some ⟨o, 0, none⟩), .int .i64 n] wr fun e w' => e = .returned (.tuple #[(.agg #[.int .i64 v.k, .int .i64 v.p, .int .i64 v.q, .string v.s, .int .i64 v.r]), .int .i64 0]) ∧ SeqI w w' o M v a := by
  subst hn
  have hl := insA_len (v := v) hi
  refine (t_remove h.tab h.size (by omega) (i := i) (by omega) (insA_at hi)).mono ?_
  rintro e w' ⟨rfl, h1, hc⟩
  rw [insA_erase hi, shrink_back hf] at h1
  exact ⟨rfl, h.next h1 hc⟩
theorem sequences_big (w : World) (A : Option Addr) (q lk : Nat) (n : Int) (v : V) (hbad : 100 < q) :
    Calls Try.prog 8 #[.slice A q lk, .int .i64 n, (.agg #[.int .i64 v.k, .int .i64 v.p, .int .i64 v.q, .string v.s, .int .i64 v.r])] w fun e w' => e = .returned (.bool true) ∧ Below w.heap.size w w' := by
  have hC0 := hid ((Chg.refl (fun _ => False) w).alloc (.cells v.cs.toArray 26))
  have ht : decide ((100 : Int) < (q : Int)) = true := decide_eq_true (by omega)
  clear hbad
  go_enter Try.func8, Try.ntmps8
  go_wp2_with fail
  refine (awake_true _).mono ?_
  rintro e w3 ⟨rfl, hc3⟩
  have fin := hid (none_below (hC0.out.trans_same hc3))
  clear hc3
  go_wp2_with fail
  go_ret
  exact ⟨rfl, fin.out⟩
set_option maxRecDepth 100000 in
set_option maxHeartbeats 16000000 in
theorem sequences_true (w : World) (A : Option Addr) (l : List V) (lk : Nat) (n : Int) (v : V) (hl : ValsRd w A l) :
    Calls Try.prog 8 #[.slice A l.length lk, .int .i64 n, (.agg #[.int .i64 v.k, .int .i64 v.p, .int .i64 v.q, .string v.s, .int .i64 v.r])] w fun e w' => e = .returned (.bool true) ∧ Below w.heap.size w w' := by
  by_cases hbad : 100 < l.length
  · exact sequences_big w A l.length lk n v hbad
  have hC0 := hid ((Chg.refl (fun _ => False) w).alloc (.cells v.cs.toArray 26))
  have hK0 := hid (Bk.new w 26 v.cs)
  have hlh := hid hl.1
  obtain ⟨q, hq⟩ : ∃ q, Hid (l.length = q) := ⟨_, hid rfl⟩
  rw [hq.out] at hbad ⊢
  have ht : decide ((100 : Int) < (q : Int)) = false := decide_eq_false (by omega)
  have hq2 : q ≤ 100 := by omega
  clear hbad hl
  go_enter Try.func8, Try.ntmps8
  go_wp2_with fail
  refine (t_new _).mono ?_
  rintro e w1 ⟨o, rfl, hT', hc1⟩
  have hstart : Hid (SeqI w w1 o 0 v (l.take 0)) := hid ⟨by simpa using hT', hK0.out.none_ hc1, hC0.out.trans_same hc1⟩
  clear hT' hc1 hC0 hK0
  go_wp2_with fail
  clear ht
  go_loopw [8] (fun i wr => ∃ j : Nat, j ≤ q ∧ i = .int .i64 j ∧ Hid (SeqI w wr o (j * 400000) v (l.take j) ∧ (∀ i, i < j → vok (vAt l i) = true ∧ (vAt l i).k ≠ 0))) (fun i _ => q - (intOf i).toNat)
  case atStart => exact ⟨0, Nat.zero_le _, rfl, hid ⟨hstart.out.next (by simpa using hstart.out.tab) ((Chg.refl _ w1)), fun i hi => by omega⟩⟩
  case round =>
    obtain ⟨j, hj, rfl, hG⟩ := hrel
    clear hstart
    refine (Classical.em (j < q)).elim ?more ?done
    case' more =>
      intro hlt
      have hVr : Hid (Vs wr A l) := hid (hlh.out.none_ hG.out.1.chg)
      obtain ⟨b, o', rfl, hb, c0, c1, c2, c3, c4⟩ := Vs.at_ hVr.out (i := j) (by rw [hq.out]; exact hlt)
      have hrow := hid (And.intro c0 (And.intro c1 (And.intro c2 (And.intro c3 (And.intro c4 hb)))))
      have htk : Hid (l.take (j + 1) = l.take j ++ [vAt l j]) := hid (by rw [List.take_add_one, vAt_get l j (by rw [hq.out]; exact hlt)]; rfl)
      have hle : Hid ((l.take j).length = j) := hid (by rw [List.length_take]; have := hq.out; omega)
      obtain ⟨x, hx⟩ : ∃ x, Hid (vAt l j = x) := ⟨_, hid rfl⟩
      rw [hx.out] at hrow htk
      have hG1 := hid hG.out.1
      have hG2 := hid hG.out.2
      clear hG hb c0 c1 c2 c3 c4 hVr
      refine (Classical.em (x.k = 0)).elim ?kz ?kn
      case' kz =>
        intro hk0
        have e0 : (x.k == 0) = true := by simpa using hk0
        clear hk0
        go_wp2_with fail
        refine wp_region_rc (id := 9) [.rd [0, 1, 2, 3, 4, 5, 6, 7, 8, 9, 11, 12, 13, 14], .act 10] [15, 16, 17] [] (fun w' => w'.cell? ⟨b, o' + j * 5, none⟩ = some (.int .i64 x.k) ∧ w'.cell? ⟨b, o' + j * 5 + 1, none⟩ = some (.int .i64 x.p) ∧ w'.cell? ⟨b, o' + j * 5 + 2, none⟩ = some (.int .i64 x.q) ∧ w'.cell? ⟨b, o' + j * 5 + 3, none⟩ = some (.string x.s) ∧ w'.cell? ⟨b, o' + j * 5 + 4, none⟩ = some (.int .i64 x.r) ∧ b < w'.heap.size) (by kernel_rfl) 160 rfl (by kernel_rfl) (fun _ _ _ _ _ h => h) hrow.out ?_
        refine steps_rdW ?_
        apply Exists.intro
        refine ⟨?_, ?_⟩
        focus
          rintro w' ⟨c0, c1, c2, c3, c4, hb⟩
          iterate 14 (refine stW_step rfl (fun K hK => ?_); go_simp; refine hK _ ?_; clear hK K)
          exact stW_nil rfl
        refine steps_act (o := ⟨_, _, _, _, _, _⟩) rfl (fun K2 hK2 => ?_)
        go_wp2_with fail
        refine hK2 _ _ hrow.out rfl ?_
        clear hK2 K2
        refine steps_nil (l := [⟨_, _, _, _, _, _⟩, ⟨_, _, _, _, _, _⟩, ⟨_, _, _, _, _, _⟩]) rfl (fun K2 hK2 => ?_)
        go_wp2_with fail
        refine hK2 _ _ rfl ?_
        clear hK2 K2
        refine stI_nil ?_
        have hCz := hid (hG1.out.chg.drew)
        clear hG1 hG2
        go_wp2_with fail
        refine (awake_true _).mono ?_
        rintro e w3 ⟨rfl, hc3⟩
        have fin := hid (none_below (hCz.out.trans_same hc3))
        clear hc3
        go_wp2_with fail
        go_ret
        exact ⟨rfl, fin.out⟩
      case' kn =>
        intro hk0
        have e0 : (x.k == 0) = false := by simpa using hk0
        go_wp2_with fail
        refine wp_region_rc (id := 9) [.rd [0, 1, 2, 3, 4, 5, 6, 7, 8, 9, 11, 12, 13, 14], .act 10] [15, 16, 17] [] (fun w' => w'.cell? ⟨b, o' + j * 5, none⟩ = some (.int .i64 x.k) ∧ w'.cell? ⟨b, o' + j * 5 + 1, none⟩ = some (.int .i64 x.p) ∧ w'.cell? ⟨b, o' + j * 5 + 2, none⟩ = some (.int .i64 x.q) ∧ w'.cell? ⟨b, o' + j * 5 + 3, none⟩ = some (.string x.s) ∧ w'.cell? ⟨b, o' + j * 5 + 4, none⟩ = some (.int .i64 x.r) ∧ b < w'.heap.size) (by kernel_rfl) 160 rfl (by kernel_rfl) (fun _ _ _ _ _ h => h) hrow.out ?_
        refine steps_rdW ?_
        apply Exists.intro
        refine ⟨?_, ?_⟩
        focus
          rintro w' ⟨c0, c1, c2, c3, c4, hb⟩
          iterate 14 (refine stW_step rfl (fun K hK => ?_); go_simp; refine hK _ ?_; clear hK K)
          exact stW_nil rfl
        refine steps_act (o := ⟨_, _, _, _, _, _⟩) rfl (fun K2 hK2 => ?_)
        have hGd := hid (hG1.out.none_ ((Chg.refl (fun _ => False) wr).drew))
        have hw1 : IntKind.i64.wrap ((j : Int) + 1) = (j : Int) + 1 := by rw [IntKind.wrap_i64]; omega
        go_wp2_with fail
        refine (num_k _ _).mono ?_
        rintro e w3 ⟨rfl, hc⟩
        have hG3 := hid (hGd.out.none_ hc)
        have hrow3 : Hid (w3.cell? ⟨b, o' + j * 5, none⟩ = some (.int .i64 x.k) ∧ w3.cell? ⟨b, o' + j * 5 + 1, none⟩ = some (.int .i64 x.p) ∧ w3.cell? ⟨b, o' + j * 5 + 2, none⟩ = some (.int .i64 x.q) ∧ w3.cell? ⟨b, o' + j * 5 + 3, none⟩ = some (.string x.s) ∧ w3.cell? ⟨b, o' + j * 5 + 4, none⟩ = some (.int .i64 x.r) ∧ b < w3.heap.size) := hid (by
          obtain ⟨c0, c1, c2, c3, c4, c5⟩ := hrow.out
          have hc : Chg (fun _ => False) wr w3 := ((Chg.refl (fun _ => False) wr).drew).trans_same hc
          exact ⟨(hc.cell (p := ⟨b, o' + j * 5, none⟩) c5 id).trans c0, (hc.cell (p := ⟨b, o' + j * 5 + 1, none⟩) c5 id).trans c1, (hc.cell (p := ⟨b, o' + j * 5 + 2, none⟩) c5 id).trans c2, (hc.cell (p := ⟨b, o' + j * 5 + 3, none⟩) c5 id).trans c3, (hc.cell (p := ⟨b, o' + j * 5 + 4, none⟩) c5 id).trans c4, Nat.lt_of_lt_of_le c5 hc.size⟩)
        clear hc hGd hG1 hrow
        go_wp2_with fail
        refine hK2 _ _ hrow3.out rfl ?_
        clear hK2 K2
        refine steps_nil (l := [⟨_, _, _, _, _, _⟩, ⟨_, _, _, _, _, _⟩, ⟨_, _, _, _, _, _⟩]) rfl (fun K2 hK2 => ?_)
        go_wp2_with fail
        refine (seq_set hG3.out (by rw [hle.out]; omega) (by omega) (by rw [hle.out]) x).mono ?_
        rintro e w4 ⟨e1, a', rfl, hA', hG4'⟩
        have hA := hid hA'
        have hG4 := hid hG4'
        clear hA' hG4' hG3 hrow3
        by_cases he : e1 = 0
        · subst he
          have hxv : Hid (vok x = true) := hid (hA.out rfl).1
          obtain rfl : a' = l.take (j + 1) := by rw [(hA.out rfl).2 hk0, htk.out]
          have fin : Hid (SeqI w w4 o ((j + 1) * 400000) v (l.take (j + 1)) ∧ (∀ i, i < j + 1 → vok (vAt l i) = true ∧ (vAt l i).k ≠ 0)) := hid ⟨hG4.out.next (hG4.out.tab.mono (by omega)) ((Chg.refl _ w4)), fun i hi => by
            by_cases e : i = j
            · subst e; rw [hx.out]; exact ⟨hxv.out, hk0⟩
            · exact hG2.out i (by omega)⟩
          clear hA hG4 hG2
          go_wp2_with fail
          refine hK2 _ _ rfl ?_
          clear hK2 K2
          refine stI_nil ?_
          go_wp2_with fail
          go_roundw
          case rel => exact ⟨j + 1, by omega, by go_num, fin⟩
          case measure => simp [intOf]; omega
        · have he' : (e1 == 0) = false := by simpa using he
          have he2 : (e1 != 0) = true := by simpa using he
          have hCz := hid (hG4.out.chg)
          clear hG4 hA hG2 he
          go_wp2_with fail
          refine hK2 _ _ rfl ?_
          clear hK2 K2
          refine stI_nil ?_
          go_wp2_with fail
          refine (awake_true _).mono ?_
          rintro e w5 ⟨rfl, hc3⟩
          have fin := hid (none_below (hCz.out.trans_same hc3))
          clear hc3
          go_wp2_with fail
          go_ret
          exact ⟨rfl, fin.out⟩
    case' done =>
      intro hlt
      have hjl : j = q := by omega
      subst hjl
      have hI0 : Hid (SeqI w wr o (j * 400000) v l) := hid (by
        have h := hG.out.1
        rw [List.take_of_length_le (by rw [hq.out]; exact Nat.le_refl _)] at h
        exact h)
      have hf : Hid (∀ i, i < l.length → (vAt l i).k ≠ 0) := hid fun i hi => (hG.out.2 i (by have := hq.out; omega)).2
      have hMb : j * 400000 ≤ 90000000 := by omega
      have hlb : Hid (l.length ≤ 100) := hid (by rw [hq.out]; exact hq2)
      obtain ⟨M0, hM0⟩ : ∃ M0, Hid (j * 400000 = M0) := ⟨_, hid rfl⟩
      rw [hM0.out] at hI0 hMb
      have hMbh := hid hMb
      obtain ⟨x0, x1, x2, x3, x4⟩ := V.box hI0.out.box
      have hxl := hI0.out.box.lt
      have hw1 : IntKind.i64.wrap ((j : Int) + 1) = (j : Int) + 1 := by rw [IntKind.wrap_i64]; omega
      clear hG hMb
      refine (Classical.em (1 ≤ n ∧ n ≤ (j : Int) + 1)).elim ?ok ?bad
      case' bad =>
        intro hbn
        have hbb : Hid (¬ (1 ≤ n ∧ n ≤ (l.length : Int) + 1)) := hid (by rw [hq.out]; exact hbn)
        go_wp2_with fail
        refine (seq_insert_bad hI0.out hlb.out hbb.out).mono ?_
        rintro e w5 ⟨rfl, hI5'⟩
        have hI5 := hid hI5'
        clear hI5' hI0 x0 x1 x2 x3 x4 hxl
        refine (Classical.em (n < 1)).elim ?b1 ?b2
        case' b1 =>
          intro h
          have t1 : decide (n < 1) = true := decide_eq_true h
        case' b2 =>
          intro h
          have t1 : decide (n < 1) = false := decide_eq_false h
          have t2 : decide ((j : Int) + 1 < n) = true := decide_eq_true (by omega)
        all_goals
          go_wp2_with fail
          refine (t_len hI5.out.tab hq.out).mono ?_
          rintro e w6 ⟨rfl, hw⟩
          subst hw
          go_wp2_with fail
          refine (awake_true _).mono ?_
          rintro e w7 ⟨rfl, hc3⟩
          have fin := hid (none_below (hI5.out.chg.trans_same hc3))
          clear hc3
          go_wp2_with fail
          go_ret
          exact ⟨rfl, fin.out⟩
      case' ok =>
        intro hok
        obtain ⟨i, hi⟩ : ∃ i : Nat, Hid (n = (i : Int) + 1) := ⟨n.toNat - 1, hid (by omega)⟩
        have hij : i ≤ j := by have := hi.out; omega
        have t1 : decide (n < 1) = false := decide_eq_false (by omega)
        have t2 : decide ((j : Int) + 1 < n) = false := decide_eq_false (by omega)
        obtain ⟨bv, hbv⟩ : ∃ b, Hid (vok v = b) := ⟨_, hid rfl⟩
        have hokl : Hid (1 ≤ n ∧ n ≤ (l.length : Int) + 1) := hid (by rw [hq.out]; exact hok)
        have hil : Hid (i ≤ l.length) := hid (by rw [hq.out]; exact hij)
        have hnb : Hid (-2147483647 ≤ n ∧ n ≤ 2147483647) := hid (by omega)
        cases bv
        · go_wp2_with fail
          refine (seq_insert_arg hI0.out hlb.out hokl.out hbv.out).mono ?_
          rintro e w5 ⟨rfl, hI5'⟩
          have hI5 := hid hI5'
          clear hI5' hI0 x0 x1 x2 x3 x4 hxl
          obtain ⟨x0, x1, x2, x3, x4⟩ := V.box hI5.out.box
          have hxl := hI5.out.box.lt
          go_wp2_with fail
          refine (ref_valid_eq hbv.out).mono ?_
          rintro e w6 ⟨rfl, hc⟩
          have hI6 := hid (hI5.out.none_ hc)
          clear hc hI5 x0 x1 x2 x3 x4 hxl
          go_wp2_with fail
          refine (t_len hI6.out.tab hq.out).mono ?_
          rintro e w7 ⟨rfl, hw⟩
          subst hw
          go_wp2_with fail
          refine (awake_true _).mono ?_
          rintro e w7 ⟨rfl, hc3⟩
          have fin := hid (none_below (hI6.out.chg.trans_same hc3))
          clear hc3
          go_wp2_with fail
          go_ret
          exact ⟨rfl, fin.out⟩
        · go_wp2_with fail
          refine (seq_insert hI0.out hlb.out hMbh.out hf.out hbv.out hil.out hi.out).mono ?_
          rintro e w5 ⟨a', rfl, hI5', hla', hga', hia'⟩
          have hI5 := hid hI5'
          have hla : Hid (a'.length ≤ 1000) := hid (by omega)
          have hga := hid hga'
          have hia := hid hia'
          clear hI5' hla' hga' hia' hI0 x0 x1 x2 x3 x4 hxl
          obtain ⟨x0, x1, x2, x3, x4⟩ := V.box hI5.out.box
          have hxl := hI5.out.box.lt
          go_wp2_with fail
          refine (ref_valid_eq hbv.out).mono ?_
          rintro e w6 ⟨rfl, hc⟩
          have hI6 := hid (hI5.out.none_ hc)
          clear hc hI5 x0 x1 x2 x3 x4 hxl
          go_wp2_with fail
          refine wp_region_rc (id := 16) [.rd [0, 1, 2, 3, 4, 7], .act 5, .act 6, .wl [8, 9]] [] [] (fun w' => Bk w' w.heap.size 26 v.cs) (by kernel_rfl) 160 rfl (by kernel_rfl) (fun _ _ _ _ _ h => h) hI6.out.box ?_
          refine steps_rdW ?_
          apply Exists.intro
          refine ⟨?_, ?_⟩
          focus
            rintro w' hSa
            obtain ⟨x0, x1, x2, x3, x4⟩ := V.box hSa
            clear hSa
            iterate 6 (refine stW_step rfl (fun K hK => ?_); go_simp; refine hK _ ?_; clear hK K)
            exact stW_nil rfl
          have hId := hid (hI6.out.none_ ((Chg.refl (fun _ => False) w6).drew))
          clear hI6
          refine steps_act (o := ⟨_, _, _, _, _, _⟩) rfl (fun K2 hK2 => ?_)
          go_wp2_with fail
          refine (num_k _ _).mono ?_
          rintro e w7 ⟨rfl, hc⟩
          have hI7 := hid (hId.out.none_ hc)
          clear hc hId
          go_wp2_with fail
          refine hK2 _ _ hI7.out.box rfl ?_
          clear hK2 K2
          refine steps_act (o := ⟨_, _, _, _, _, _⟩) rfl (fun K2 hK2 => ?_)
          go_wp2_with fail
          refine (seq_get hI7.out hla.out hnb.out hga.out).mono ?_
          rintro e w8 ⟨rfl, hc⟩
          have hI8 := hid (hI7.out.none_ hc)
          clear hc hI7
          go_wp2_with fail
          refine hK2 _ _ hI8.out.box rfl ?_
          clear hK2 K2
          refine steps_wlW ?_
          apply Exists.intro
          refine ⟨?_, ?_⟩
          focus
            intro w'
            iterate 2 (refine stW_step rfl (fun K hK => ?_); go_simp; refine hK _ ?_; clear hK K)
            exact stW_nil rfl
          refine steps_end rfl ?_
          obtain ⟨x0, x1, x2, x3, x4⟩ := V.box hI8.out.box
          have hxl := hI8.out.box.lt
          by_cases hk0 : v.k = 0
          · have e0 : (v.k == 0) = true := by simpa using hk0
            clear hk0
            go_wp2_with fail
            refine (awake_true _).mono ?_
            rintro e w9 ⟨rfl, hc3⟩
            have fin := hid (none_below (hI8.out.chg.trans_same hc3))
            clear hc3
            go_wp2_with fail
            go_ret
            exact ⟨rfl, fin.out⟩
          have e0 : (v.k == 0) = false := by simpa using hk0
          have haa := hia.out hk0
          rw [haa] at hI8
          clear hk0 hia hga hla haa a'
          go_wp2_with fail
          clear x0 x1 x2 x3 x4 hxl
          go_loopw [10] (fun s wi => ∃ c : Nat, c ≤ j ∧ s = .int .i64 c ∧ Hid (SeqI w wi o (M0 + 400000) v (insA l i v))) (fun s _ => j - (intOf s).toNat)
          case atStart => exact ⟨0, Nat.zero_le _, rfl, hid (hI8.out.none_ ((Chg.refl (fun _ => False) _)))⟩
          case round =>
            obtain ⟨c, hc, rfl, hJ⟩ := hrel
            clear hI8
            refine (Classical.em (c < j)).elim ?in2 ?out2
            case' in2 =>
              intro hcl
              obtain ⟨b, o', rfl, hb, c0, c1, c2, c3, c4⟩ := Vs.at_ (hlh.out.none_ hJ.out.chg) (i := c) (by rw [hq.out]; exact hcl)
              have hrow := hid (And.intro c0 (And.intro c1 (And.intro c2 (And.intro c3 (And.intro c4 hb)))))
              obtain ⟨x, hx⟩ : ∃ x, Hid (vAt l c = x) := ⟨_, hid rfl⟩
              rw [hx.out] at hrow
              clear hb c0 c1 c2 c3 c4
              have hw2 : IntKind.i64.wrap ((c : Int) + 1) = (c : Int) + 1 := by rw [IntKind.wrap_i64]; omega
              have hw3 : IntKind.i64.wrap ((c : Int) + 1 + 1) = (c : Int) + 1 + 1 := by rw [IntKind.wrap_i64]; omega
              refine (Classical.em (i ≤ c)).elim ?hi2 ?lo2
              case' hi2 =>
                intro hic
                have t3 : decide (n ≤ (c : Int) + 1) = true := decide_eq_true (by have := hi.out; omega)
                have hy : Hid (getT (insA l i v) [] (kI ((c : Int) + 1 + 1)) = x) := hid (by
                  have hl2 := insA_len (v := v) hil.out
                  have := getT_kI (a := insA l i v) (m := []) (i := c + 2) (by omega) (by have := hq.out; omega) (by have := hq.out; omega)
                  rw [show c + 2 - 1 = c + 1 by omega, insA_hi hil.out hic, hx.out] at this
                  rw [← this]
                  congr 1)
              case' lo2 =>
                intro hic
                have t3 : decide (n ≤ (c : Int) + 1) = false := decide_eq_false (by have := hi.out; omega)
                have hy : Hid (getT (insA l i v) [] (kI ((c : Int) + 1)) = x) := hid (by
                  have hl2 := insA_len (v := v) hil.out
                  have := getT_kI (a := insA l i v) (m := []) (i := c + 1) (by omega) (by have := hq.out; omega) (by have := hq.out; omega)
                  rw [show c + 1 - 1 = c by omega, insA_lo hil.out (by omega), hx.out] at this
                  rw [← this]
                  congr 1)
              all_goals
                go_wp2_with fail
                refine wp_region_rc (id := 26) [.rd [0, 1, 4, 5, 6, 7], .act 2, .act 3, .wl [8]] [] [] (fun w' => w'.cell? ⟨b, o' + c * 5, none⟩ = some (.int .i64 x.k) ∧ w'.cell? ⟨b, o' + c * 5 + 1, none⟩ = some (.int .i64 x.p) ∧ w'.cell? ⟨b, o' + c * 5 + 2, none⟩ = some (.int .i64 x.q) ∧ w'.cell? ⟨b, o' + c * 5 + 3, none⟩ = some (.string x.s) ∧ w'.cell? ⟨b, o' + c * 5 + 4, none⟩ = some (.int .i64 x.r) ∧ b < w'.heap.size) (by kernel_rfl) 160 rfl (by kernel_rfl) (fun _ _ _ _ _ h => h) hrow.out ?_
                refine steps_rdW ?_
                apply Exists.intro
                refine ⟨?_, ?_⟩
                focus
                  rintro w' ⟨c0, c1, c2, c3, c4, hb⟩
                  iterate 6 (refine stW_step rfl (fun K hK => ?_); go_simp; refine hK _ ?_; clear hK K)
                  exact stW_nil rfl
                have hJd := hid (hJ.out.none_ ((Chg.refl (fun _ => False) wr).drew))
                have hC0 : Hid (Chg (fun _ => False) wr wr.drew) := hid ((Chg.refl (fun _ => False) wr).drew)
                clear hJ
                refine steps_act (o := ⟨_, _, _, _, _, _⟩) rfl (fun K2 hK2 => ?_)
                go_wp2_with fail
                refine (num_k _ _).mono ?_
                rintro e wk ⟨rfl, hck⟩
                have hJk := hid (hJd.out.none_ hck)
                have hCk := hid (hC0.out.trans_same hck)
                clear hck hJd hC0
                go_wp2_with fail
                refine hK2 _ _ (row5_none hrow.out hCk.out) rfl ?_
                clear hK2 K2
                refine steps_act (o := ⟨_, _, _, _, _, _⟩) rfl (fun K2 hK2 => ?_)
                go_wp2_with fail
                refine (seq_get hJk.out (by rw [insA_len hil.out]; have := hlb.out; omega) (by omega) hy.out).mono ?_
                rintro e wm ⟨rfl, hcm⟩
                have hJm := hid (hJk.out.none_ hcm)
                have hCm := hid (hCk.out.trans_same hcm)
                clear hcm hJk hCk
                go_wp2_with fail
                refine hK2 _ _ (row5_none hrow.out hCm.out) rfl ?_
                clear hK2 K2
                refine steps_wlW ?_
                apply Exists.intro
                refine ⟨?_, ?_⟩
                focus
                  intro w'
                  iterate 1 (refine stW_step rfl (fun K hK => ?_); go_simp; refine hK _ ?_; clear hK K)
                  exact stW_nil rfl
                refine steps_end rfl ?_
                go_wp2_with fail
                go_roundw
                case rel => exact ⟨c + 1, by omega, by go_num, hJm⟩
                case measure => simp [intOf]; omega
            case' out2 =>
              intro hcl
              have hcj : c = j := by omega
              subst hcj
              go_wp2_with fail
              refine (seq_remove hJ.out hlb.out hf.out hil.out hi.out).mono ?_
              rintro e w9 ⟨rfl, hI9'⟩
              have hIa := hid (hI9'.none_ ((Chg.refl (fun _ => False) w9).alloc (.cells v.cs.toArray 26)))
              have hBa := hid (Bk.new w9 26 v.cs)
              obtain ⟨x0, x1, x2, x3, x4⟩ := V.box hI9'.box
              have hxl := hI9'.box.lt
              have hxn : w.heap.size ≠ w9.heap.size := by omega
              have hxn2 : w9.heap.size ≠ w.heap.size := by omega
              clear hI9' hJ hBa
              go_wp2_with fail
              refine (t_len hIa.out.tab hq.out).mono ?_
              rintro e wb ⟨rfl, hw⟩
              subst hw
              clear x0 x1 x2 x3 x4 hxl hxn hxn2
              go_wp2_with fail
              go_loopw [14] (fun s wi => ∃ d : Nat, d ≤ c ∧ s = .int .i64 d ∧ Hid (SeqI w wi o (M0 + 400000) v l)) (fun s _ => c - (intOf s).toNat)
              case atStart => exact ⟨0, Nat.zero_le _, rfl, hIa⟩
              case round =>
                obtain ⟨d, hd, rfl, hJ⟩ := hrel
                clear hIa
                refine (Classical.em (d < c)).elim ?in3 ?out3
                case' in3 =>
                  intro hcl
                  obtain ⟨b, o', rfl, hb, c0, c1, c2, c3, c4⟩ := Vs.at_ (hlh.out.none_ hJ.out.chg) (i := d) (by rw [hq.out]; exact hcl)
                  have hrow := hid (And.intro c0 (And.intro c1 (And.intro c2 (And.intro c3 (And.intro c4 hb)))))
                  obtain ⟨x, hx⟩ : ∃ x, Hid (vAt l d = x) := ⟨_, hid rfl⟩
                  rw [hx.out] at hrow
                  clear hb c0 c1 c2 c3 c4
                  have hw2 : IntKind.i64.wrap ((d : Int) + 1) = (d : Int) + 1 := by rw [IntKind.wrap_i64]; omega
                  have hy : Hid (getT l [] (kI ((d : Int) + 1)) = x) := hid (by
                    have := getT_kI (a := l) (m := []) (i := d + 1) (by omega) (by have := hq.out; omega) (by have := hq.out; omega)
                    rw [show d + 1 - 1 = d by omega, hx.out] at this
                    rw [← this]
                    congr 1)
                  go_wp2_with fail
                  refine wp_region_rc (id := 34) [.rd [0, 1, 2, 5, 6, 7, 8], .act 3, .act 4, .wl [9]] [] [] (fun w' => w'.cell? ⟨b, o' + d * 5, none⟩ = some (.int .i64 x.k) ∧ w'.cell? ⟨b, o' + d * 5 + 1, none⟩ = some (.int .i64 x.p) ∧ w'.cell? ⟨b, o' + d * 5 + 2, none⟩ = some (.int .i64 x.q) ∧ w'.cell? ⟨b, o' + d * 5 + 3, none⟩ = some (.string x.s) ∧ w'.cell? ⟨b, o' + d * 5 + 4, none⟩ = some (.int .i64 x.r) ∧ b < w'.heap.size) (by kernel_rfl) 160 rfl (by kernel_rfl) (fun _ _ _ _ _ h => h) hrow.out ?_
                  refine steps_rdW ?_
                  apply Exists.intro
                  refine ⟨?_, ?_⟩
                  focus
                    rintro w' ⟨c0, c1, c2, c3, c4, hb⟩
                    iterate 7 (refine stW_step rfl (fun K hK => ?_); go_simp; refine hK _ ?_; clear hK K)
                    exact stW_nil rfl
                  have hJd := hid (hJ.out.none_ ((Chg.refl (fun _ => False) wr).drew))
                  have hC0 : Hid (Chg (fun _ => False) wr wr.drew) := hid ((Chg.refl (fun _ => False) wr).drew)
                  clear hJ
                  refine steps_act (o := ⟨_, _, _, _, _, _⟩) rfl (fun K2 hK2 => ?_)
                  go_wp2_with fail
                  refine (num_k _ _).mono ?_
                  rintro e wk ⟨rfl, hck⟩
                  have hJk := hid (hJd.out.none_ hck)
                  have hCk := hid (hC0.out.trans_same hck)
                  clear hck hJd hC0
                  go_wp2_with fail
                  refine hK2 _ _ (row5_none hrow.out hCk.out) rfl ?_
                  clear hK2 K2
                  refine steps_act (o := ⟨_, _, _, _, _, _⟩) rfl (fun K2 hK2 => ?_)
                  go_wp2_with fail
                  refine (seq_get hJk.out (by have := hlb.out; omega) (by omega) hy.out).mono ?_
                  rintro e wm ⟨rfl, hcm⟩
                  have hJm := hid (hJk.out.none_ hcm)
                  have hCm := hid (hCk.out.trans_same hcm)
                  clear hcm hJk hCk
                  go_wp2_with fail
                  refine hK2 _ _ (row5_none hrow.out hCm.out) rfl ?_
                  clear hK2 K2
                  refine steps_wlW ?_
                  apply Exists.intro
                  refine ⟨?_, ?_⟩
                  focus
                    intro w'
                    iterate 1 (refine stW_step rfl (fun K hK => ?_); go_simp; refine hK _ ?_; clear hK K)
                    exact stW_nil rfl
                  refine steps_end rfl ?_
                  go_wp2_with fail
                  go_roundw
                  case rel => exact ⟨d + 1, by omega, by go_num, hJm⟩
                  case measure => simp [intOf]; omega
                case' out3 =>
                  intro hcl
                  have hcj : d = c := by omega
                  subst hcj
                  go_wp2_with fail
                  refine (awake_true _).mono ?_
                  rintro e wz ⟨rfl, hc3⟩
                  have fin := hid (none_below (hJ.out.chg.trans_same hc3))
                  clear hc3
                  go_wp2_with fail
                  go_ret
                  exact ⟨rfl, fin.out⟩
end Go.Proofs.Ytoelgnjnbelokaa
