/-
  shrink and Count of a table, and what comes behind a place of the array part.
-/
import Derived.Test.YtoelgnjnbelokaaWTab2
namespace Go.Proofs.Ytoelgnjnbelokaa
open Go.RowKit Go.Maps

section
variable {w w' : World} {S : Nat → Prop} {N o M c bm n : Nat} {av vs : Value} {D : DataW Unit} {a : List V} {m : List Sl}
/-- The array part is cut. -/
theorem TabM.cut {A : Option Addr} {q cap j : Nat} (h : TabM w o (.slice A q cap) c vs bm n D a m) (hj : j ≤ a.length) (h0 : A ≠ none) :
    TabM (w.setCell ⟨o, 0, none⟩ (.slice A j j)) o (.slice A j j) c vs bm n D (a.take j) m ∧ Chg (fun k => k = o) w (w.setCell ⟨o, 0, none⟩ (.slice A j j)) := by
  obtain ⟨s1, s2, s3⟩ := h.sep
  have hc : Chg (fun k => k = o) w (w.setCell ⟨o, 0, none⟩ (.slice A j j)) := (Chg.refl (fun k => k = o) w).setCell (p := ⟨o, 0, none⟩) (fun _ => rfl) _
  refine ⟨⟨h.blk.set_ 0 _, (h.arr.cut hj h0).chg hc fun k hk e => s2 (by subst e; rw [← hk]; cases A <;> rfl), h.mp.chg hc fun k hk e => s1 (by rw [← e]; exact hk)⟩, hc⟩
set_option maxRecDepth 100000 in
set_option maxHeartbeats 4000000 in
theorem t_shrink (h : Tab w S N o M a m) (hb : a.length ≤ 1000000) :
    Calls Try.prog 28 #[.pointer (some ⟨o, 0, none⟩)] w fun e w' => e = .returned (.tuple #[]) ∧ Tab w' S N o M (shrinkA a) m ∧ Chg (fun k => S k ∨ N ≤ k) w w' := by
  obtain ⟨av, c, vs, bm, n, D, hM', hlo', hn'⟩ := h
  obtain ⟨A, cap, rfl, hqc, hcm, hVs', h0, hfr⟩ := hM'.arr.form
  obtain ⟨q, hq⟩ : ∃ q, Hid (a.length = q) := ⟨_, hid rfl⟩
  rw [hq.out] at hM' hqc hb h0
  have hM := hid hM'
  have hlo := hid hlo'
  have hn := hid hn'
  have hVs := hid hVs'
  have c0 : w.cell? ⟨o, 0, none⟩ = some (.slice A q cap) := hM'.blk.cell 0
  have hol := hM'.blk.lt
  have hof := hM'.blk.frozen 0
  by_cases hq0 : q = 0
  · subst hq0
    have ha : a = [] := List.eq_nil_of_length_eq_zero hq.out
    subst ha
    cases A with
    | none =>
      obtain ⟨rfl⟩ : cap = 0 := by
        rcases hM'.arr with ⟨e, _⟩ | ⟨g', cap', cur, e, _⟩
        · injection e
        · injection e with e; cases e
      have fin : Hid (Tab (w.setCell ⟨o, 0, none⟩ (.slice none 0 0)) S N o M (shrinkA []) m ∧ Chg (fun k => S k ∨ N ≤ k) w (w.setCell ⟨o, 0, none⟩ (.slice none 0 0))) := hid (by
        have hc : Chg (fun k => k = o) w (w.setCell ⟨o, 0, none⟩ (.slice none 0 0)) := (Chg.refl (fun k => k = o) w).setCell (p := ⟨o, 0, none⟩) (fun _ => rfl) _
        obtain ⟨s1, s2, s3⟩ := hM'.sep
        exact ⟨⟨_, c, vs, bm, n, D, ⟨hM'.blk.set_ 0 _, LRow.nil _, hM'.mp.chg hc fun k hk e => s1 (by rw [← e]; exact hk)⟩, hlo', hn'⟩, hc.mono fun k _ e => hlo' k (.inl e)⟩)
      clear hM' hlo' hn' hVs' hq
      go_enter Try.func28, Try.ntmps28
      go_wp2_with fail
      go_loop [2] (fun i => i = .int .i64 0) (fun _ => (0 : Nat))
      case atStart => rfl
      case round =>
        subst hrel
        go_wp2_with fail
        go_end0
        exact ⟨rfl, fin.out.1, fin.out.2⟩
    | some ad =>
      obtain ⟨g, rfl⟩ : ∃ g, ad = ⟨g, 0, none⟩ := by
        rcases hM'.arr with ⟨e, _⟩ | ⟨g', cap', cur, e, _⟩
        · injection e with e; cases e
        · injection e with e; injection e with e; exact ⟨g', e⟩
      have fin : Hid (Tab (w.setCell ⟨o, 0, none⟩ (.slice (some ⟨g, 0, none⟩) 0 0)) S N o M (shrinkA []) m ∧ Chg (fun k => S k ∨ N ≤ k) w (w.setCell ⟨o, 0, none⟩ (.slice (some ⟨g, 0, none⟩) 0 0))) := hid (by
        obtain ⟨h1, h2⟩ := hM'.cut (j := 0) (Nat.zero_le _) (by simp)
        exact ⟨⟨_, c, vs, bm, n, D, h1, fun k hk => hlo' k hk, hn'⟩, h2.mono fun k _ e => hlo' k (.inl e)⟩)
      clear hM' hlo' hn' hVs' hq
      go_enter Try.func28, Try.ntmps28
      go_wp2_with fail
      go_loop [2] (fun i => i = .int .i64 0) (fun _ => (0 : Nat))
      case atStart => rfl
      case round =>
        subst hrel
        go_wp2_with fail
        go_end0
        exact ⟨rfl, fin.out.1, fin.out.2⟩
  obtain ⟨g, rfl⟩ := h0 (by omega)
  have fin : Hid (∀ j, j ≤ q → shrinkN a q = j → Tab (w.setCell ⟨o, 0, none⟩ (.slice (some ⟨g, 0, none⟩) j j)) S N o M (shrinkA a) m ∧ Chg (fun k => S k ∨ N ≤ k) w (w.setCell ⟨o, 0, none⟩ (.slice (some ⟨g, 0, none⟩) j j))) := hid (fun j hj hs => by
    obtain ⟨h1, h2⟩ := hM.out.cut (j := j) (by rw [hq.out]; exact hj) (by simp)
    have e : shrinkA a = a.take j := by unfold shrinkA; rw [hq.out, hs]
    rw [e]
    exact ⟨⟨_, c, vs, bm, n, D, h1, fun k hk => hlo.out k hk, hn.out⟩, h2.mono fun k _ e => hlo.out k (.inl e)⟩)
  clear hM' hlo' hn' hVs' hfr h0
  go_enter Try.func28, Try.ntmps28
  go_wp2_with fail
  go_loop [2] (fun i => ∃ j : Nat, j ≤ q ∧ i = .int .i64 j ∧ Hid (shrinkN a q = shrinkN a j)) (fun i => (intOf i).toNat)
  case atStart => exact ⟨q, Nat.le_refl _, rfl, hid rfl⟩
  case round =>
    obtain ⟨j, hj, hjv, hS⟩ := hrel
    refine (Nat.eq_zero_or_pos j).elim ?j0 ?js
    case' j0 =>
      intro hj0
      subst hj0
      have hjv2 := hjv.trans (show Value.int .i64 ((0 : Nat) : Int) = .int .i64 0 from rfl)
      clear hjv
      subst hjv2
      have fin2 := hid (fin.out 0 (Nat.zero_le _) hS.out)
      go_wp2_with fail
      go_end0
      exact ⟨rfl, fin2.out.1, fin2.out.2⟩
    case' js =>
      intro hjp
      obtain ⟨i, hji⟩ : ∃ i, j = i + 1 := ⟨j - 1, by omega⟩
      subst hji
      have hjv2 := hjv.trans (show Value.int .i64 ((i + 1 : Nat) : Int) = .int .i64 ((i : Int) + 1) by simp)
      clear hjv hjp
      subst hjv2
      obtain ⟨b, o', e0, hbl, y0, -⟩ := Vs.at_ (rs := a) hVs.out (i := i) (by rw [hq.out]; omega)
      obtain ⟨rfl, rfl⟩ : g = b ∧ 0 = o' := by injection e0 with e0; injection e0 with e1 e2; exact ⟨e1, e2⟩
      clear e0
      rw [Nat.zero_add] at y0
      have hw1 : IntKind.i64.wrap ((i : Int) + 1 - 1) = (i : Int) := by rw [IntKind.wrap_i64]; omega
      have hw2 : IntKind.i64.wrap (i : Int) = (i : Int) := by rw [IntKind.wrap_i64]; omega
      have t1 : decide ((0 : Int) < (i : Int) + 1) = true := decide_eq_true (by omega)
      have hiq : i < q := by omega
      have hiq2 : (i : Int) < (q : Int) := by omega
      obtain ⟨z, hz⟩ : ∃ z, Hid ((vAt a i).k = z) := ⟨_, hid rfl⟩
      rw [hz.out] at y0
      obtain ⟨bz, hbz⟩ : ∃ b, (z == 0) = b := ⟨_, rfl⟩
      cases bz
      case' true =>
        have hS2 : Hid (shrinkN a q = shrinkN a i) := hid (by
          rw [hS.out]
          have : (vAt a i).k = 0 := by rw [hz.out]; simpa using hbz
          conv => lhs; unfold shrinkN
          rw [if_pos this])
        clear hS fin
        go_wp2_with fail
        go_round
        case rel => exact ⟨i, by omega, by first | rfl | go_num, hS2⟩
        case measure => simp [intOf] <;> omega
      case' false =>
        have hS2 : Hid (shrinkN a q = i + 1) := hid (by
          rw [hS.out]
          have : ¬ (vAt a i).k = 0 := by rw [hz.out]; simpa using hbz
          unfold shrinkN
          rw [if_neg this])
        have fin2 := hid (fin.out (i + 1) (by omega) hS2.out)
        have hic : i + 1 ≤ cap := by omega
        have hic2 : (i : Int) + 1 ≤ (cap : Int) := by omega
        clear hS fin
        go_wp2_with fail
        go_end0
        exact ⟨rfl, fin2.out.1, fin2.out.2⟩
end
end Go.Proofs.Ytoelgnjnbelokaa
