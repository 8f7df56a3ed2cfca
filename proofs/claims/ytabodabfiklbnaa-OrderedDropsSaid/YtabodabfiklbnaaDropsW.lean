/-
  OrderedDrops: the walk.
-/
import Derived.Test.YtabodabfiklbnaaOps
namespace Go.Proofs.Ytabodabfiklbnaa
open Go.RowKit Go.Maps

theorem wsub {a b : Nat} (h : b ≤ a) (ha : a ≤ 100000000) : IntKind.i64.wrap ((a : Int) - (b : Int)) = (a : Int) - (b : Int) := by rw [IntKind.wrap_i64]; omega
set_option maxRecDepth 100000 in
set_option maxHeartbeats 8000000 in
theorem drops_true (w : World) (A : Option Addr) (l : List OpV) (k : Nat) (hl : OpsRd w A l) :
    Calls Try.prog 3 #[.slice A l.length k] w fun e w' => e = .returned (.bool true) ∧ Below w.heap.size w w' := by
  have hl := hid hl
  obtain ⟨lim, hlim⟩ : ∃ lim, l.length = lim := ⟨_, rfl⟩
  have hlimh := hid hlim
  rw [hlim]
  clear hlim
  go_enter Try.func3, Try.ntmps3
  go_wp2_with fail
  refine (o_new w).mono ?_
  rintro e w1 ⟨o, rfl, hO', hc1⟩
  have hstart : Hid (Alone w w1 o 0) := hid ⟨[], hO', Nat.zero_le _, hc1⟩
  clear hO' hc1
  go_wp2_with fail
  go_loopw [4] (fun i wr => ∃ j : Nat, j ≤ lim ∧ j ≤ 400 ∧ i = .int .i64 j ∧ Hid (Alone w wr o j)) (fun i _ => lim - (intOf i).toNat)
  case atStart => exact ⟨0, Nat.zero_le _, by omega, rfl, hstart⟩
  case round =>
    obtain ⟨j, hj, hj4, rfl, hA⟩ := hrel
    clear hstart
    by_cases hlt : j < lim ∧ j < 400
    · obtain ⟨hlt1, hlt2⟩ := hlt
      have hlt3 : (j : Int) < 400 := by omega
      obtain ⟨L, hO', hL', hC'⟩ := hA.out
      obtain ⟨x, b, o', rfl, hb, hxm, -, hcell⟩ := op_at (hl.out.none_ hC') (by rw [hlimh.out]; exact hlt1)
      have hwf := hid (hl.out.2 x hxm)
      have hI := hid hO'.inv
      have hLj := hid hL'
      have hC := hid hC'
      obtain ⟨S, hS', hfix⟩ := hO'.fix
      have hSlo : Hid (∀ k, S k → w.heap.size ≤ k) := hid fun k hk => (hS' k hk).2.elim False.elim id
      have hnS : Hid (∀ k, wr.heap.size ≤ k → ¬ S k) := hid fun k hk e => by have := (hS' k e).1; omega
      have hF := hid hfix
      have hO := hid (hfix (wr.alloc (.cells x.cs.toArray 30)) (wr.heap.size + 1) ((Chg.refl _ wr).alloc _))
      have hR5 := hid ((Chg.refl (fun _ => False) wr).alloc (.cells x.cs.toArray 30))
      have hB5 := hid (Bk.new wr 30 x.cs)
      have hC5 := hid (hC'.alloc (.cells x.cs.toArray 30))
      have c0 := hcell 0 (by omega)
      have c1 := hcell 1 (by omega)
      have c2 := hcell 2 (by omega)
      have c3 := hcell 3 (by omega)
      have c4 := hcell 4 (by omega)
      have c5 := hcell 5 (by omega)
      have c6 := hcell 6 (by omega)
      have c7 := hcell 7 (by omega)
      have c8 := hcell 8 (by omega)
      have c9 := hcell 9 (by omega)
      have c10 := hcell 10 (by omega)
      simp only [OpV.cs, List.getElem?_cons_succ, List.getElem?_cons_zero, Nat.add_zero] at c0 c1 c2 c3 c4 c5 c6 c7 c8 c9 c10
      obtain ⟨y, hy⟩ : ∃ y, Hid (getM L x.k = y) := ⟨_, hid rfl⟩
      obtain ⟨s, hs⟩ : ∃ s, Hid (L.length = s) := ⟨_, hid rfl⟩
      obtain ⟨n, hn⟩ : ∃ n, Hid (nOf L = n) := ⟨_, hid rfl⟩
      have hns : n ≤ s := by rw [← hs.out, ← hn.out]; exact nOf_le L
      have hsj : s ≤ 400 := by rw [← hs.out]; omega
      clear hO' hL' hC' hS' hfix hcell hxm hA
      obtain ⟨bh, hbh⟩ : ∃ b, (y.k != 0) = b := ⟨_, rfl⟩
      obtain ⟨bk, hbk⟩ : ∃ b, (x.kd == 1) = b := ⟨_, rfl⟩
      have hw0 := wsub hns (by omega)
      have hfd : ∀ w : World, (Instr.field 28 (.agg #[.int .i64 y.k, .int .i64 y.p, .int .i64 y.q, .string y.s, .int .i64 y.r]) 0).run Try.prog w = .ok (.int .i64 y.k) w := fun _ => by kernel_rfl
      go_wp2_with fail
      refine (o_get hO.out hwf.out.1 hy.out).mono ?_
      rintro e w2 ⟨rfl, hc⟩
      have hR2 := hid (hR5.out.trans_same hc)
      have hC2 := hid (hC5.out.trans_same hc)
      have hB2 := hid (hB5.out.none_ hc)
      have hO2 := hid (hF.out w2 (w2.heap.size + 1) hR2.out)
      clear hc hR5 hC5 hB5 hO c0 c1 c2 c3 c4 c5 c6 c7 c8 c9 c10
      obtain ⟨p0, p1, p2, p3, p4, p5, p6, p7, p8, p9, p10⟩ := OpV.box hB2.out
      have hl5 := hB2.out.lt
      go_wp2_with fail
      refine (o_slots hO2.out hs.out).mono ?_
      rintro e w3 ⟨rfl, hw⟩
      subst hw
      go_wp2_with fail
      refine (o_len hO2.out hn.out).mono ?_
      rintro e w3 ⟨rfl, hw⟩
      subst hw
      go_wp2_with fail
      refine (o_len hO2.out hn.out).mono ?_
      rintro e w3 ⟨rfl, hw⟩
      subst hw
      clear hw0
      cases bk
      case' true =>
        have hOS := hid (hF.out (w2.alloc (.cells V.zero.cs.toArray 28)) (w2.heap.size + 1) (hR2.out.alloc (.cells V.zero.cs.toArray 28)))
        have hBS := hid (Bk.new w2 28 V.zero.cs)
        have hCS := hid (hC2.out.alloc (.cells V.zero.cs.toArray 28))
        have hRS := hid (hR2.out.alloc (.cells V.zero.cs.toArray 28))
        have hsz := hid (alloc_sz w2 (.cells V.zero.cs.toArray 28))
        obtain ⟨e1, L1, hp'⟩ : ∃ e1 L1, setM L x.k V.zero = (e1, L1) := ⟨_, _, rfl⟩
        have hq := hid hp'
        obtain ⟨v, hv⟩ : ∃ v, Hid (V.zero = v) := ⟨_, hid rfl⟩
        rw [hv.out] at hp'
      case' false =>
        have hOS := hid (hF.out (w2.alloc (.cells x.v.cs.toArray 28)) (w2.heap.size + 1) (hR2.out.alloc (.cells x.v.cs.toArray 28)))
        have hBS := hid (Bk.new w2 28 x.v.cs)
        have hCS := hid (hC2.out.alloc (.cells x.v.cs.toArray 28))
        have hRS := hid (hR2.out.alloc (.cells x.v.cs.toArray 28))
        have hsz := hid (alloc_sz w2 (.cells x.v.cs.toArray 28))
        obtain ⟨e1, L1, hp'⟩ : ∃ e1 L1, setM L x.k x.v = (e1, L1) := ⟨_, _, rfl⟩
        have hq := hid hp'
        obtain ⟨v, hv⟩ : ∃ v, Hid (x.v = v) := ⟨_, hid rfl⟩
        rw [hv.out] at hp'
      all_goals
        have hp := hid hp'
        have hLl : Hid (L1.length ≤ j + 1) := hid (by have := setM_len L x.k v; rw [hp'] at this; have := hLj.out; simp only at *; omega)
        clear hp'
        obtain ⟨be, hbe⟩ : ∃ b, (e1 != 0) = b := ⟨_, rfl⟩
        go_wp2_with fail
        refine (o_set hOS.out (Nat.le_of_eq hsz.out.symm) (by have := hs.out; omega) (by omega) hwf.out.1 hq.out).mono ?_
        rintro e w3 ⟨rfl, hO', hc⟩
        have fin : Hid (Alone w w3 o (j + 1)) := hid ⟨L1, (hO'.weaken (fun k hk => .inr (hSlo.out k hk)) (by have := hC2.out.size; omega)).mono (by omega), hLl.out, chg_new hCS.out hc hSlo.out (by have := hC2.out.size; omega)⟩
        have hO3 := hid hO'
        have hB9 := hid (hBS.out.oneChg hc (hnS.out _ (by have := hR2.out.size; exact this)) (Nat.lt_succ_self _))
        have z0 := (V.box hB9.out).1
        first | (have e0 : V.zero = v := hv.out; rw [e0] at z0; clear e0) | (have e0 : x.v = v := hv.out; rw [e0] at z0; clear e0)
        have hzl := hB9.out.lt
        clear hl5 hO' hc hq hOS hBS hCS hRS hsz hO2 hB2 p0 p1 p2 p3 p4 p5 p6 p7 p8 p9 p10 hF hR2 hC2 hnS hSlo hLj hC
        cases be
        case' false =>
          obtain ⟨s1, hs1⟩ : ∃ s, Hid (L1.length = s) := ⟨_, hid rfl⟩
          obtain ⟨n1, hn1⟩ : ∃ n, Hid (nOf L1 = n) := ⟨_, hid rfl⟩
          have hns1 : n1 ≤ s1 := by rw [← hs1.out, ← hn1.out]; exact nOf_le L1
          have hsj1 : s1 ≤ 401 := by rw [← hs1.out]; have := hLl.out; omega
          have hw1 := wsub hns1 (by omega)
          have hlaw := hid (drops_law hI.out (by have := hp.out; rw [(by simpa using hbe : e1 = 0)] at this; exact this))
          clear hp hLl hI
          go_wp2_with fail
          clear hbe
          refine (o_slots hO3.out hs1.out).mono ?_
          rintro e w4 ⟨rfl, hw⟩
          subst hw
          go_wp2_with fail
          refine (o_len hO3.out hn1.out).mono ?_
          rintro e w4 ⟨rfl, hw⟩
          subst hw
          clear hw1
          obtain ⟨bz, hbz⟩ : ∃ b, (v.k == 0) = b := ⟨_, rfl⟩
          cases bz
          case' true =>
            have hv0 : v.k = 0 := by simpa using hbz
            cases bh
            case' true =>
              have hyn : y.k ≠ 0 := by simpa using hbh
              have hq1 := hlaw.out.1 (by rw [hy.out]; exact hyn) hv0
              rw [hs1.out, hs.out, hn.out, hn1.out] at hq1
              have t1 : ((s1 : Int) - (n1 : Int) != (s : Int) - (n : Int) + 1) = false := by simp; omega
              have t2 : ((n1 : Int) != (n : Int) - 1) = false := by simp; omega
              have hwa : IntKind.i64.wrap ((s : Int) - (n : Int) + 1) = (s : Int) - (n : Int) + 1 := by rw [IntKind.wrap_i64]; omega
              have hwb : IntKind.i64.wrap ((n : Int) - 1) = (n : Int) - 1 := by rw [IntKind.wrap_i64]; omega
              clear hq1 hlaw hyn
            case' false =>
              have hyn : y.k = 0 := by simpa using hbh
              have hq1 := hlaw.out.2.2.1 (by rw [hy.out]; exact hyn) hv0
              rw [hs1.out, hs.out, hn.out, hn1.out] at hq1
              have t1 : ((s1 : Int) - (n1 : Int) != (s : Int) - (n : Int)) = false := by simp; omega
              have t2 : ((n1 : Int) != (n : Int)) = false := by simp; omega
              clear hq1 hlaw hyn
            all_goals
              go_wp2_with fail
              refine (o_len hO3.out hn1.out).mono ?_
              rintro e w4 ⟨rfl, hw⟩
              subst hw
              go_wp2_with fail
              go_roundw
              case rel => exact ⟨j + 1, by omega, by omega, by go_num, fin⟩
              case measure => simp [intOf]; omega
          case' false =>
            have hv0 : v.k ≠ 0 := by simpa using hbz
            cases bh
            case' true =>
              have hyn : y.k ≠ 0 := by simpa using hbh
              have hq1 := hlaw.out.2.1 (by rw [hy.out]; exact hyn) hv0
              rw [hs1.out, hs.out, hn.out, hn1.out] at hq1
              have t1 : ((s1 : Int) - (n1 : Int) != (s : Int) - (n : Int)) = false := by simp; omega
              have t2 : ((n1 : Int) != (n : Int)) = false := by simp; omega
              clear hq1 hlaw hyn
              go_wp2_with fail
              refine (o_len hO3.out hn1.out).mono ?_
              rintro e w4 ⟨rfl, hw⟩
              subst hw
              go_wp2_with fail
              go_roundw
              case rel => exact ⟨j + 1, by omega, by omega, by go_num, fin⟩
              case measure => simp [intOf]; omega
            case' false =>
              have hyn : y.k = 0 := by simpa using hbh
              have hq1 := hlaw.out.2.2.2 (by rw [hy.out]; exact hyn) hv0
              rw [hs1.out, hs.out, hn.out, hn1.out] at hq1
              obtain ⟨hq1, hq2⟩ := hq1
              have t1 : decide ((n1 : Int) + 7 < (s1 : Int) - (n1 : Int)) = false := by simp; omega
              have t2 : ((n1 : Int) != (n : Int) + 1) = false := by simp; omega
              obtain ⟨bq, hbq⟩ : ∃ b, ((s1 : Int) - (n1 : Int) != (s : Int) - (n : Int)) = b := ⟨_, rfl⟩
              have t3 : bq = true → ((s1 : Int) - (n1 : Int) != 0) = false := fun e => by rw [e] at hbq; simp at hbq ⊢; omega
              have hwa : IntKind.i64.wrap ((n1 : Int) + 7) = (n1 : Int) + 7 := by rw [IntKind.wrap_i64]; omega
              have hwb : IntKind.i64.wrap ((n : Int) + 1) = (n : Int) + 1 := by rw [IntKind.wrap_i64]; omega
              clear hq1 hlaw hyn hq2
              go_wp2_with fail
              refine (o_len hO3.out hn1.out).mono ?_
              rintro e w4 ⟨rfl, hw⟩
              subst hw
              cases bq
              case' true =>
                have t4 := t3 rfl
              all_goals
                clear t3
                go_wp2_with fail
                refine (o_len hO3.out hn1.out).mono ?_
                rintro e w4 ⟨rfl, hw⟩
                subst hw
                go_wp2_with fail
                go_roundw
                case rel => exact ⟨j + 1, by omega, by omega, by go_num, fin⟩
                case measure => simp [intOf]; omega
        case' true =>
          go_wp2_with fail
          go_roundw
          case rel => exact ⟨j + 1, by omega, by omega, by go_num, fin⟩
          case measure => simp [intOf]; omega
    · have hA2 : Hid (∀ w', Chg (fun _ => False) wr w' → Below w.heap.size w w') := hid (by
        obtain ⟨L, -, -, hC'⟩ := hA.out
        exact fun w' hc => none_below (hC'.trans_same hc))
      clear hA
      refine (Classical.em (j < lim)).elim ?ya ?yb
      case' ya =>
        intro h1
        have h2 : ¬ ((j : Int) < 400) := by omega
      case' yb =>
        intro h1
      all_goals
        go_wp2_with fail
        refine (lives_true _).mono ?_
        rintro e w5 ⟨rfl, hc5⟩
        have fin := hid (hA2.out _ hc5)
        clear hc5 hA2
        go_wp2_with fail
        go_ret
        exact ⟨rfl, fin.out⟩
end Go.Proofs.Ytabodabfiklbnaa
