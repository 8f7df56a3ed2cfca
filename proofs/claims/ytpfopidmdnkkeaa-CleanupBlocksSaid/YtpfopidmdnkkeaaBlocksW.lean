/-
  CleanupBlocks: the walk.
-/
import Derived.Test.YtpfopidmdnkkeaaHeld
import Derived.Test.YtpfopidmdnkkeaaWrap2
import Derived.Deep.DeepCutAuto
import Derived.Deep.CutBlock
namespace Go.Proofs.Ytpfopidmdnkkeaa
open Go.RowKit Go.Maps

theorem int_at {w : World} {A : Option Addr} {l : List Int} (h : Rd w 1 A l.length (l.flatMap fun i => [.int .i64 i])) {i : Nat} (hi : i < l.length) : ∃ b o, A = some ⟨b, o, none⟩ ∧ b < w.heap.size ∧ w.cell? ⟨b, o + i, none⟩ = some (.int .i64 (l.getD i 0)) := by
  obtain ⟨b, o, e, hb, hc⟩ := h.2 (by omega)
  refine ⟨b, o, e, hb, ?_⟩
  have := flat_at (fun i : Int => [Value.int .i64 i]) 1 (fun _ => rfl) l i 0 (by omega)
  rw [Nat.mul_one, Nat.add_zero] at this
  rw [hc i (by omega), this, List.getD_eq_getElem?_getD, List.getElem?_eq_getElem hi]
  rfl
set_option maxRecDepth 100000 in
set_option maxHeartbeats 8000000 in
theorem blocks_true (w : World) (A : Option Addr) (l : List OpV) (k : Nat) (As : Option Addr) (st : List Int) (ks : Nat) (hl : Rd w 7 A l.length (l.flatMap OpV.cs)) (hst : Rd w 1 As st.length (st.flatMap fun i => [.int .i64 i])) :
    Calls Try.prog 9 #[.slice A l.length k, .slice As st.length ks] w fun e w' => e = .returned (.bool true) ∧ Below w.heap.size w w' := by
  obtain ⟨ns, hns⟩ : ∃ ns, Hid (st.length = ns) := ⟨_, hid rfl⟩
  have hst := hid hst
  rw [hns.out]
  refine (Classical.em (300 < l.length)).elim ?lg ?sm
  case' lg =>
    intro hs
    go_enter Try.func9, Try.ntmps9
    go_wp2_with fail
    refine (large_any _ A l.length k (decide_eq_true hs)).mono ?_
    rintro e w1 ⟨rfl, rfl⟩
    clear hs
    go_wp2_with fail
  case' sm =>
    intro hs
    refine (Classical.em (100 < ns)).elim ?lg2 ?sm2
    case' lg2 =>
      intro ht
      have dt : decide ((100 : Int) < (ns : Int)) = true := by simp; omega
      go_enter Try.func9, Try.ntmps9
      go_wp2_with fail
      refine (large_any _ A l.length k (decide_eq_false hs)).mono ?_
      rintro e w1 ⟨rfl, rfl⟩
      clear hs ht
      go_wp2_with fail
  case' sm2 =>
    intro ht
    have dt : decide ((100 : Int) < (ns : Int)) = false := by simp; omega
    have hl := hid hl
    have hs' := hid (decide_eq_false hs)
    have hs2 : l.length ≤ 300 := by omega
    have hns2 : ns ≤ 100 := by omega
    clear hs ht
    go_enter Try.func9, Try.ntmps9
    go_wp2_with fail
    refine (large_any _ A l.length k hs'.out).mono ?_
    rintro e w0 ⟨rfl, rfl⟩
    clear hs'
    go_wp2_with fail
    refine (made_true w A l k hl.out hs2).mono ?_
    rintro e w1 ⟨o, r, rfl, es, fl, hT', hm', hsm', hz', hC'⟩
    have hT := hid hT'
    have hC := hid hC'
    obtain ⟨n, hn⟩ : ∃ n, Hid (es.length = n) := ⟨_, hid rfl⟩
    have hn1 : n ≤ 300 := by have := hn.out; omega
    generalize l.length = j at hT hs2
    have hup := hid hT'.up
    clear hT' hC' hm' hsm' hz' hl dt
    go_wp2_with fail
    refine (o_values hT.out.one hn.out (by omega)).mono ?_
    rintro e w2 ⟨A2, k2, rfl, hR', hc2⟩
    obtain ⟨S, hH'⟩ := Held.start hT.out hC.out hR' hc2
    have hH := hid hH'
    clear hH' hR' hc2 hT hC
    go_wp2_with fail
    generalize hNN : w2.heap.size = N at hH
    clear hNN
    go_loopw [8, 9] (fun t i wr => ∃ m p M : Nat, m ≤ n ∧ p ≤ ns + 1 ∧ M + m ≤ j + n + p ∧ t = .int .i64 m ∧ i = .int .i64 p ∧ Hid (p = ns + 1 → m = 0) ∧ Hid (Held w wr S N o r M (es.take m) fl es fl (.slice A2 n k2) n (valsOf es))) (fun _ i _ => (ns : Int) + 1 - intOf i |>.toNat)
    case atStart =>
      refine ⟨n, 0, j, Nat.le_refl _, Nat.zero_le _, by omega, rfl, rfl, hid fun h => by omega, ?_⟩
      rw [List.take_of_length_le (by have := hn.out; omega)]
      exact hH
    case round =>
      obtain ⟨m, p, M, hm, hp, hM, rfl, rfl, hz, hHr⟩ := hrel
      clear hH
      refine (Nat.lt_or_ge p (ns + 1)).elim ?go ?stop
      case' stop =>
        intro hge
        have hm0 : m = 0 := hz.out (by omega)
        have dp : decide (p ≤ ns) = false := by simp; omega
        subst hm0
        clear hz hge
        go_wp2_with fail
        refine (o_len hHr.out.two.one (n := 0) (by simp)).mono ?_
        rintro e w3 ⟨rfl, rfl⟩
        go_wp2_with fail
        refine (awake_true _).mono ?_
        rintro e w7 ⟨rfl, hc7⟩
        have fin := hid (hHr.out.none_ hc7).below
        clear hc7 hHr
        go_wp2_with fail
        go_ret
        exact ⟨rfl, fin.out⟩
      case' go =>
        intro hlt
        have dp : decide (p ≤ ns) = true := by simp; omega
        clear hz
        go_upto_if 41 with fail
        go_cut [10] (fun t wc => ∃ reg : Int, t = .int .i64 reg ∧ Hid (p = ns → reg = 0) ∧ Hid (Held w wc S N o r M (es.take m) fl es fl (.slice A2 n k2) n (valsOf es)))
        case first =>
          refine (Nat.lt_or_ge p ns).elim ?some ?last
          case' last =>
            intro hge
            have dq : decide (p < ns) = false := by simp; omega
            rw [dq]
            clear hge dq
            go_wp2_with fail
            go_meet
            case rel => exact ⟨0, rfl, hid fun _ => rfl, hHr⟩
          case' some =>
            intro hlt2
            have dq : decide (p < ns) = true := by simp; omega
            obtain ⟨b, o', rfl, hb, q0⟩ := int_at (hst.out.none_ hHr.out.chg) (i := p) (by rw [hns.out]; exact hlt2)
            generalize st.getD p 0 = x at q0
            rw [dq]
            clear dq
            go_wp2_with fail
            all_goals
              go_meet
              case rel => exact ⟨_, rfl, hid fun e => by omega, hHr⟩
        case rest =>
          obtain ⟨reg, rfl, hreg, hHc⟩ := hcut
          clear hHr dp
          go_wp2_with fail
          go_loopw [8] (fun t wr => ∃ m' M' : Nat, m' ≤ m ∧ M' + m' ≤ j + n + p ∧ t = .int .i64 m' ∧ Hid (Held w wr S N o r M' (es.take m') fl es fl (.slice A2 n k2) n (valsOf es))) (fun t _ => (intOf t).toNat)
          case atStart => exact ⟨m, M, Nat.le_refl _, hM, rfl, hHc⟩
          case round =>
            obtain ⟨q, M', hq, hM', rfl, hHr⟩ := hrel
            clear hHc
            have hlen : Hid ((es.take q).length = q) := hid (by rw [List.length_take]; have := hn.out; omega)
            refine (Classical.em (∃ i, q = i + 1 ∧ reg ≤ (enAt es i).r)).elim ?yes ?no
            case' no =>
              intro hex
              have hno : Hid (pop (es.take q) reg = (V.zero, false, es.take q)) := hid (pop_take_no (by have := hn.out; omega) (by
                rcases Nat.eq_zero_or_pos q with h0 | h0
                · exact .inl h0
                · exact .inr ⟨q - 1, by omega, by
                    rcases Int.lt_or_le (enAt es (q - 1)).r reg with h1 | h1
                    · exact h1
                    · exact absurd ⟨q - 1, by omega, h1⟩ hex⟩))
              have hz0 : Hid (p = ns → q = 0) := hid fun e => by
                rcases Nat.eq_zero_or_pos q with h0 | h0
                · exact h0
                · exfalso
                  refine hex ⟨q - 1, by omega, ?_⟩
                  rw [hreg.out e]
                  exact (hup.out.lo (q - 1) (by have := hn.out; omega)).1
              clear hex
              go_wp2_with fail
              refine (p_pop hHr.out.two hHr.out.hN (by rw [hlen.out]; omega) reg hno.out).mono ?_
              rintro e w3 ⟨rfl, hT3, hc3⟩
              have hH3 := hid ((hHr.out.post hT3 hc3).alloc (.cells V.zero.cs.toArray 25))
              clear hT3 hc3 hHr hno hlen
              go_wp2_with fail
              go_roundw
              case rel => exact ⟨q, p + 1, M' + 1, by omega, by omega, by omega, rfl, by go_num, hid fun h => hz0.out (by omega), hH3⟩
              case measure => simp [intOf] <;> omega
            case' yes =>
              rintro ⟨i, hqi, hge⟩
              subst hqi
              have hp : Hid (pop (es.take (i + 1)) reg = ((enAt es i).v, true, es.take i)) := hid (pop_take_yes (by have := hn.out; omega) hge)
              obtain ⟨v, hv⟩ : ∃ v, Hid ((enAt es i).v = v) := ⟨_, hid rfl⟩
              rw [hv.out] at hp
              have hin : i < n := by omega
              have hin2 : (i : Int) < (n : Int) := by omega
              have hlen' : Hid ((es.take i).length = i) := hid (by rw [List.length_take]; have := hn.out; omega)
              clear hge
              go_wp2_with fail
              refine (p_pop hHr.out.two hHr.out.hN (by rw [hlen.out]; omega) reg hp.out).mono ?_
              rintro e w3 ⟨rfl, hT3, hc3⟩
              have hH3 := hid (((hHr.out.post hT3 hc3).alloc (.cells v.cs.toArray 25)).drew)
              obtain ⟨g, rfl, hg, -, -, y0, y1, y2, y3, y4⟩ := (hHr.out.post hT3 hc3).at_ (by rw [vals_len]; exact hn.out) hin
              rw [vals_at (by have := hn.out; omega), hv.out] at y0 y1 y2 y3 y4
              clear hT3 hc3 hHr hlen hp
              go_wp2_with fail
              refine wp_region_rc (id := 17) [.rd [0, 1, 2, 3, 4, 5, 6, 7, 8, 9, 10, 11], .wl [13]] [12, 14, 15] [] (fun w' => w' = _) (by kernel_rfl) 83 rfl (by kernel_rfl) (fun _ _ _ _ _ h => h) rfl ?_
              refine steps_rdW ?_
              apply Exists.intro
              refine ⟨?_, ?_⟩
              focus
                rintro w' rfl
                iterate 12 (refine stW_step rfl (fun K hK => ?_); go_simp; refine hK _ ?_; clear hK K)
                exact stW_nil rfl
              refine steps_wlW ?_
              apply Exists.intro
              refine ⟨?_, ?_⟩
              focus
                intro w'
                iterate 1 (refine stW_step rfl (fun K hK => ?_); go_simp; refine hK _ ?_; clear hK K)
                exact stW_nil rfl
              refine steps_nil (l := [⟨_, _, _, _, _, _⟩, ⟨_, _, _, _, _, _⟩, ⟨_, _, _, _, _, _⟩]) rfl (fun K2 hK2 => ?_)
              go_wp2_with fail
              refine (o_len hH3.out.two.one hlen'.out).mono ?_
              rintro e w4 ⟨rfl, rfl⟩
              go_wp2_with fail
              refine hK2 _ _ rfl ?_
              clear hK2 K2
              refine stI_nil ?_
              go_wp2_with fail
              go_roundw
              case rel => exact ⟨i, M' + 1, by omega, by omega, rfl, hH3⟩
              case measure => simp [intOf] <;> omega
  all_goals
    refine (awake_true _).mono ?_
    rintro e w1 ⟨rfl, hc1⟩
    have fin := hid (none_below hc1)
    clear hc1
    go_wp2_with fail
    go_ret
    exact ⟨rfl, fin.out⟩
end Go.Proofs.Ytpfopidmdnkkeaa
