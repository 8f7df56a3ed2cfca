/-
  UpvalueShares: the walk.
-/
import Derived.Test.YtjlefkohokcohaaRows2
namespace Go.Proofs.Ytjlefkohokcohaa
open Go.RowKit

/-- A copy of the registers with one of them set. -/
theorem next_at {w w3 w4 : World} {B o r m g cap : Nat} {L Lr : List Cl} {s : Value} {rs : List V} {A3 : Option Addr} (v : V) (hY : PAt w w3 B o r L Lr s rs) (hlen : rs.length = m) (hgm : g < m)
    (hown : w4.ownsRow 0 33 5 (.slice A3 (0 + m) cap) (0 + m) ([] ++ rs.flatMap V.cs)) (hg : (w3.alloc (.cells #[] 33)).grownBy w4 (Value.slice (some ⟨w3.heap.size, 0, none⟩) 0 0).ownBlock)
    (hat : ∀ k, (Value.slice A3 (0 + m) cap).ownBlock = some k → (Value.slice (some ⟨w3.heap.size, 0, none⟩) 0 0).ownBlock = some k ∨ k = w3.heap.size + 1) :
    ∃ b, A3 = some ⟨b, 0, none⟩ ∧ w3.heap.size ≤ b ∧ PAt w w4 B o r L Lr s rs ∧ Row w4 B (.slice (some ⟨b, 0, none⟩) m cap) rs ∧ PAt w (put5 w4 b (g * 5) v) B o r L Lr s rs ∧ Row (put5 w4 b (g * 5) v) B (.slice (some ⟨b, 0, none⟩) m cap) (rs.set g v) := by
  rw [Nat.zero_add] at hown hat
  rw [List.nil_append] at hown
  have C3 : Chg (fun _ => False) w3 w4 := (((Chg.refl (fun k => k = w3.heap.size) w3).alloc _).grown hg (by simp [Value.ownBlock])).mono fun k hk e => by omega
  have hge : ∀ k, (Value.slice A3 m cap).ownBlock = some k → w3.heap.size ≤ k := fun k hk => (hat k hk).elim (fun h => by simp [Value.ownBlock] at h; omega) fun h => by omega
  have hN : Row w4 B (.slice A3 m cap) rs := ⟨by rw [hlen]; exact hown, fun k hk => Nat.le_trans hY.hB (hge k hk)⟩
  obtain ⟨b, rfl, hb, _⟩ := hN.at_ hgm
  have hb3 := hge b rfl
  exact ⟨b, rfl, hb3, hY.none_ C3, hN, hY.none_ (C3.put5 (fun h => absurd h (by omega)) _ _), hN.put hgm v⟩

set_option maxRecDepth 100000 in
set_option maxHeartbeats 4000000 in
theorem shares_true (w : World) (A : Option Addr) (l : List OpV) (k n g : Nat) (v x : V) (hl : Rd w 8 A l.length (l.flatMap OpV.cs)) (hn : n ≤ 255) (hg : g ≤ 255) :
    Calls Try.prog 5 #[.slice A l.length k, .int .u8 n, .int .u8 g, (.agg #[.int .i64 v.k, .int .i64 v.p, .int .i64 v.q, .string v.s, .int .i64 v.r]), (.agg #[.int .i64 x.k, .int .i64 x.p, .int .i64 x.q, .string x.s, .int .i64 x.r])] w fun e w' => e = .returned (.bool true) ∧ Below w.heap.size w w' := by
  have hl := hid hl
  have hbox : Below w.heap.size w ((w.alloc (.cells v.cs.toArray 33)).alloc (.cells x.cs.toArray 33)) := ((Below.refl _ w).alloc (Nat.le_refl _) _).alloc (by simp) _
  have hbox := hid hbox
  by_cases h200 : 200 < l.length
  · go_enter Try.func5, Try.ntmps5
    go_wp2_with (go_at_call 13; refine (lives_true _).mono ?_; rintro e w5 ⟨rfl, hc5⟩; have fin := hid (hbox.out.trans (hc5.mono (by simp; omega))))
    go_ret
    exact ⟨rfl, fin.out⟩
  have hmade := hid (made_at ((w.alloc (.cells v.cs.toArray 33)).alloc (.cells x.cs.toArray 33)) A l k n (n % 40) rfl hn (hl.out.below hbox.out (Nat.le_refl _)) (by omega))
  have hlt : ¬ (200 : Int) < l.length := by omega
  have hv := hid (show Bk ((w.alloc (.cells v.cs.toArray 33)).alloc (.cells x.cs.toArray 33)) w.heap.size 33 v.cs from (Bk.new w 33 v.cs).alloc _)
  have hx := hid (show Bk ((w.alloc (.cells v.cs.toArray 33)).alloc (.cells x.cs.toArray 33)) (w.heap.size + 1) 33 x.cs by
    have := Bk.new (w.alloc (.cells v.cs.toArray 33)) 33 x.cs
    simpa using this)
  have hm40 : n % 40 ≤ 40 := by omega
  generalize n % 40 = m at hmade hm40
  by_cases hgm : m ≤ g
  · have hd : decide ((m : Int) ≤ (g : Int)) = true := by simp; omega
    go_enter Try.func5, Try.ntmps5
    go_wp2_with (first
      | (go_at_call 14; refine hmade.out.mono ?_; rintro e w1 ⟨B, o, r, L, rs, A1, k1, rfl, hlen, hLl, hBw, hX'⟩; obtain ⟨i, L1, e1, hi, -, hlen1, I1, ho1, hr1, -⟩ := opn_in hX'.inv (reg := (g : Int)) (by omega) (by omega); have ea := hid e1; have eb : Hid (chk L1 i m = 19) := hid (by rw [chk_open hi ho1, hr1, if_pos (by omega)]); have hX := hid hX'; clear hX' hmade e1 ho1 hr1 I1)
      | (go_at_call 16; refine (hX.out.open (by omega) ea.out).mono ?_; rintro e w3 ⟨rfl, hY'⟩; have hY := hid hY'; clear hY' hX ea)
      | (go_at_call 19; refine (hY.out.get hY.out.row rfl eb.out).mono ?_; rintro e w4 ⟨rfl, hc4⟩; have hZ0 := hY.out.none_ hc4; have hZ := hid (hZ0.none_ ((Chg.refl _ w4).alloc (.cells (getV L1 i rs).cs.toArray 33))); obtain ⟨a0, a1, a2, a3, a4⟩ := V.box (hZ0.bk hv.out hBw); obtain ⟨b0, b1, b2, b3, b4⟩ := V.box (hZ0.bk hx.out hBw); have hlz : w.heap.size + 1 < w4.heap.size := (hZ0.bk hx.out hBw).lt; have hlz' : w.heap.size < w4.heap.size := (by omega); clear hc4 hY hZ0)
      | (go_at_call 20; refine (hZ.out.set_bad eb.out (by decide)).mono ?_; rintro e w5 ⟨rfl, hc5⟩; have hU := hid (hZ.out.none_ hc5); clear hc5 hZ eb a0 a1 a2 a3 a4 b0 b1 b2 b3 b4)
      | (go_at_call 13; refine (lives_true _).mono ?_; rintro e w9 ⟨rfl, hc9⟩; have fin := hid (hU.out.below.trans (hc9.mono hU.out.hB)); have hBw := hBw; clear hU))
    go_ret
    exact ⟨rfl, hbox.out.trans (fin.out.mono (by simp at hBw; omega))⟩
  · have hd : decide ((m : Int) ≤ (g : Int)) = false := by simp; omega
    have hgm' : g < m := by omega
    obtain ⟨i33, hi33, hz33, hs33, hb33⟩ := info_parts Try.info33
    go_enter Try.func5, Try.ntmps5
    go_wp2_with (first
      | (go_at_call 14; refine hmade.out.mono ?_; rintro e w1 ⟨B, o, r, L, rs, A1, k1, rfl, hlen, hLl, hBw, hX'⟩; obtain ⟨i, L1, e1, hi, -, hlen1, I1, ho1, hr1, -⟩ := opn_in hX'.inv (reg := (g : Int)) (by omega) (by omega); have ea := hid e1; have eb : Hid (chk L1 i m = 0) := hid (by rw [chk_open hi ho1, hr1, if_neg (by omega)]); have ho := hid ho1; have hrg := hid hr1; have hones := hid (V.ones rs); have hlen := hid hlen; have hX := hid hX'; clear hX' hmade e1 ho1 hr1 I1)
      | (go_at_call 16; refine (hX.out.open (by omega) ea.out).mono ?_; rintro e w3 ⟨rfl, hY'⟩; have hY := hid hY'; clear hY' hX ea)
      | ((with_reducible show wpList _ _ _ ((⟨some 81, _, _, _, _, _⟩ : Oper) :: _) _ _); refine wpList_append_rd (o := ⟨some 81, _, _, _, _, _⟩) rfl (.tmp 79) (.tmp 80) 27 rfl 33 i33 _ 5 48 Try.underlying27 hi33 hz33 hs33 hb33 rfl (by omega) (.slice (some ⟨w3.heap.size, 0, none⟩) 0 0) 0 [] rfl (by have := World.ownsRow_made (base := 0) (e := 33) (size := 5) w3 #[] 0 (Nat.zero_le _) (Nat.zero_le _) rfl; simpa using this) A1 m k1 (rs.flatMap V.cs) rfl (hY.out.row.rd.alloc _) hones.out (by unfold maxLen; omega) (by omega) (w3.heap.size + 1) (by simp) ?_; intro A3 cap3 w4 hown3 hg3 hat3; obtain ⟨b3, rfl, hb3, hY4, hN4, hP', hN'⟩ := next_at v hY.out hlen.out hgm' hown3 hg3 hat3; rw [Nat.zero_add]; obtain ⟨b9, e9, hb4, -, hfz, n0, n1, n2, n3, n4⟩ := hN4.at_ hgm'; injection e9 with e9; injection e9 with e9 _; subst e9; obtain ⟨a0, a1, a2, a3, a4⟩ := V.box (hY4.bk hv.out hBw); have hP := hid hP'; have hN := hid hN'; clear hown3 hg3 hat3 hY4 hN4 hP' hN' hY)
      | (go_at_call 19; refine (hP.out.get hN.out (v := v) (by rw [getV_open hi ho.out hrg.out (by simp; have := hlen.out; omega), vAt_set (by have := hlen.out; omega)]) eb.out).mono ?_; rintro e w6 ⟨rfl, hc6⟩; have hQ0 := hP.out.none_ hc6; have hQ := hid (hQ0.none_ ((Chg.refl _ w6).alloc (.cells v.cs.toArray 33))); have hM := hid ((hN.out.tc (TC.of_none (T := []) (B := B) hc6) (by simp)).tc (TC.of_none (T := []) (B := B) ((Chg.refl _ w6).alloc (.cells v.cs.toArray 33))) (by simp)); obtain ⟨a0, a1, a2, a3, a4⟩ := V.box (hQ0.bk hv.out hBw); obtain ⟨b0, b1, b2, b4, b5⟩ := V.box (hQ0.bk hx.out hBw); have hlz : w.heap.size + 1 < w6.heap.size := (hQ0.bk hx.out hBw).lt; have hc6b : Hid (b3 < w6.heap.size) := hid (by have q1 := hc6.size; have q2 := (put5_chg w4 b3 (g * 5) v).size; omega); clear hc6 hP hN hQ0 n0 n1 n2 n3 n4 hfz)
      | (go_at_call 20; refine (hQ.out.set_new hM.out (by omega) x eb.out).mono ?_; rintro e w7 ⟨A7, k7, rfl, hR', hO', hc7, hf7⟩; have hb36 : b3 < w6.heap.size := (by have := hc6b.out; omega); rw [setCl_open ho.out] at hR'; rw [setRs_open ho.out hrg.out] at hO'; have hM7 := hid (hM.out.tc hc7 (by simp)); obtain ⟨d0, d1, d2, d3, d4⟩ := V.box ((Bk.new w6 33 v.cs).tc hc7 (by simp)); obtain ⟨a0, a1, a2, a3, a4⟩ := V.box (hR'.bk hv.out hBw); obtain ⟨b0, b1, b2, b4, b5⟩ := V.box (hR'.bk hx.out hBw); obtain ⟨b7, e7, hb7, -, -, o0, o1, o2, o3, o4⟩ := hO'.at_ hgm'; subst e7; have hne7 : b3 ≠ b7 := (by have := hf7 b7 rfl; simp at this; omega); rw [vAt_set (by simp; have := hlen.out; omega)] at o0 o1 o2 o3 o4; have hR := hid hR'; have hO := hid hO'; clear hc7 hR' hO' hQ hM hf7 hc6b))
    (refine wp_region_rc (id := 18) [.rd [0, 1, 2, 3, 4, 5, 6, 7, 8, 9, 10, 11, 12, 13, 14, 15, 16, 17, 18, 19, 20, 21, 22, 23, 24, 25]] [] [] (fun w' => w' = _) (by kernel_rfl) 153 rfl (by kernel_rfl) (fun _ _ _ _ _ h => h) rfl ?_; refine steps_rd ?_; apply Exists.intro; refine ⟨?_, ?_⟩; (focus (rintro w' rfl; (iterate 26 (refine stI_step rfl (fun K hK => ?_); go_simp; refine hK _ ?_; clear hK K)); exact stI_nil rfl)); refine steps_end rfl ?_)
    have hO9 := hid (hO.out.tc (TC.of_none (T := []) (B := B) (Chg.refl _ w7).drew) (by simp))
    have hM9 := hid (hM7.out.tc (TC.of_none (T := []) (B := B) (Chg.refl _ w7).drew) (by simp))
    have hR9 := hid (hR.out.none_ (Chg.refl _ w7).drew)
    clear hR hO hM7 o0 o1 o2 o3 o4 d0 d1 d2 d3 d4 a0 a1 a2 a3 a4 b0 b1 b2 b4 b5
    go_wp2_with fail
    refine (hR9.out.get hO9.out (v := x) (by rw [getV_open hi ho.out hrg.out (by simp; have := hlen.out; omega), vAt_set (by simp; have := hlen.out; omega)]) eb.out).mono ?_
    rintro e w8 ⟨rfl, hc8⟩
    have hS0 := hR9.out.none_ hc8
    have hO8 := hO9.out.tc (TC.of_none (T := []) (B := B) hc8) (by simp)
    have hM8 := hM9.out.tc (TC.of_none (T := []) (B := B) hc8) (by simp)
    obtain ⟨b9, e9, hb9, hB9, hfz, n0, n1, n2, n3, n4⟩ := hM8.at_ hgm'
    injection e9 with e9
    injection e9 with e9 _
    subst e9
    obtain ⟨b0, b1, b2, b4, b5⟩ := V.box (hS0.bk hx.out hBw)
    have hlz8 : w.heap.size + 1 < w8.heap.size := (hS0.bk hx.out hBw).lt
    have hcp : Chg (fun k => k = b3) w8 ((put5 w8 b3 (g * 5) x).alloc (.cells x.cs.toArray 33)) := (Chg.put5 (S := fun k => k = b3) (Chg.refl _ w8) (fun _ => rfl) _ _).alloc _
    have hbel := hid (hS0.below.trans (hcp.below hS0.hB (fun q hq e => by omega)))
    have hBn : B ≤ ((put5 w8 b3 (g * 5) x).alloc (.cells x.cs.toArray 33)).heap.size := Nat.le_trans hS0.hB hcp.size
    have hBn := hid hBn
    have hOn : Hid (Row ((put5 w8 b3 (g * 5) x).alloc (.cells x.cs.toArray 33)) B (.slice (some ⟨b7, 0, none⟩) m k7) ((rs.set g v).set g x)) := hid ⟨own_chg hO8.1 hcp (by simp [Value.ownBlock]; omega), hO8.2⟩
    have hMn : Hid (Row ((put5 w8 b3 (g * 5) x).alloc (.cells x.cs.toArray 33)) B (.slice (some ⟨b3, 0, none⟩) m cap3) ((rs.set g v).set g x)) := hid ((hM8.put hgm' x).tc (TC.of_none (T := []) (B := B) ((Chg.refl _ _).alloc _)) (by simp))
    have hne8 : b3 ≠ w8.heap.size := (by omega)
    have hne8' : w8.heap.size ≠ b3 := (by omega)
    have hne9 : b3 ≠ w.heap.size + 1 := (by simp at hBw; omega)
    have hne9' : w.heap.size + 1 ≠ b3 := (by omega)
    clear hc8 hS0 hO8 hM8 hcp hR9 hO9 hM9
    go_wp2_with fail
    refine (values_rows hOn.out hMn.out (by omega)).mono ?_
    trace "ok2"
    rintro e w10 ⟨rfl, hc10⟩
    have hb10 := hid (hbel.out.trans (hc10.below hBn.out (fun _ _ h => h)))
    have hs10 := hid (Nat.le_trans hBn.out hc10.size)
    clear hc10 hOn hMn hbel hBn
    go_wp2_with fail
    trace "ok3"
    refine (lives_true _).mono ?_
    rintro e w11 ⟨rfl, hc11⟩; have fin := hid (hb10.out.trans (hc11.mono hs10.out)); clear hb10 hs10
    go_wp2
    go_ret
    exact ⟨rfl, hbox.out.trans (fin.out.mono (by simp at hBw; omega))⟩
end Go.Proofs.Ytjlefkohokcohaa
