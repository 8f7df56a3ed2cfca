/-
  The walks of Close.
-/
import Derived.Test.YtjlefkohokcohaaWClose
namespace Go.Proofs.Ytjlefkohokcohaa
open Go.RowKit

theorem up_close_nil (fr : Int) (A : Option Addr) (m k : Nat) (w : World) : Calls Try.prog 18 #[.pointer none, .int .i64 fr, .slice A m k] w fun e w' => e = .returned (.int .i64 0) ∧ w = w' := by
  go_enter Try.func18, Try.ntmps18
  go_wp2
  go_ret
  exact ⟨rfl, rfl⟩
theorem rf_close_nil (fr : Int) (A : Option Addr) (m k : Nat) (w : World) : Calls Try.prog 25 #[.pointer none, .int .i64 fr, .slice A m k] w fun e w' => e = .returned (.int .i64 0) ∧ w = w' := by
  go_enter Try.func25, Try.ntmps25
  go_wp2
  go_ret
  exact ⟨rfl, rfl⟩

def ints (l : List Nat) : List Value := l.map fun (i : Nat) => Value.int .i64 (i : Int)

/-- One open cell is closed. -/
theorem close_step {w wr : World} {L : List Cl} {fr : Int} {rs : List V} {k gA cx lcap : Nat} {LA : Option Addr} {va : Value} (hva : va = .slice (some ⟨gA, 0, none⟩) L.length cx) (hlt : k < (opens L).length) (hrf : fr ≤ (at_ L (opAt L k)).reg)
    (hO : wr.ownsRow 0 3 1 (.slice LA (stay L fr k).length lcap) (stay L fr k).length (ints (stay L fr k)))
    (hR : wr.ownsRow 0 68 7 (.slice (some ⟨gA, 0, none⟩) (cloK L fr rs k).length cx) (cloK L fr rs k).length ((cloK L fr rs k).flatMap Cl.cs)) (hC : Chg (fun b => va.ownBlock = some b) w wr) (v : V) (hv : cl rs (at_ L (opAt L k)) = ⟨false, 0, v⟩) (o : Obj) :
    ((put7 wr gA (opAt L k * 7) ⟨false, 0, v⟩).alloc o).ownsRow 0 3 1 (.slice LA (stay L fr k).length lcap) (stay L fr (k + 1)).length (ints (stay L fr (k + 1))) ∧
      ((put7 wr gA (opAt L k * 7) ⟨false, 0, v⟩).alloc o).ownsRow 0 68 7 (.slice (some ⟨gA, 0, none⟩) L.length cx) L.length ((cloK L fr rs (k + 1)).flatMap Cl.cs) ∧
      Chg (fun b => va.ownBlock = some b) w ((put7 wr gA (opAt L k * 7) ⟨false, 0, v⟩).alloc o) := by
  subst hva
  have ho1 := (opAt_spec hlt).1
  have h7 := own_put7 hR (opAt L k) (by rw [cloK_len]; exact ho1) ⟨false, 0, v⟩
  rw [cloK_len] at h7
  rw [stay_close hlt hrf, cloK_close hlt hrf, hv]
  refine ⟨(own_chg hO (put7_chg wr gA _ _) ?_).alloc o, h7.alloc o, (Chg.put7 hC (fun _ => rfl) _ _).alloc o⟩
  intro b hb e
  exact own_ne hO hR (by decide) hb (by simp [Value.ownBlock, e])

set_option maxRecDepth 100000 in
set_option maxHeartbeats 1000000 in
theorem up_close (c : Nat) (va vo : Value) (L : List Cl) (fr : Int) (A : Option Addr) (rs : List V) (cap : Nat) (w : World) (R : UpRep w c va vo L) (hl : L.length ≤ 1000) (hA : Vs w A rs)
    (hAn : ∀ b o, A = some ⟨b, o, none⟩ → ¬ upF c va vo b) :
    Calls Try.prog 18 #[.pointer (some ⟨c, 0, none⟩), .int .i64 fr, .slice A rs.length cap] w fun e w' => UpPost w w' c va vo (clo L fr rs) ∧ e = .returned (.int .i64 (cnt L fr)) := by
  obtain ⟨i3, hi3, hz3, hs3, hb3⟩ := info_parts Try.info3
  obtain ⟨X, cx, rfl, hcx, hcx', hX, -⟩ := own_form R.all
  obtain ⟨Y, cy, rfl, hcy, hcy', hY, -⟩ := own_form R.opn
  have hle := opens_le L
  have c0 : w.cell? ⟨c, 0, none⟩ = some (.slice X L.length cx) := R.blk.cell 0
  have c1 : w.cell? ⟨c, 1, none⟩ = some (.slice Y (opens L).length cy) := R.blk.cell 1
  have hclt := R.blk.lt
  have hA' := hid hA
  have hAn' := hid hAn
  clear hA hAn
  go_enter Try.func18, Try.ntmps18
  go_wp2
  go_loopw [7, 20] (fun lf i wr => ∃ k : Nat, k ≤ (opens L).length ∧ i = .int .i64 k ∧ Hid (wr.ownsRow 0 3 1 lf (stay L fr k).length (ints (stay L fr k))) ∧ Hid (∀ b, lf.ownBlock = some b → w.heap.size ≤ b) ∧
      Hid (wr.ownsRow 0 68 7 (.slice X L.length cx) L.length ((cloK L fr rs k).flatMap Cl.cs)) ∧ Hid (Chg (fun b => (Value.slice X L.length cx).ownBlock = some b) w wr)) (fun _ i _ => (opens L).length - (intOf i).toNat)
  case atStart => exact ⟨0, Nat.zero_le _, rfl, World.ownsRow_nil _ _ _ _, fun b hb => by simp [Value.ownBlock] at hb, by rw [cloK_zero]; exact R.all, Chg.refl _ w⟩
  case round =>
    obtain ⟨k, hk, rfl, hO, hF, hR, hC⟩ := hrel
    obtain ⟨LA, lcap, rfl, -⟩ := own_form hO.out
    have hst := stay_le L fr k
    have hcn : ¬ ((Value.slice X L.length cx).ownBlock = some c) := R.blk.ne_row R.all (by decide)
    have d0 := hC.out.of_cell c0 hclt hcn
    have d1 := hC.out.of_cell c1 hclt hcn
    have hsz := hC.out.size
    have hcl2 : c < wr.heap.size := by omega
    have d2 : wr.frozen? ⟨c, 1, none⟩ = false := (hC.out.frozen (p := ⟨c, 1, none⟩) hclt hcn).trans (R.blk.frozen 1)
    by_cases hlt : k < (opens L).length
    · obtain ⟨gB, rfl⟩ := hY (by omega)
      obtain ⟨ho1, ho2⟩ := opAt_spec hlt
      obtain ⟨gA, rfl⟩ := hX (by omega)
      have hgA := own_lt R.all (k := gA) rfl
      have hgB := own_lt R.opn (k := gB) rfl
      have hAB : gB ≠ gA := fun e => own_ne R.opn R.all (by decide) (k := gB) rfl (by simp [Value.ownBlock, e])
      have o1 : wr.cell? ⟨gB, k, none⟩ = some (.int .i64 (opAt L k : Nat)) := by
        refine hC.out.of_cell ?_ hgB (by simp [Value.ownBlock]; omega)
        rw [R.opn.cellAt k (by omega), List.getElem?_map, opAt_get hlt]; rfl
      have hR2 : wr.ownsRow 0 68 7 (.slice (some ⟨gA, 0, none⟩) (cloK L fr rs k).length cx) (cloK L fr rs k).length ((cloK L fr rs k).flatMap Cl.cs) := by rw [cloK_len]; exact hR.out
      obtain ⟨f0, f1, f2, f3, f4, f5, f6⟩ := cell_at hR2 (i := opAt L k) (by rw [cloK_len]; exact ho1)
      rw [at_cloK hlt] at f0 f1 f2 f3 f4 f5 f6
      have hgA2 : gA < wr.heap.size := by omega
      have fz : ∀ j, wr.frozen? ⟨gA, j, none⟩ = false := fun j => hR2.frozenAt j
      have hR3 := hid hR2
      clear hX hY hR2
      by_cases hrf : (at_ L (opAt L k)).reg < fr
      · go_wp2_with ((with_reducible show wpList _ _ _ ((⟨some 39, _, _, _, _, _⟩ : Oper) :: _) _ _); refine wpList_append_lies _ rfl _ _ 61 rfl 0 3 i3 _ 1 8 Try.underlying61 hi3 hz3 hs3 hb3 rfl (by omega) _ _ _ rfl (hO.out.alloc _) ⟨wr.heap.size, 0, none⟩ 1 1 [.int .i64 (opAt L k : Nat)] rfl rfl (World.news_of_block (cs := #[.int .i64 (opAt L k : Nat)]) (t := 3) (fr := (0, 0)) (heap_alloc_new wr _)) (by simp [Value.oneCell']) (by omega) (by unfold maxLen; omega) (by omega) (Nat.zero_le _) _ rfl ?_; intro g3 cap3 w3 hown3 hgrow3 hat3 hlt3)
        go_roundw
        case rel =>
          refine ⟨k + 1, by omega, by go_num, ?_, ?_, ?_, ?_⟩
          · show w3.ownsRow 0 3 1 _ _ _
            rw [stay_keep hlt hrf]
            simpa [ints] using hown3
          · intro b hb
            obtain rfl : g3 = b := by simpa [Value.ownBlock] using hb
            rcases hat3 with h | h
            · exact hF.out _ h
            · have e : g3 = wr.heap.size + 1 := by simpa using h
              omega
          · show w3.ownsRow 0 68 7 _ _ _
            rw [cloK_keep hlt hrf]
            exact own_grown (hR.out.alloc (.cells #[.int .i64 (opAt L k : Nat)] 3)) hgrow3 fun b hb e => own_ne hO.out hR.out (by decide) e hb
          · exact (hC.out.alloc (.cells #[.int .i64 (opAt L k : Nat)] 3)).grown hgrow3 fun b hb hlt' => absurd (hF.out b hb) (by omega)
        case measure => simp [intOf]; omega
      · have hrg := R.inv.lo _ ho1 ho2
        obtain ⟨r, hr⟩ := Int.eq_ofNat_of_zero_le hrg.1
        by_cases hin : r < rs.length
        · have hV := hid (hA'.out.at_ hin)
          obtain ⟨b, o, rfl, hb, -⟩ := hV.out
          obtain ⟨y0, y1, y2, y3, y4⟩ : wr.cell? ⟨b, o + r * 5, none⟩ = some (.int .i64 (vAt rs r).k) ∧ wr.cell? ⟨b, o + r * 5 + 1, none⟩ = some (.int .i64 (vAt rs r).p) ∧ wr.cell? ⟨b, o + r * 5 + 2, none⟩ = some (.int .i64 (vAt rs r).q) ∧ wr.cell? ⟨b, o + r * 5 + 3, none⟩ = some (.string (vAt rs r).s) ∧ wr.cell? ⟨b, o + r * 5 + 4, none⟩ = some (.int .i64 (vAt rs r).r) := by
            have hn : ¬ ((Value.slice (some ⟨gA, 0, none⟩) L.length cx).ownBlock = some b) := fun e => hAn'.out b o rfl (.inr (.inl e))
            obtain ⟨b', o', e, _, z0, z1, z2, z3, z4⟩ := hV.out
            injection e with e
            injection e with e1 e2
            subst e1; subst e2
            exact ⟨hC.out.of_cell z0 hb hn, hC.out.of_cell z1 hb hn, hC.out.of_cell z2 hb hn, hC.out.of_cell z3 hb hn, hC.out.of_cell z4 hb hn⟩
          have hb2 : b < wr.heap.size := by omega
          have hr' := hid hr
          rw [hr] at f1 hrf
          clear hr hrg
          go_wp2
          have hv : cl rs (at_ L (opAt L k)) = ⟨false, 0, vAt rs r⟩ := by
            unfold cl
            rw [hr'.out]
            first
              | rw [if_pos (by omega), Int.toNat_natCast]
              | rw [if_neg (by omega)]
          have hrf2 : fr ≤ (at_ L (opAt L k)).reg := by rw [hr'.out]; omega
          have fin := hid (close_step (va := .slice (some ⟨gA, 0, none⟩) L.length cx) rfl hlt hrf2 hO.out hR3.out hC.out _ hv (.cells (vAt rs r).cs.toArray 33))
          go_roundw
          case rel => exact ⟨k + 1, by omega, by go_num, fin.out.1, hF, fin.out.2.1, fin.out.2.2⟩
          case measure => simp [intOf]; omega
        · have hr' := hid hr
          rw [hr] at f1 hrf
          clear hr hrg
          go_wp2
          have hv : cl rs (at_ L (opAt L k)) = ⟨false, 0, V.zero⟩ := by
            unfold cl
            rw [hr'.out]
            first
              | rw [if_pos (by omega), Int.toNat_natCast]
              | rw [if_neg (by omega)]
          have hrf2 : fr ≤ (at_ L (opAt L k)).reg := by rw [hr'.out]; omega
          have fin := hid (close_step (va := .slice (some ⟨gA, 0, none⟩) L.length cx) rfl hlt hrf2 hO.out hR3.out hC.out _ hv (.cells (V.zero).cs.toArray 33))
          go_roundw
          case rel => exact ⟨k + 1, by omega, by go_num, fin.out.1, hF, fin.out.2.1, fin.out.2.2⟩
          case measure => simp [intOf]; omega
    · obtain rfl : (opens L).length = k := by omega
      clear hX hY
      go_wp2
      go_ret
      rw [cnt_eq]
      have hcv : (Value.slice LA (stay L fr (opens L).length).length lcap).ownBlock ≠ some c := fun e => absurd (hF.out c e) (by omega)
      have b1 := R.blk.chg hC.out hcn
      have hRf := hR.out
      rw [cloK_all] at hRf
      refine ⟨⟨_, _, ⟨b1.set_ 1 _, ?_, ?_, R.inv.clo fr rs⟩, ?_, ?_⟩, rfl⟩
      · rw [clo_len]
        exact own_far hRf hcn _
      · rw [opens_clo]
        exact own_far hO.out hcv _
      · exact Chg.setCell (p := ⟨c, 1, none⟩) (hC.out.mono fun b _ hb => .inr (.inl hb)) (fun _ => .inl rfl) _
      · intro b hb
        rcases hb with rfl | hb | hb
        · exact .inl (.inl rfl)
        · exact .inl (.inr (.inl hb))
        · exact .inr (hF.out b hb)
theorem close_step_rf {w wr : World} {L : List Cl} {fr : Int} {rs : List V} {k gA cx : Nat} {va : Value} (hva : va = .slice (some ⟨gA, 0, none⟩) L.length cx) (hlt : k < L.length) (ho : (at_ L k).o = true) (hrf : fr ≤ (at_ L k).reg)
    (hR : wr.ownsRow 0 72 7 (.slice (some ⟨gA, 0, none⟩) (cloT L fr rs k).length cx) (cloT L fr rs k).length ((cloT L fr rs k).flatMap Cl.cs)) (hC : Chg (fun b => va.ownBlock = some b) w wr) (v : V) (hv : cl rs (at_ L k) = ⟨false, 0, v⟩) (o : Obj) :
    (((put7 wr gA (k * 7) ⟨false, 0, v⟩).alloc o).drew).ownsRow 0 72 7 (.slice (some ⟨gA, 0, none⟩) L.length cx) L.length ((cloT L fr rs (k + 1)).flatMap Cl.cs) ∧
      Chg (fun b => va.ownBlock = some b) w (((put7 wr gA (k * 7) ⟨false, 0, v⟩).alloc o).drew) := by
  subst hva
  have h7 := own_put7 hR k (by rw [cloT_len]; exact hlt) ⟨false, 0, v⟩
  rw [cloT_len] at h7
  have hf : cloF fr rs (at_ L k) = ⟨false, 0, v⟩ := by unfold cloF; rw [if_pos ⟨ho, hrf⟩, hv]
  rw [cloT_succ hlt, hf]
  exact ⟨(h7.alloc o).drew, ((Chg.put7 hC (fun _ => rfl) _ _).alloc o).drew⟩

set_option maxRecDepth 100000 in
set_option maxHeartbeats 1000000 in
theorem rf_close (c : Nat) (va : Value) (L : List Cl) (fr : Int) (A : Option Addr) (rs : List V) (cap : Nat) (w : World) (R : RfRep w c va L) (hl : L.length ≤ 1000) (hA : Vs w A rs)
    (hAn : ∀ b o, A = some ⟨b, o, none⟩ → ¬ rfF c va b) :
    Calls Try.prog 25 #[.pointer (some ⟨c, 0, none⟩), .int .i64 fr, .slice A rs.length cap] w fun e w' => RfPost w w' c va (clo L fr rs) ∧ e = .returned (.int .i64 (cnt L fr)) := by
  obtain ⟨X, cx, rfl, hcx, hcx', hX, -⟩ := own_form R.all
  have c0 : w.cell? ⟨c, 0, none⟩ = some (.slice X L.length cx) := R.blk.cell 0
  have hclt := R.blk.lt
  have hA' := hid hA
  have hAn' := hid hAn
  clear hA hAn
  go_enter Try.func25, Try.ntmps25
  go_wp2
  go_loopw [7, 8] (fun n i wr => ∃ k : Nat, k ≤ L.length ∧ i = .int .i64 k ∧ n = .int .i64 (cntT L fr k : Nat) ∧
      Hid (wr.ownsRow 0 72 7 (.slice X L.length cx) L.length ((cloT L fr rs k).flatMap Cl.cs)) ∧ Hid (Chg (fun b => (Value.slice X L.length cx).ownBlock = some b) w wr)) (fun _ i _ => L.length - (intOf i).toNat)
  case atStart => exact ⟨0, Nat.zero_le _, rfl, rfl, by rw [show cloT L fr rs 0 = L from by simp [cloT]]; exact R.all, Chg.refl _ w⟩
  case round =>
    obtain ⟨k, hk, rfl, rfl, hR, hC⟩ := hrel
    have hcn : ¬ ((Value.slice X L.length cx).ownBlock = some c) := R.blk.ne_row R.all (by decide)
    have d0 := hC.out.of_cell c0 hclt hcn
    have hsz := hC.out.size
    have hcl2 : c < wr.heap.size := by omega
    have hcnt := cntT_le L fr k
    by_cases hlt : k < L.length
    · obtain ⟨gA, rfl⟩ := hX (by omega)
      have hgA := own_lt R.all (k := gA) rfl
      have hR2 : wr.ownsRow 0 72 7 (.slice (some ⟨gA, 0, none⟩) (cloT L fr rs k).length cx) (cloT L fr rs k).length ((cloT L fr rs k).flatMap Cl.cs) := by rw [cloT_len]; exact hR.out
      obtain ⟨f0, f1, f2, f3, f4, f5, f6⟩ := cell_at hR2 (i := k) (by rw [cloT_len]; exact hlt)
      rw [at_cloT hlt] at f0 f1 f2 f3 f4 f5 f6
      have hgA2 : gA < wr.heap.size := by omega
      have fz : ∀ j, wr.frozen? ⟨gA, j, none⟩ = false := fun j => hR2.frozenAt j
      have hR3 := hid hR2
      clear hX hR2
      cases ho : (at_ L k).o
      · rw [ho] at f0
        have hsame : cloF fr rs (at_ L k) = at_ L k := by unfold cloF; rw [if_neg (by simp [ho])]
        have hs1 := hid (cloT_same hlt hsame)
        have hs2 := hid (cntT_succ (fr := fr) hlt)
        have ho' := hid ho
        clear ho hsame
        go_wp2
        go_roundw
        case rel => exact ⟨k + 1, by omega, by go_num, by rw [hs2.out, if_neg (by rw [ho'.out]; simp), Nat.add_zero], by rw [hs1.out]; exact hR, hC⟩
        case measure => simp [intOf]; omega
      · rw [ho] at f0
        have ho' := hid ho
        clear ho
        have hs2 := hid (cntT_succ (fr := fr) hlt)
        by_cases hrf : (at_ L k).reg < fr
        · have hsame : cloF fr rs (at_ L k) = at_ L k := by unfold cloF; rw [if_neg (by omega)]
          have hs1 := hid (cloT_same hlt hsame)
          clear hsame
          go_wp2
          go_roundw
          case rel => exact ⟨k + 1, by omega, by go_num, by rw [hs2.out, if_neg (by omega), Nat.add_zero], by rw [hs1.out]; exact hR, hC⟩
          case measure => simp [intOf]; omega
        · have hrg := R.inv.lo _ hlt ho'.out
          obtain ⟨r, hr⟩ := Int.eq_ofNat_of_zero_le hrg.1
          have hr' := hid hr
          by_cases hin : r < rs.length
          · have hV := hid (hA'.out.at_ hin)
            obtain ⟨b, o, rfl, hb, -⟩ := hV.out
            obtain ⟨y0, y1, y2, y3, y4⟩ : wr.cell? ⟨b, o + r * 5, none⟩ = some (.int .i64 (vAt rs r).k) ∧ wr.cell? ⟨b, o + r * 5 + 1, none⟩ = some (.int .i64 (vAt rs r).p) ∧ wr.cell? ⟨b, o + r * 5 + 2, none⟩ = some (.int .i64 (vAt rs r).q) ∧ wr.cell? ⟨b, o + r * 5 + 3, none⟩ = some (.string (vAt rs r).s) ∧ wr.cell? ⟨b, o + r * 5 + 4, none⟩ = some (.int .i64 (vAt rs r).r) := by
              have hn : ¬ ((Value.slice (some ⟨gA, 0, none⟩) L.length cx).ownBlock = some b) := fun e => hAn'.out b o rfl (.inr e)
              obtain ⟨b', o', e, _, z0, z1, z2, z3, z4⟩ := hV.out
              injection e with e
              injection e with e1 e2
              subst e1; subst e2
              exact ⟨hC.out.of_cell z0 hb hn, hC.out.of_cell z1 hb hn, hC.out.of_cell z2 hb hn, hC.out.of_cell z3 hb hn, hC.out.of_cell z4 hb hn⟩
            have hb2 : b < wr.heap.size := by omega
            rw [hr] at f1 hrf
            clear hr hrg
            go_wp2
            (refine wp_region_rc (id := 11) [.rd [0, 1, 2, 3, 4, 5, 6, 7]] [8] [] (fun w' => w' = _) (by kernel_rfl) 76 rfl (by kernel_rfl) (fun _ _ _ _ _ h => h) rfl ?_; refine steps_rd ?_; apply Exists.intro; refine ⟨?_, ?_⟩; (focus (rintro w' rfl; (iterate 8 (refine stI_step rfl (fun K hK => ?_); go_simp; refine hK _ ?_; clear hK K)); exact stI_nil rfl)); refine steps_nil (l := [⟨_, _, _, _, _, _⟩]) rfl (fun K2 hK2 => ?_); go_wp2; refine hK2 _ _ rfl ?_; clear hK2 K2; refine stI_nil ?_)
            go_wp2
            have hv : cl rs (at_ L k) = ⟨false, 0, vAt rs r⟩ := by unfold cl; rw [hr'.out, if_pos (by omega), Int.toNat_natCast]
            have hrf2 : fr ≤ (at_ L k).reg := by rw [hr'.out]; omega
            have fin := hid (close_step_rf (va := .slice (some ⟨gA, 0, none⟩) L.length cx) rfl hlt ho'.out hrf2 hR3.out hC.out _ hv (.cells (vAt rs r).cs.toArray 33))
            go_roundw
            case rel => exact ⟨k + 1, by omega, by go_num, by rw [hs2.out, if_pos ⟨ho'.out, hrf2⟩]; go_num, fin.out.1, fin.out.2⟩
            case measure => simp [intOf]; omega
          · rw [hr] at f1 hrf
            clear hr hrg
            go_wp2
            (refine wp_region_rc (id := 11) [.rd [0, 1, 2, 3, 4, 5, 6, 7]] [8] [] (fun w' => w' = _) (by kernel_rfl) 76 rfl (by kernel_rfl) (fun _ _ _ _ _ h => h) rfl ?_; refine steps_rd ?_; apply Exists.intro; refine ⟨?_, ?_⟩; (focus (rintro w' rfl; (iterate 8 (refine stI_step rfl (fun K hK => ?_); go_simp; refine hK _ ?_; clear hK K)); exact stI_nil rfl)); refine steps_nil (l := [⟨_, _, _, _, _, _⟩]) rfl (fun K2 hK2 => ?_); go_wp2; refine hK2 _ _ rfl ?_; clear hK2 K2; refine stI_nil ?_)
            go_wp2
            have hv : cl rs (at_ L k) = ⟨false, 0, V.zero⟩ := by unfold cl; rw [hr'.out, if_neg (by omega)]
            have hrf2 : fr ≤ (at_ L k).reg := by rw [hr'.out]; omega
            have fin := hid (close_step_rf (va := .slice (some ⟨gA, 0, none⟩) L.length cx) rfl hlt ho'.out hrf2 hR3.out hC.out _ hv (.cells V.zero.cs.toArray 33))
            go_roundw
            case rel => exact ⟨k + 1, by omega, by go_num, by rw [hs2.out, if_pos ⟨ho'.out, hrf2⟩]; go_num, fin.out.1, fin.out.2⟩
            case measure => simp [intOf]; omega
    · obtain rfl : L.length = k := by omega
      clear hX
      go_wp2
      go_ret
      have hc2 : cntT L fr L.length = cnt L fr := by unfold cntT; rw [List.take_length]
      rw [hc2]
      have hRf := hR.out
      rw [cloT_all] at hRf
      exact ⟨⟨_, ⟨R.blk.chg hC.out hcn, by rw [clo_len]; exact hRf, R.inv.clo fr rs⟩, hC.out.mono fun b _ hb => .inr hb, fun b hb => .inl hb⟩, rfl⟩
end Go.Proofs.Ytjlefkohokcohaa
