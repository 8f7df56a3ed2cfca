/-
  Two failures of the same value and the same places are the same.
-/
import Derived.Test.YtpfopidmdnkkeaaLift
namespace Go.Proofs.Ytpfopidmdnkkeaa
open Go.RowKit Go.Maps

def Pl.zero : Pl := ⟨⟨#[]⟩, 0, false⟩
def plAt (l : List Pl) (i : Nat) : Pl := l.getD i Pl.zero
theorem plAt_get (l : List Pl) (i : Nat) (h : i < l.length) : l[i]? = some (plAt l i) := by
  unfold plAt; rw [List.getD_eq_getElem?_getD, List.getElem?_eq_getElem h]; rfl
theorem Pl.at_ {w : World} {A : Option Addr} {l : List Pl} (h : Rd w 3 A l.length (l.flatMap Pl.cs)) {i : Nat} (hi : i < l.length) :
    ∃ b o, A = some ⟨b, o, none⟩ ∧ b < w.heap.size ∧ w.cell? ⟨b, o + i * 3, none⟩ = some (.string (plAt l i).n) ∧ w.cell? ⟨b, o + i * 3 + 1, none⟩ = some (.int .i64 (plAt l i).l) ∧ w.cell? ⟨b, o + i * 3 + 2, none⟩ = some (.bool (plAt l i).t) := by
  obtain ⟨b, o, e, hb, hc⟩ := h.2 (by omega)
  have g : ∀ j, j < 3 → w.cell? ⟨b, o + (i * 3 + j), none⟩ = (plAt l i).cs[j]? := fun j hj => by
    rw [hc _ (by omega), flat_at _ 3 Pl.cs_len _ _ _ hj, plAt_get _ _ hi]; rfl
  exact ⟨b, o, e, hb, g 0 (by omega), g 1 (by omega), g 2 (by omega)⟩
set_option maxHeartbeats 2000000 in
theorem places_same (w : World) (A A' : Option Addr) (l : List Pl) (n k k' : Nat) (hn : l.length = n) (hA : Rd w 3 A l.length (l.flatMap Pl.cs)) (hA' : Rd w 3 A' l.length (l.flatMap Pl.cs)) (hl : n ≤ 1000000) :
    Calls Try.prog 40 #[.slice A n k, .slice A' n k'] w fun e w' => e = .returned (.bool true) ∧ Chg (fun _ => False) w w' := by
  have hA := hid hA
  have hA' := hid hA'
  have hn := hid hn
  go_enter Try.func40, Try.ntmps40
  go_wp2
  go_loopw [13] (fun i wr => ∃ j : Nat, j ≤ n ∧ i = .int .i64 j ∧ Hid (Chg (fun _ => False) w wr)) (fun i _ => n - (intOf i).toNat)
  case atStart => exact ⟨0, Nat.zero_le _, rfl, hid (Chg.refl _ w)⟩
  case round =>
    obtain ⟨j, hj, rfl, hC⟩ := hrel
    by_cases hlt : j < n
    · obtain ⟨b, o, rfl, hb, x0, x1, x2⟩ := Pl.at_ (hA.out.none_ hC.out) (show j < l.length by have := hn.out; omega)
      obtain ⟨b', o', rfl, hb', y0, y1, y2⟩ := Pl.at_ (hA'.out.none_ hC.out) (show j < l.length by have := hn.out; omega)
      go_wp2
      (refine wp_region_rc (id := 6) [.rd [0, 1, 2, 3, 4, 5, 6, 7, 8]] [] [] (fun w' => w' = _) (by kernel_rfl) 26 rfl (by kernel_rfl) (fun _ _ _ _ _ h => h) rfl ?_; refine steps_rdW ?_; apply Exists.intro; refine ⟨?_, ?_⟩; (focus (rintro w' rfl; (iterate 9 (refine stW_step rfl (fun K hK => ?_); go_simp; refine hK _ ?_; clear hK K)); exact stW_nil rfl)); refine steps_end rfl ?_)
      go_wp2
      go_roundw
      case rel => exact ⟨j + 1, by omega, by go_num, hid hC.out.drew⟩
      case measure => simp [intOf]; omega
    · obtain rfl : j = n := by omega
      go_wp2
      go_ret
      exact ⟨rfl, hC.out⟩
set_option maxRecDepth 100000 in
set_option maxHeartbeats 2000000 in
theorem failure_same (w : World) (x : V) (A A' : Option Addr) (l : List Pl) (n k k' : Nat) (hn : l.length = n) (hA : Rd w 3 A l.length (l.flatMap Pl.cs)) (hA' : Rd w 3 A' l.length (l.flatMap Pl.cs)) (hl : n ≤ 1000000) :
    Calls Try.prog 29 #[.agg #[.int .i64 x.k, .int .i64 x.p, .int .i64 x.q, .string x.s, .int .i64 x.r, .slice A n k], .agg #[.int .i64 x.k, .int .i64 x.p, .int .i64 x.q, .string x.s, .int .i64 x.r, .slice A' n k']] w fun e w' => e = .returned (.bool true) ∧ Chg (fun _ => False) w w' := by
  have hc : Chg (fun _ => False) w ((w.alloc (.cells #[.int .i64 x.k, .int .i64 x.p, .int .i64 x.q, .string x.s, .int .i64 x.r, .slice A n k] 30)).alloc (.cells #[.int .i64 x.k, .int .i64 x.p, .int .i64 x.q, .string x.s, .int .i64 x.r, .slice A' n k'] 30)) := ((Chg.refl _ w).alloc _).alloc _
  have hA := hid (hA.none_ hc)
  have hA' := hid (hA'.none_ hc)
  have hn := hid hn
  have hC := hid hc
  clear hc
  go_enter Try.func29, Try.ntmps29
  go_wp2_with (go_at_call 40; refine (places_same _ A A' l n k k' hn.out hA.out hA'.out hl).mono ?_; rintro e w1 ⟨rfl, hc1⟩; have fin := hid (hC.out.trans_same hc1); clear hc1)
  go_ret
  exact ⟨rfl, fin.out⟩
end Go.Proofs.Ytpfopidmdnkkeaa
