/-
  The functions that make actions, the program's and the document's: what they hand back lies in new memory.
-/
import Derived.Test.YtkkocoalildgnaaAcc
import Derived.Test.YtkkocoalildgnaaRegion2
import Derived.Test.YtkkocoalildgnaaProg
namespace Go.Proofs.Ytkkocoalildgnaa
open Go.RowKit

theorem Try.info25 : (Try.prog.info? 25).map (fun i => (i.zero, i.size, i.bytes)) = some (some (.agg #[.int .i64 0, .int .i64 0, .int .i64 0, .string ⟨#[]⟩, .int .i64 0]), 5, 48) := by kernel_rfl

theorem OwnR.base {w0 w1 w : World} {e size n : Nat} {s : Value} {xs : List Value} (h : OwnR w1 w e size s n xs) (hb : w0.heap.size ≤ w1.heap.size) : OwnR w0 w e size s n xs := ⟨h.own, fun k hk => Nat.le_trans hb (h.lo k hk)⟩
theorem upTo_all (vs : List V) : upTo (vAt vs) vs.length = vs := by
  unfold upTo
  apply List.ext_getElem?
  intro i
  by_cases h : i < vs.length
  · rw [List.getElem?_map, List.getElem?_range h, vAt_get vs i h]; rfl
  · rw [List.getElem?_eq_none (by simpa using h), List.getElem?_eq_none (by omega)]
/-- A new list of values. -/
def Lst (w w' : World) (e : Ending) (vs : List V) : Prop := ∃ A c, e = .returned (.slice A vs.length c) ∧ OwnR w w' 25 5 (.slice A vs.length c) vs.length (vs.flatMap V.cs) ∧ Chg (fun _ => False) w w'
/-- A new action. -/
def Made (w w' : World) (e : Ending) (k o : Int) (f : V) (vs : List V) (s : ByteArray) (l n : Int) (ks : List V) : Prop :=
  ∃ A c A2 c2, e = .returned (.agg #[.int .i64 k, .int .i64 o, .int .i64 f.k, .int .i64 f.p, .int .i64 f.q, .string f.s, .int .i64 f.r, .slice A vs.length c, .string s, .int .i64 l, .int .i64 n, .slice A2 ks.length c2]) ∧ OwnR w w' 25 5 (.slice A vs.length c) vs.length (vs.flatMap V.cs) ∧ OwnR w w' 25 5 (.slice A2 ks.length c2) ks.length (ks.flatMap V.cs) ∧ Chg (fun _ => False) w w'

theorem list_any (w : World) (A : Option Addr) (vs : List V) (k : Nat) (h : Vs w A vs) (hn : vs.length ≤ 1000) : Calls Try.prog 39 #[.slice A vs.length k] w fun e w' => Lst w w' e vs := by
  obtain ⟨i25, hi25, hz25, hs25, hb25⟩ := info_parts Try.info25
  have hones := hid (V.ones vs)
  have h := hid h
  go_enter Try.func39, Try.ntmps39
  go_wp2_with ((with_reducible show wpList _ _ _ ((⟨some 4, _, _, _, _, _⟩ : Oper) :: _) _ _); refine wpList_append_rd (o := ⟨some 4, _, _, _, _, _⟩) rfl (.const (.slice none 0 0)) (.tmp 3) 26 rfl 25 i25 _ 5 48 Try.underlying26 hi25 hz25 hs25 hb25 rfl (by omega) (.slice none 0 0) 0 [] rfl (OwnR.nil w w 25 5).own A vs.length k (vs.flatMap V.cs) rfl h.out hones.out (by unfold maxLen; omega) (by omega) w.heap.size rfl ?_; intro A1 c1 w1 hown hg hat; rw [Nat.zero_add] at hown hat ⊢; rw [List.nil_append] at hown; have hO := hid ((OwnR.nil w w 25 5).appended hown hat (Nat.le_refl _)); have hC := hid ((OwnR.nil w w 25 5).grown (Chg.refl _ w) hg); clear hown hg hat)
  go_ret
  exact ⟨A1, c1, rfl, hO.out, hC.out⟩

set_option maxHeartbeats 1000000 in
theorem copied_any (w : World) (A : Option Addr) (vs : List V) (k : Nat) (h : Vs w A vs) (hn : vs.length ≤ 1000) : Calls Try.prog 40 #[.slice A vs.length k] w fun e w' => Lst w w' e vs := by
  obtain ⟨i25, hi25, hz25, hs25, hb25⟩ := info_parts Try.info25
  have h := hid h
  have h0 : Hid (OwnR w (w.alloc (.cells #[] 25)) 25 5 (.slice (some ⟨w.heap.size, 0, none⟩) 0 0) 0 ((upTo (vAt vs) 0).flatMap V.cs)) := hid ⟨by have := World.ownsRow_made (base := 0) (e := 25) (size := 5) w #[] 0 (Nat.zero_le _) (Nat.zero_le _) rfl; simpa [upTo] using this, fun k hk => by simp [Value.ownBlock] at hk; omega⟩
  go_enter Try.func40, Try.ntmps40
  go_wp2
  go_loopw [3, 4] (fun s i wr => ∃ j : Nat, j ≤ vs.length ∧ i = .int .i64 j ∧ Hid (OwnR w wr 25 5 s j ((upTo (vAt vs) j).flatMap V.cs)) ∧ Hid (Chg (fun _ => False) w wr)) (fun _ i _ => vs.length - (intOf i).toNat)
  case atStart => exact ⟨0, Nat.zero_le _, rfl, h0, hid ((Chg.refl _ w).alloc _)⟩
  case round =>
    obtain ⟨j, hj, rfl, hO, hC⟩ := hrel
    obtain ⟨A2, k2, rfl⟩ := hO.out.form
    by_cases hlt : j < vs.length
    · obtain ⟨b, o', rfl, hb, c0, c1, c2, c3, c4⟩ := Vs.at_ (Rd.none_ h.out hC.out) hlt
      obtain ⟨x, hx⟩ : ∃ x, Hid (vAt vs j = x) := ⟨_, hid rfl⟩
      rw [hx.out] at c0 c1 c2 c3 c4
      go_wp2_with ((with_reducible show wpList _ _ _ ((⟨some 18, _, _, _, _, _⟩ : Oper) :: _) _ _); refine wpList_append_rd (o := ⟨some 18, _, _, _, _, _⟩) rfl (.tmp 12) (.tmp 17) 26 rfl 25 i25 _ 5 48 Try.underlying26 hi25 hz25 hs25 hb25 rfl (by omega) (.slice A2 j k2) j _ rfl (hO.out.alloc _).own (some ⟨wr.heap.size, 0, none⟩) 1 1 x.cs rfl (Rd.one wr 25 5 x.cs rfl _ rfl) (V.ones1 x) (by unfold maxLen; omega) (by omega) (wr.heap.size + 1) (by simp) ?_; intro A1 c1' w1 hown hg hat; have hC1 := hid ((hO.out.alloc (.cells x.cs.toArray 25)).grown (hC.out.alloc _) hg); have hO1 : Hid (OwnR w w1 25 5 (.slice A1 (j + 1) c1') (j + 1) ((upTo (vAt vs) (j + 1)).flatMap V.cs)) := hid (by rw [upTo_succ, hx.out]; exact (hO.out.alloc (.cells x.cs.toArray 25)).appended hown hat (by have := hC.out.size; omega)); clear hown hg hat)
      go_roundw
      case rel => exact ⟨j + 1, by omega, by go_num, hO1, hC1⟩
      case measure => simp [intOf]; omega
    · obtain rfl : j = vs.length := by omega
      go_wp2
      go_ret
      exact ⟨A2, k2, rfl, by have := hO.out; rw [upTo_all] at this; exact this, hC.out⟩
end Go.Proofs.Ytkkocoalildgnaa
