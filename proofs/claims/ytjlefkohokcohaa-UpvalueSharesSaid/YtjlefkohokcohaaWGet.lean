/-
  The walks of Get; the same for the program and for the document's cells.
-/
import Derived.Test.YtjlefkohokcohaaWSmall
namespace Go.Proofs.Ytjlefkohokcohaa
open Go.RowKit

theorem up_get_nil (w : World) (n : Int) (A : Option Addr) (m k : Nat) :
    Calls Try.prog 19 #[.pointer none, .int .i64 n, .slice A m k] w fun e w' => e = .returned (.tuple #[(.agg #[.int .i64 0, .int .i64 0, .int .i64 0, .string ⟨#[]⟩, .int .i64 0]), .int .i64 1]) ∧ Chg (fun _ => False) w w' := by
  go_enter Try.func19, Try.ntmps19
  go_wp2_with (go_at_call 28; refine (up_check_nil _ _ _ _ _).mono ?_; rintro e w' ⟨rfl, rfl⟩)
  exact bodyPost_ret (v := .tuple #[(.agg #[.int .i64 0, .int .i64 0, .int .i64 0, .string ⟨#[]⟩, .int .i64 0]), .int .i64 1]) (by simp [results, Try.results19, go_sem]) rfl ⟨rfl, by repeat (first | exact Chg.refl _ _ | refine Chg.setCell ?_ (by simp) _ | refine Chg.alloc ?_ _)⟩
theorem up_get (w : World) (c : Nat) (va : Value) (L : List Cl) (n : Int) (A : Option Addr) (rs : List V) (k : Nat) (h : w.cell? ⟨c, 0, none⟩ = some va) (hcl : c < w.heap.size) (hr : w.ownsRow 0 68 7 va L.length (L.flatMap Cl.cs))
    (I : Inv L) (hA : Vs w A rs) :
    Calls Try.prog 19 #[.pointer (some ⟨c, 0, none⟩), .int .i64 n, .slice A rs.length k] w fun e w' => e = .returned (.tuple #[(.agg #[.int .i64 (getV L n rs).k, .int .i64 (getV L n rs).p, .int .i64 (getV L n rs).q, .string (getV L n rs).s, .int .i64 (getV L n rs).r]), .int .i64 (chk L n rs.length)]) ∧ Chg (fun _ => False) w w' := by
  by_cases h0 : chk L n rs.length = 0
  case neg =>
    have hv : getV L n rs = V.zero := by unfold getV; rw [if_neg h0]
    rw [hv]
    have hb : (chk L n rs.length != 0) = true := by simpa using h0
    clear h0 hv
    go_enter Try.func19, Try.ntmps19
    go_wp2_with (go_at_call 28; refine (up_check _ c va L _ _ _ _ (by go_simp) (hr.alloc _)).mono ?_; rintro e w' ⟨rfl, rfl⟩)
    exact bodyPost_ret (v := .tuple #[(.agg #[.int .i64 V.zero.k, .int .i64 V.zero.p, .int .i64 V.zero.q, .string V.zero.s, .int .i64 V.zero.r]), .int .i64 (chk L n rs.length)]) (by simp [results, Try.results19, go_sem, V.zero]) rfl ⟨rfl, by repeat (first | exact Chg.refl _ _ | refine Chg.setCell ?_ (by simp) _ | refine Chg.alloc ?_ _)⟩
  case pos =>
    have hn : 0 ≤ n ∧ n < L.length := by
      unfold chk at h0
      split at h0
      · cases h0
      · omega
    obtain ⟨i, rfl⟩ := Int.eq_ofNat_of_zero_le hn.1
    have hi : i < L.length := by omega
    obtain ⟨B, cap, rfl, hl, hl', hB, -⟩ := own_form hr
    obtain ⟨g, rfl⟩ := hB (by omega)
    have hgl := own_lt hr (k := g) rfl
    obtain ⟨f0, f1, f2, f3, f4, f5, f6⟩ := cell_at hr (i := i) hi
    have hg : getV L i rs = (if (at_ L i).o = true then vAt rs (at_ L i).reg.toNat else (at_ L i).v) := by
      unfold getV
      rw [if_pos h0, Int.toNat_natCast]
    have hck := up_check (w.alloc (.cells #[.int .i64 0, .int .i64 0, .int .i64 0, .string ⟨#[]⟩, .int .i64 0] 33)) c _ L i A rs.length k (by rw [World.cell?_alloc_lt _ _ _ hcl]; exact h) (hr.alloc _)
    rw [h0] at hck
    have hck := hid hck
    rename_i hck0
    clear hck0
    rw [h0]
    clear hB hn
    cases ho : (at_ L i).o
    · rw [ho] at f0
      rw [hg, ho, if_neg (by simp)]
      clear hg ho h0 hr
      go_enter Try.func19, Try.ntmps19
      go_wp2_with (go_at_call 28; refine hck.out.mono ?_; rintro e w' ⟨rfl, rfl⟩)
      exact bodyPost_ret (v := .tuple #[(.agg #[.int .i64 ((at_ L i).v).k, .int .i64 ((at_ L i).v).p, .int .i64 ((at_ L i).v).q, .string ((at_ L i).v).s, .int .i64 ((at_ L i).v).r]), .int .i64 0]) (by simp [results, Try.results19, go_sem]) rfl ⟨rfl, by repeat (first | exact Chg.refl _ _ | refine Chg.setCell ?_ (by simp) _ | refine Chg.alloc ?_ _)⟩
    · have hreg := I.lo i hi ho
      have hlt : (at_ L i).reg < rs.length := by
        have h1 := h0
        unfold chk at h1
        rw [if_neg (by omega)] at h1
        split at h1
        · cases h1
        · rename_i h2
          simp [ho] at h2
          exact h2
      obtain ⟨r, hr'⟩ := Int.eq_ofNat_of_zero_le hreg.1
      rw [hr'] at f1 hlt hg
      have hrl : r < rs.length := by omega
      obtain ⟨b, o, rfl, hb, r0, r1, r2, r3, r4⟩ := hA.at_ hrl
      rw [ho] at f0
      rw [hg, ho, if_pos rfl, Int.toNat_natCast]
      clear hg ho h0 hr hreg hr' hA
      go_enter Try.func19, Try.ntmps19
      go_wp2_with (go_at_call 28; refine hck.out.mono ?_; rintro e w' ⟨rfl, rfl⟩)
      exact bodyPost_ret (v := .tuple #[(.agg #[.int .i64 (vAt rs r).k, .int .i64 (vAt rs r).p, .int .i64 (vAt rs r).q, .string (vAt rs r).s, .int .i64 (vAt rs r).r]), .int .i64 0]) (by simp [results, Try.results19, go_sem]) rfl ⟨rfl, by repeat (first | exact Chg.refl _ _ | refine Chg.setCell ?_ (by simp) _ | refine Chg.alloc ?_ _)⟩
theorem rf_get_nil (w : World) (n : Int) (A : Option Addr) (m k : Nat) :
    Calls Try.prog 23 #[.pointer none, .int .i64 n, .slice A m k] w fun e w' => e = .returned (.tuple #[(.agg #[.int .i64 0, .int .i64 0, .int .i64 0, .string ⟨#[]⟩, .int .i64 0]), .int .i64 1]) ∧ Chg (fun _ => False) w w' := by
  go_enter Try.func23, Try.ntmps23
  go_wp2_with (go_at_call 29; refine (rf_check_nil _ _ _ _ _).mono ?_; rintro e w' ⟨rfl, rfl⟩)
  exact bodyPost_ret (v := .tuple #[(.agg #[.int .i64 0, .int .i64 0, .int .i64 0, .string ⟨#[]⟩, .int .i64 0]), .int .i64 1]) (by simp [results, Try.results23, go_sem]) rfl ⟨rfl, by repeat (first | exact Chg.refl _ _ | refine Chg.setCell ?_ (by simp) _ | refine Chg.alloc ?_ _)⟩
theorem rf_get (w : World) (c : Nat) (va : Value) (L : List Cl) (n : Int) (A : Option Addr) (rs : List V) (k : Nat) (h : w.cell? ⟨c, 0, none⟩ = some va) (hcl : c < w.heap.size) (hr : w.ownsRow 0 72 7 va L.length (L.flatMap Cl.cs))
    (I : Inv L) (hA : Vs w A rs) :
    Calls Try.prog 23 #[.pointer (some ⟨c, 0, none⟩), .int .i64 n, .slice A rs.length k] w fun e w' => e = .returned (.tuple #[(.agg #[.int .i64 (getV L n rs).k, .int .i64 (getV L n rs).p, .int .i64 (getV L n rs).q, .string (getV L n rs).s, .int .i64 (getV L n rs).r]), .int .i64 (chk L n rs.length)]) ∧ Chg (fun _ => False) w w' := by
  by_cases h0 : chk L n rs.length = 0
  case neg =>
    have hv : getV L n rs = V.zero := by unfold getV; rw [if_neg h0]
    rw [hv]
    have hb : (chk L n rs.length != 0) = true := by simpa using h0
    clear h0 hv
    go_enter Try.func23, Try.ntmps23
    go_wp2_with (go_at_call 29; refine (rf_check _ c va L _ _ _ _ (by go_simp) (hr.alloc _)).mono ?_; rintro e w' ⟨rfl, rfl⟩)
    exact bodyPost_ret (v := .tuple #[(.agg #[.int .i64 V.zero.k, .int .i64 V.zero.p, .int .i64 V.zero.q, .string V.zero.s, .int .i64 V.zero.r]), .int .i64 (chk L n rs.length)]) (by simp [results, Try.results23, go_sem, V.zero]) rfl ⟨rfl, by repeat (first | exact Chg.refl _ _ | refine Chg.setCell ?_ (by simp) _ | refine Chg.alloc ?_ _)⟩
  case pos =>
    have hn : 0 ≤ n ∧ n < L.length := by
      unfold chk at h0
      split at h0
      · cases h0
      · omega
    obtain ⟨i, rfl⟩ := Int.eq_ofNat_of_zero_le hn.1
    have hi : i < L.length := by omega
    obtain ⟨B, cap, rfl, hl, hl', hB, -⟩ := own_form hr
    obtain ⟨g, rfl⟩ := hB (by omega)
    have hgl := own_lt hr (k := g) rfl
    obtain ⟨f0, f1, f2, f3, f4, f5, f6⟩ := cell_at hr (i := i) hi
    have hg : getV L i rs = (if (at_ L i).o = true then vAt rs (at_ L i).reg.toNat else (at_ L i).v) := by
      unfold getV
      rw [if_pos h0, Int.toNat_natCast]
    have hck := rf_check (w.alloc (.cells #[.int .i64 0, .int .i64 0, .int .i64 0, .string ⟨#[]⟩, .int .i64 0] 33)) c _ L i A rs.length k (by rw [World.cell?_alloc_lt _ _ _ hcl]; exact h) (hr.alloc _)
    rw [h0] at hck
    have hck := hid hck
    rename_i hck0
    clear hck0
    rw [h0]
    clear hB hn
    cases ho : (at_ L i).o
    · rw [ho] at f0
      rw [hg, ho, if_neg (by simp)]
      clear hg ho h0 hr
      go_enter Try.func23, Try.ntmps23
      go_wp2_with (go_at_call 29; refine hck.out.mono ?_; rintro e w' ⟨rfl, rfl⟩)
      exact bodyPost_ret (v := .tuple #[(.agg #[.int .i64 ((at_ L i).v).k, .int .i64 ((at_ L i).v).p, .int .i64 ((at_ L i).v).q, .string ((at_ L i).v).s, .int .i64 ((at_ L i).v).r]), .int .i64 0]) (by simp [results, Try.results23, go_sem]) rfl ⟨rfl, by repeat (first | exact Chg.refl _ _ | refine Chg.setCell ?_ (by simp) _ | refine Chg.alloc ?_ _)⟩
    · have hreg := I.lo i hi ho
      have hlt : (at_ L i).reg < rs.length := by
        have h1 := h0
        unfold chk at h1
        rw [if_neg (by omega)] at h1
        split at h1
        · cases h1
        · rename_i h2
          simp [ho] at h2
          exact h2
      obtain ⟨r, hr'⟩ := Int.eq_ofNat_of_zero_le hreg.1
      rw [hr'] at f1 hlt hg
      have hrl : r < rs.length := by omega
      obtain ⟨b, o, rfl, hb, r0, r1, r2, r3, r4⟩ := hA.at_ hrl
      rw [ho] at f0
      rw [hg, ho, if_pos rfl, Int.toNat_natCast]
      clear hg ho h0 hr hreg hr' hA
      go_enter Try.func23, Try.ntmps23
      go_wp2_with (go_at_call 29; refine hck.out.mono ?_; rintro e w' ⟨rfl, rfl⟩)
      exact bodyPost_ret (v := .tuple #[(.agg #[.int .i64 (vAt rs r).k, .int .i64 (vAt rs r).p, .int .i64 (vAt rs r).q, .string (vAt rs r).s, .int .i64 (vAt rs r).r]), .int .i64 0]) (by simp [results, Try.results23, go_sem]) rfl ⟨rfl, by repeat (first | exact Chg.refl _ _ | refine Chg.setCell ?_ (by simp) _ | refine Chg.alloc ?_ _)⟩
end Go.Proofs.Ytjlefkohokcohaa
