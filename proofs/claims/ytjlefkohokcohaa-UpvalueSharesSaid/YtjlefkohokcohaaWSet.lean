/-
  The walks of Set; the same for the program and for the document's cells.
-/
import Derived.Test.YtjlefkohokcohaaWSmall
import Derived.Test.YtjlefkohokcohaaRegion
import Derived.Test.YtjlefkohokcohaaMem
namespace Go.Proofs.Ytjlefkohokcohaa
open Go.RowKit

theorem Try.info33 : (Try.prog.info? 33).map (fun i => (i.zero, i.size, i.bytes)) = some (some (.agg #[.int .i64 0, .int .i64 0, .int .i64 0, .string ⟨#[]⟩, .int .i64 0]), 5, 48) := by kernel_rfl
theorem zero_nil : (V.zero.s) = ⟨#[]⟩ := rfl

theorem up_set_nil (w : World) (n : Int) (v : V) (A : Option Addr) (m k : Nat) :
    Calls Try.prog 20 #[.pointer none, .int .i64 n, (.agg #[.int .i64 v.k, .int .i64 v.p, .int .i64 v.q, .string v.s, .int .i64 v.r]), .slice A m k] w fun e w' => e = .returned (.tuple #[.slice none 0 0, .int .i64 1]) ∧ Chg (fun _ => False) w w' := by
  go_enter Try.func20, Try.ntmps20
  go_wp2_with (go_at_call 28; refine (up_check_nil _ _ _ _ _).mono ?_; rintro e w' ⟨rfl, rfl⟩)
  go_ret2
  exact ⟨rfl, by repeat (first | exact Chg.refl _ _ | refine Chg.setCell ?_ (by simp) _ | refine Chg.alloc ?_ _)⟩
theorem up_set_bad (w : World) (c : Nat) (va : Value) (L : List Cl) (n : Int) (v : V) (A : Option Addr) (m k : Nat) (h : w.cell? ⟨c, 0, none⟩ = some va) (hcl : c < w.heap.size) (hr : w.ownsRow 0 68 7 va L.length (L.flatMap Cl.cs))
    (h0 : chk L n m ≠ 0) :
    Calls Try.prog 20 #[.pointer (some ⟨c, 0, none⟩), .int .i64 n, (.agg #[.int .i64 v.k, .int .i64 v.p, .int .i64 v.q, .string v.s, .int .i64 v.r]), .slice A m k] w fun e w' => e = .returned (.tuple #[.slice none 0 0, .int .i64 (chk L n m)]) ∧ Chg (fun _ => False) w w' := by
  have hb : (chk L n m != 0) = true := by simpa using h0
  clear h0
  go_enter Try.func20, Try.ntmps20
  go_wp2_with (go_at_call 28; refine (up_check _ c va L _ _ _ _ (by go_simp) (hr.alloc _)).mono ?_; rintro e w' ⟨rfl, rfl⟩)
  go_ret2
  exact ⟨rfl, by repeat (first | exact Chg.refl _ _ | refine Chg.setCell ?_ (by simp) _ | refine Chg.alloc ?_ _)⟩
theorem rf_set_nil (w : World) (n : Int) (v : V) (A : Option Addr) (m k : Nat) :
    Calls Try.prog 24 #[.pointer none, .int .i64 n, (.agg #[.int .i64 v.k, .int .i64 v.p, .int .i64 v.q, .string v.s, .int .i64 v.r]), .slice A m k] w fun e w' => e = .returned (.tuple #[.slice none 0 0, .int .i64 1]) ∧ Chg (fun _ => False) w w' := by
  go_enter Try.func24, Try.ntmps24
  go_wp2_with (go_at_call 29; refine (rf_check_nil _ _ _ _ _).mono ?_; rintro e w' ⟨rfl, rfl⟩)
  go_ret2
  exact ⟨rfl, by repeat (first | exact Chg.refl _ _ | refine Chg.setCell ?_ (by simp) _ | refine Chg.alloc ?_ _)⟩
theorem rf_set_bad (w : World) (c : Nat) (va : Value) (L : List Cl) (n : Int) (v : V) (A : Option Addr) (m k : Nat) (h : w.cell? ⟨c, 0, none⟩ = some va) (hcl : c < w.heap.size) (hr : w.ownsRow 0 72 7 va L.length (L.flatMap Cl.cs))
    (h0 : chk L n m ≠ 0) :
    Calls Try.prog 24 #[.pointer (some ⟨c, 0, none⟩), .int .i64 n, (.agg #[.int .i64 v.k, .int .i64 v.p, .int .i64 v.q, .string v.s, .int .i64 v.r]), .slice A m k] w fun e w' => e = .returned (.tuple #[.slice none 0 0, .int .i64 (chk L n m)]) ∧ Chg (fun _ => False) w w' := by
  have hb : (chk L n m != 0) = true := by simpa using h0
  clear h0
  go_enter Try.func24, Try.ntmps24
  go_wp2_with (go_at_call 29; refine (rf_check _ c va L _ _ _ _ (by go_simp) (hr.alloc _)).mono ?_; rintro e w' ⟨rfl, rfl⟩)
  go_ret2
  exact ⟨rfl, by repeat (first | exact Chg.refl _ _ | refine Chg.setCell ?_ (by simp) _ | refine Chg.alloc ?_ _)⟩

/-- What Set leaves: a new row of registers, and the cells. -/
def SetPost (w w' : World) (c E : Nat) (va : Value) (L' : List Cl) (rs' : List V) (v' : Value) : Prop :=
  w'.cell? ⟨c, 0, none⟩ = some va ∧ w'.ownsRow 0 E 7 va L'.length (L'.flatMap Cl.cs) ∧ w'.ownsRow 0 33 5 v' rs'.length (rs'.flatMap V.cs) ∧ (∀ k, v'.ownBlock = some k → w.heap.size ≤ k) ∧ Chg (fun k => va.ownBlock = some k) w w'

theorem copied {w3 : World} {m : Nat} {rs : List V} {M : List Value} (hb3 : Bk w3 m 33 (M.take 0 ++ (rs.flatMap V.cs ++ M.drop (0 + rs.length * 5)))) (hM : M.length = rs.length * 5) (hn : rs.length ≤ 1000000) :
    w3.ownsRow 0 33 5 (.slice (some ⟨m, 0, none⟩) rs.length rs.length) rs.length (rs.flatMap V.cs) := by
  have e : M.take 0 ++ (rs.flatMap V.cs ++ M.drop (0 + rs.length * 5)) = rs.flatMap V.cs := by
    rw [List.take_zero, List.nil_append, Nat.zero_add, List.drop_of_length_le (by omega), List.append_nil]
  rw [e] at hb3
  exact Bk.own hb3 (Nat.le_refl _) (by unfold maxLen; omega) (flat_len V.cs 5 V.cs_len rs) (List.take_of_length_le (by rw [flat_len V.cs 5 V.cs_len]; exact Nat.le_refl _))
theorem SetPost.drew {w w' : World} {c E : Nat} {va v' : Value} {L' : List Cl} {rs' : List V} (h : SetPost w w' c E va L' rs' v') : SetPost w w'.drew c E va L' rs' v' :=
  ⟨h.1, h.2.1.drew, h.2.2.1.drew, h.2.2.2.1, h.2.2.2.2.drew⟩
theorem set_closed {w w3 : World} {c E g cap : Nat} {L : List Cl} {i : Nat} {v : V} {rs : List V} {v' : Value} (ho : (at_ L i).o = false) (hi : i < L.length) (C3 : Chg (fun k => w.heap.size ≤ k) w w3)
    (q0 : w.cell? ⟨c, 0, none⟩ = some (.slice (some ⟨g, 0, none⟩) L.length cap)) (hcl : c < w.heap.size) (hgl : g < w.heap.size) (hcg : c ≠ g) (hr : w.ownsRow 0 E 7 (.slice (some ⟨g, 0, none⟩) L.length cap) L.length (L.flatMap Cl.cs))
    (B3 : w3.ownsRow 0 33 5 v' rs.length (rs.flatMap V.cs)) (hm : ∀ k, v'.ownBlock = some k → w.heap.size ≤ k) :
    SetPost w (put5 w3 g (i * 7 + 2) v) c E (.slice (some ⟨g, 0, none⟩) L.length cap) (setCl L i v) (setRs L i v rs) v' := by
  have hs : setCl L i v = L.set i { at_ L i with v := v } := by unfold setCl; rw [if_neg (by rw [ho]; simp)]
  have hv : setRs L i v rs = rs := by unfold setRs; rw [if_neg (by rw [ho]; simp)]
  rw [hs, hv]
  have R4 := own_put5 (own_chg hr C3 (by simp [Value.ownBlock]; omega)) (i * 7 + 2) v
  rw [list5_Cl L i v hi] at R4
  refine ⟨?_, by simpa using R4, own_chg B3 (put5_chg w3 g _ v) (fun k hk e => by have := hm k hk; omega), hm, ?_⟩
  · exact (put5_chg w3 g _ v).of_cell (C3.of_cell q0 hcl (by omega)) (Nat.lt_of_lt_of_le hcl C3.size) hcg
  · exact (Chg.put5 (C3.mono (T := fun k => (Value.slice (some ⟨g, 0, none⟩) L.length cap).ownBlock = some k) fun k hk e => by omega) (fun _ => rfl) _ v)
theorem set_open {w w3 : World} {c E g cap r m mcap : Nat} {L : List Cl} {i : Nat} {v : V} {rs : List V} (ho : (at_ L i).o = true) (hreg : (at_ L i).reg = (r : Nat)) (hrl : r < rs.length) (C3 : Chg (fun k => w.heap.size ≤ k) w w3)
    (q0 : w.cell? ⟨c, 0, none⟩ = some (.slice (some ⟨g, 0, none⟩) L.length cap)) (hcl : c < w.heap.size) (hgl : g < w.heap.size) (hr : w.ownsRow 0 E 7 (.slice (some ⟨g, 0, none⟩) L.length cap) L.length (L.flatMap Cl.cs))
    (B3 : w3.ownsRow 0 33 5 (.slice (some ⟨m, 0, none⟩) rs.length mcap) rs.length (rs.flatMap V.cs)) (hm : w.heap.size ≤ m) :
    SetPost w (put5 w3 m (r * 5) v) c E (.slice (some ⟨g, 0, none⟩) L.length cap) (setCl L i v) (setRs L i v rs) (.slice (some ⟨m, 0, none⟩) rs.length mcap) := by
  have hs : setCl L i v = L := by unfold setCl; rw [if_pos ho]
  have hv : setRs L i v rs = rs.set r v := by unfold setRs; rw [if_pos ho, hreg, Int.toNat_natCast]
  rw [hs, hv]
  have R4 := own_put5 B3 (r * 5) v
  rw [list5_V rs r v hrl] at R4
  refine ⟨?_, own_chg (own_chg hr C3 (by simp [Value.ownBlock]; omega)) (put5_chg w3 m _ v) (by simp [Value.ownBlock]; omega), by simpa using R4, ?_, ?_⟩
  · exact (put5_chg w3 m _ v).of_cell (C3.of_cell q0 hcl (by omega)) (Nat.lt_of_lt_of_le hcl C3.size) (by omega)
  · intro k hk
    simp [Value.ownBlock] at hk
    omega
  · exact (Chg.put5 (C3.mono (T := fun k => (Value.slice (some ⟨g, 0, none⟩) L.length cap).ownBlock = some k) fun k hk e => by omega) (fun h => by omega) _ v)

set_option maxRecDepth 100000 in
set_option maxHeartbeats 4000000 in
theorem up_set_ok (w : World) (c : Nat) (va : Value) (L : List Cl) (i : Nat) (v : V) (A : Option Addr) (rs : List V) (k : Nat) (h : w.cell? ⟨c, 0, none⟩ = some va) (hcl : c < w.heap.size) (hr : w.ownsRow 0 68 7 va L.length (L.flatMap Cl.cs))
    (I : Inv L) (hA : Vs w A rs) (hlen : rs.length ≤ 1000000) (h0 : chk L i rs.length = 0) (hi : i < L.length) (hne : va.ownBlock ≠ some c) :
    Calls Try.prog 20 #[.pointer (some ⟨c, 0, none⟩), .int .i64 i, (.agg #[.int .i64 v.k, .int .i64 v.p, .int .i64 v.q, .string v.s, .int .i64 v.r]), .slice A rs.length k] w fun e w' => ∃ A' cap', e = .returned (.tuple #[.slice A' rs.length cap', .int .i64 0]) ∧
      SetPost w w' c 68 va (setCl L i v) (setRs L i v rs) (.slice A' rs.length cap') := by
  obtain ⟨i33, hi33, hz33, hs33, hb33⟩ := info_parts Try.info33
  obtain ⟨B, cap, rfl, hl, hl', hB, -⟩ := own_form hr
  obtain ⟨g, rfl⟩ := hB (by omega)
  have hgl := own_lt hr (k := g) rfl
  obtain ⟨f0, f1, -⟩ := cell_at hr (i := i) hi
  have hck := hid (up_check (w.alloc (.cells (V.cs v).toArray 33)) c _ L i A rs.length k (by rw [World.cell?_alloc_lt _ _ _ hcl]; exact h) (hr.alloc _))
  rw [h0] at hck
  have hmk : ∀ W : World, (Instr.makeSlice 27 (.int .i64 (rs.length : Int)) (.int .i64 (rs.length : Int))).run Try.prog W = .ok (.slice (some ⟨W.heap.size, 0, none⟩) rs.length rs.length) (W.alloc (.cells (zs rs.length) 33)) :=
    fun W => run_make_n (P := Try.prog) 27 33 i33 _ 5 48 Try.underlying27 hi33 hz33 hs33 hb33 rs.length (by omega) (by omega) W
  have hones := hid (V.ones rs)
  have hA' := hid hA
  clear hB hA
  cases ho : (at_ L i).o
  · rw [ho] at f0
    have ho' := hid ho
    have h0' := hid h0
    have I' := hid I
    clear ho h0 I
    go_enter Try.func20, Try.ntmps20
    go_wp2_with (first
      | (go_at_call 28; refine hck.out.mono ?_; rintro e w' ⟨rfl, rfl⟩)
      | ((with_reducible show wpList _ _ _ ((⟨some 24, _, _, _, _, _⟩ : Oper) :: _) _ _); refine wpList_copy_rd (o := ⟨some 24, _, _, _, _, _⟩) rfl (.tmp 22) (.tmp 23) 27 27 rfl 33 i33 5 Try.underlying27 hi33 hs33 (w.heap.size + 1) 0 rs.length rs.length rs.length k rs.length A rfl rfl (Nat.min_self _) 33 (zs rs.length).toList (rs.flatMap V.cs) (Bk.new_at _ _ _ _ (by simp)) ((Rd.alloc hA'.out _).alloc _) (by rw [zs_len]; omega) hones.out ?_; intro w3 hb3 hg3 hz3; have C3 : Chg (fun k => k = w.heap.size + 1) w w3 := (((Chg.refl _ w).alloc (.cells v.cs.toArray 33)).alloc _).grown hg3 (by simp); have q0 := C3.of_cell h hcl (by omega); have R3 := own_chg hr C3 (by simp [Value.ownBlock]; omega); obtain ⟨q1, q2, q3, q4, q5, q6, q7⟩ := cell_at R3 hi; rw [ho'.out] at q1; have q8 : ∀ j, w3.frozen? ⟨g, j, none⟩ = false := fun j => R3.frozenAt j; obtain ⟨x0, x1, x2, x3, x4⟩ := V.box (((Bk.new w 33 v.cs).alloc _).grown hg3 (by simp)); have B3 := hid (copied hb3 (zs_len _) (by omega))))
    (refine wp_region_rc (id := 8) [.rd [0, 1, 2, 3, 4, 5, 6, 7]] [8] [] (fun w' => w' = _) (by kernel_rfl) 53 rfl (by kernel_rfl) (fun _ _ _ _ _ h => h) rfl ?_; refine steps_rd ?_; apply Exists.intro; refine ⟨?_, ?_⟩; (focus (rintro w' rfl; (iterate 8 (refine stI_step rfl (fun K hK => ?_); go_simp; refine hK _ ?_; clear hK K)); exact stI_nil rfl)); refine steps_nil (l := [⟨_, _, _, _, _, _⟩]) rfl (fun K2 hK2 => ?_); go_wp2; refine hK2 _ _ rfl ?_; clear hK2 K2; refine stI_nil ?_)
    go_wp2
    go_ret2
    have hcg : c ≠ g := fun e => hne (by simp [Value.ownBlock, e])
    have fin := set_closed (E := 68) (v := v) ho'.out hi (C3.mono (T := fun k => w.heap.size ≤ k) fun k _ e => by omega) h hcl hgl hcg hr B3.out (by intro k hk; simp [Value.ownBlock] at hk; omega)
    exact ⟨_, _, rfl, fin.drew⟩
  · rw [ho] at f0
    have hreg := I.lo i hi ho
    have hlt : (at_ L i).reg < rs.length := by
      have h1 := h0
      unfold chk at h1
      rw [if_neg (by omega)] at h1
      split at h1
      · cases h1
      · rename_i h2
        simp [ho] at h2
        exact h2
    obtain ⟨r, hr'⟩ := Int.eq_ofNat_of_zero_le hreg.1
    have hrl : r < rs.length := by omega
    have ho' := hid ho
    have h0' := hid h0
    have I' := hid I
    have hr'' := hid hr'
    clear ho h0 I hr' hreg hlt
    go_enter Try.func20, Try.ntmps20
    go_wp2_with (first
      | (go_at_call 28; refine hck.out.mono ?_; rintro e w' ⟨rfl, rfl⟩)
      | ((with_reducible show wpList _ _ _ ((⟨some 24, _, _, _, _, _⟩ : Oper) :: _) _ _); refine wpList_copy_rd (o := ⟨some 24, _, _, _, _, _⟩) rfl (.tmp 22) (.tmp 23) 27 27 rfl 33 i33 5 Try.underlying27 hi33 hs33 (w.heap.size + 1) 0 rs.length rs.length rs.length k rs.length A rfl rfl (Nat.min_self _) 33 (zs rs.length).toList (rs.flatMap V.cs) (Bk.new_at _ _ _ _ (by simp)) ((Rd.alloc hA'.out _).alloc _) (by rw [zs_len]; omega) hones.out ?_; intro w3 hb3 hg3 hz3; have C3 : Chg (fun k => k = w.heap.size + 1) w w3 := (((Chg.refl _ w).alloc (.cells v.cs.toArray 33)).alloc _).grown hg3 (by simp); have q0 := C3.of_cell h hcl (by omega); have R3 := own_chg hr C3 (by simp [Value.ownBlock]; omega); obtain ⟨q1, q2, q3, q4, q5, q6, q7⟩ := cell_at R3 hi; rw [ho'.out] at q1; rw [hr''.out] at q2; obtain ⟨x0, x1, x2, x3, x4⟩ := V.box (((Bk.new w 33 v.cs).alloc _).grown hg3 (by simp));
         have B3 := hid (copied hb3 (zs_len _) (by omega)); obtain ⟨b, o, e1, _, y0, y1, y2, y3, y4⟩ := Vs.at_ (Rd.of_own B3.out) hrl; simp at e1; obtain ⟨e2, e3⟩ := e1; subst e2; subst e3; simp at y0 y1 y2 y3 y4; have y5 : ∀ j, w3.frozen? ⟨w.heap.size + 1, j, none⟩ = false := fun j => B3.out.frozenAt j))
    (refine wp_region_rc (id := 7) [.rd [0, 1, 2, 3, 4, 5, 6, 7, 8, 9, 10]] [11] [] (fun w' => w' = _) (by kernel_rfl) 53 rfl (by kernel_rfl) (fun _ _ _ _ _ h => h) rfl ?_; refine steps_rd ?_; apply Exists.intro; refine ⟨?_, ?_⟩; (focus (rintro w' rfl; (iterate 11 (refine stI_step rfl (fun K hK => ?_); go_simp; refine hK _ ?_; clear hK K)); exact stI_nil rfl)); refine steps_nil (l := [⟨_, _, _, _, _, _⟩]) rfl (fun K2 hK2 => ?_); go_wp2; refine hK2 _ _ rfl ?_; clear hK2 K2; refine stI_nil ?_)
    go_wp2
    go_ret2
    have fin := set_open (E := 68) (v := v) ho'.out hr''.out hrl (C3.mono (T := fun k => w.heap.size ≤ k) fun k _ e => by omega) h hcl hgl hr B3.out (by omega)
    exact ⟨_, _, rfl, fin.drew⟩
set_option maxRecDepth 100000 in
set_option maxHeartbeats 4000000 in
theorem rf_set_ok (w : World) (c : Nat) (va : Value) (L : List Cl) (i : Nat) (v : V) (A : Option Addr) (rs : List V) (k : Nat) (h : w.cell? ⟨c, 0, none⟩ = some va) (hcl : c < w.heap.size) (hr : w.ownsRow 0 72 7 va L.length (L.flatMap Cl.cs))
    (I : Inv L) (hA : Vs w A rs) (hlen : rs.length ≤ 1000000) (h0 : chk L i rs.length = 0) (hi : i < L.length) (hne : va.ownBlock ≠ some c) :
    Calls Try.prog 24 #[.pointer (some ⟨c, 0, none⟩), .int .i64 i, (.agg #[.int .i64 v.k, .int .i64 v.p, .int .i64 v.q, .string v.s, .int .i64 v.r]), .slice A rs.length k] w fun e w' => ∃ A' cap', e = .returned (.tuple #[.slice A' rs.length cap', .int .i64 0]) ∧
      SetPost w w' c 72 va (setCl L i v) (setRs L i v rs) (.slice A' rs.length cap') := by
  obtain ⟨i33, hi33, hz33, hs33, hb33⟩ := info_parts Try.info33
  obtain ⟨B, cap, rfl, hl, hl', hB, -⟩ := own_form hr
  obtain ⟨g, rfl⟩ := hB (by omega)
  have hgl := own_lt hr (k := g) rfl
  obtain ⟨f0, f1, -⟩ := cell_at hr (i := i) hi
  have hck := hid (rf_check (w.alloc (.cells (V.cs v).toArray 33)) c _ L i A rs.length k (by rw [World.cell?_alloc_lt _ _ _ hcl]; exact h) (hr.alloc _))
  rw [h0] at hck
  have hones := hid (V.ones rs)
  have hA' := hid hA
  clear hB hA
  cases ho : (at_ L i).o
  · rw [ho] at f0
    have ho' := hid ho
    have h0' := hid h0
    have I' := hid I
    clear ho h0 I
    go_enter Try.func24, Try.ntmps24
    go_wp2_with (first
      | (go_at_call 29; refine hck.out.mono ?_; rintro e w' ⟨rfl, rfl⟩)
      | ((with_reducible show wpList _ _ _ ((⟨some 21, _, _, _, _, _⟩ : Oper) :: _) _ _); refine wpList_append_rd (o := ⟨some 21, _, _, _, _, _⟩) rfl (.tmp 19) (.tmp 20) 27 rfl 33 i33 _ 5 48 Try.underlying27 hi33 hz33 hs33 hb33 rfl (by omega) (.slice (some ⟨w.heap.size + 1, 0, none⟩) 0 0) 0 [] rfl (by have := World.ownsRow_made (base := 0) (e := 33) (size := 5) (w.alloc (.cells v.cs.toArray 33)) #[] 0 (Nat.zero_le _) (Nat.zero_le _) rfl; simpa using this) A rs.length k (rs.flatMap V.cs) rfl ((Rd.alloc hA'.out _).alloc _) hones.out (by unfold maxLen; omega) (by omega) (w.heap.size + 2) (by simp) ?_; intro A3 cap3 w3 hown3 hg3 hat3; rw [Nat.zero_add, List.nil_append] at hown3; rw [Nat.zero_add] at hat3; have C3 : Chg (fun k => k = w.heap.size + 1) w w3 := (((Chg.refl _ w).alloc (.cells v.cs.toArray 33)).alloc _).grown hg3 (by simp [Value.ownBlock]); have q0 := C3.of_cell h hcl (by omega); have R3 := own_chg hr C3 (by simp [Value.ownBlock]; omega); obtain ⟨q1, q2, q3, q4, q5, q6, q7⟩ := cell_at R3 hi; rw [ho'.out] at q1; have q8 : ∀ j, w3.frozen? ⟨g, j, none⟩ = false := fun j => R3.frozenAt j; obtain ⟨x0, x1, x2, x3, x4⟩ := V.box (((Bk.new w 33 v.cs).alloc _).grown hg3 (by simp [Value.ownBlock])); have B3 := hid hown3; have B4 := hid (show ∀ k, (Value.slice A3 rs.length cap3).ownBlock = some k → w.heap.size ≤ k from fun k hk => by have := hat3 k hk; simp [Value.ownBlock] at this; omega); clear hown3 hat3))
    (refine wp_region_rc (id := 7) [.rd [0, 1, 2, 3, 4, 5, 6, 7]] [8] [] (fun w' => w' = _) (by kernel_rfl) 50 rfl (by kernel_rfl) (fun _ _ _ _ _ h => h) rfl ?_; refine steps_rd ?_; apply Exists.intro; refine ⟨?_, ?_⟩; (focus (rintro w' rfl; (iterate 8 (refine stI_step rfl (fun K hK => ?_); go_simp; refine hK _ ?_; clear hK K)); exact stI_nil rfl)); refine steps_nil (l := [⟨_, _, _, _, _, _⟩]) rfl (fun K2 hK2 => ?_); go_wp2; refine hK2 _ _ rfl ?_; clear hK2 K2; refine stI_nil ?_)
    go_wp2
    go_ret2
    have hcg : c ≠ g := fun e => hne (by simp [Value.ownBlock, e])
    have fin := set_closed (E := 72) (v := v) ho'.out hi (C3.mono (T := fun k => w.heap.size ≤ k) fun k _ e => by omega) h hcl hgl hcg hr B3.out B4.out
    exact ⟨_, _, rfl, fin.drew⟩
  · rw [ho] at f0
    have hreg := I.lo i hi ho
    have hlt : (at_ L i).reg < rs.length := by
      have h1 := h0
      unfold chk at h1
      rw [if_neg (by omega)] at h1
      split at h1
      · cases h1
      · rename_i h2
        simp [ho] at h2
        exact h2
    obtain ⟨r, hr'⟩ := Int.eq_ofNat_of_zero_le hreg.1
    have hrl : r < rs.length := by omega
    have ho' := hid ho
    have h0' := hid h0
    have I' := hid I
    have hr'' := hid hr'
    clear ho h0 I hr' hreg hlt
    go_enter Try.func24, Try.ntmps24
    go_wp2_with (first
      | (go_at_call 29; refine hck.out.mono ?_; rintro e w' ⟨rfl, rfl⟩)
      | ((with_reducible show wpList _ _ _ ((⟨some 21, _, _, _, _, _⟩ : Oper) :: _) _ _); refine wpList_append_rd (o := ⟨some 21, _, _, _, _, _⟩) rfl (.tmp 19) (.tmp 20) 27 rfl 33 i33 _ 5 48 Try.underlying27 hi33 hz33 hs33 hb33 rfl (by omega) (.slice (some ⟨w.heap.size + 1, 0, none⟩) 0 0) 0 [] rfl (by have := World.ownsRow_made (base := 0) (e := 33) (size := 5) (w.alloc (.cells v.cs.toArray 33)) #[] 0 (Nat.zero_le _) (Nat.zero_le _) rfl; simpa using this) A rs.length k (rs.flatMap V.cs) rfl ((Rd.alloc hA'.out _).alloc _) hones.out (by unfold maxLen; omega) (by omega) (w.heap.size + 2) (by simp) ?_; intro A3 cap3 w3 hown3 hg3 hat3; rw [Nat.zero_add, List.nil_append] at hown3; rw [Nat.zero_add] at hat3; have C3 : Chg (fun k => k = w.heap.size + 1) w w3 := (((Chg.refl _ w).alloc (.cells v.cs.toArray 33)).alloc _).grown hg3 (by simp [Value.ownBlock]); have q0 := C3.of_cell h hcl (by omega); have R3 := own_chg hr C3 (by simp [Value.ownBlock]; omega); obtain ⟨q1, q2, q3, q4, q5, q6, q7⟩ := cell_at R3 hi; rw [ho'.out] at q1; rw [hr''.out] at q2; have q8 : ∀ j, w3.frozen? ⟨g, j, none⟩ = false := fun j => R3.frozenAt j; obtain ⟨x0, x1, x2, x3, x4⟩ := V.box (((Bk.new w 33 v.cs).alloc _).grown hg3 (by simp [Value.ownBlock])); have B3 := hid hown3; have B4 := hid (show ∀ k, (Value.slice A3 rs.length cap3).ownBlock = some k → w.heap.size ≤ k from fun k hk => by have := hat3 k hk; simp [Value.ownBlock] at this; omega); clear hown3 hat3; obtain ⟨A4, cap4, e4, _, _, e5, e6⟩ := own_form B3.out; injection e4 with e4 _ e8; subst e4; subst e8; obtain ⟨m, e7⟩ := e5 (by omega); subst e7; have B5 := hid (B4.out m rfl); have B6 := Vs.at_ (Rd.of_own B3.out) hrl; obtain ⟨b, o, e1, _, y0, y1, y2, y3, y4⟩ := B6; simp at e1; obtain ⟨e2, e3⟩ := e1; subst e2; subst e3; simp at y0 y1 y2 y3 y4; have y5 : ∀ j, w3.frozen? ⟨m, j, none⟩ = false := fun j => B3.out.frozenAt j; clear e5 e6))
    (refine wp_region_rc (id := 6) [.rd [0, 1, 2, 3, 4, 5, 6, 7, 8, 9, 10]] [11] [] (fun w' => w' = _) (by kernel_rfl) 50 rfl (by kernel_rfl) (fun _ _ _ _ _ h => h) rfl ?_; refine steps_rd ?_; apply Exists.intro; refine ⟨?_, ?_⟩; (focus (rintro w' rfl; (iterate 11 (refine stI_step rfl (fun K hK => ?_); go_simp; refine hK _ ?_; clear hK K)); exact stI_nil rfl)); refine steps_nil (l := [⟨_, _, _, _, _, _⟩]) rfl (fun K2 hK2 => ?_); go_wp2; refine hK2 _ _ rfl ?_; clear hK2 K2; refine stI_nil ?_)
    go_wp2
    go_ret2
    have fin := set_open (E := 72) (v := v) ho'.out hr''.out hrl (C3.mono (T := fun k => w.heap.size ≤ k) fun k _ e => by omega) h hcl hgl hr B3.out B5.out
    exact ⟨_, _, rfl, fin.drew⟩
end Go.Proofs.Ytjlefkohokcohaa
