/-
  The chapter's examples.
-/
import Derived.Test.YtkkocoalildgnaaAll
namespace Go.Proofs.Ytkkocoalildgnaa
open Go.RowKit

theorem aw_four : chkA ⟨1, 0, V.zero, [], ⟨#[]⟩, 0, 1, []⟩ = 4 := by decide +kernel
theorem aw_ok : chkA ⟨3, 0, ⟨2, 1, 1, ⟨#[]⟩, 0⟩, [⟨2, 2, 1, ⟨#[]⟩, 0⟩], ⟨#[]⟩, 0, 1, [⟨2, 3, 1, ⟨#[]⟩, 0⟩]⟩ = 0 := by decide +kernel
theorem aw_cut : cut ⟨#[110, 111]⟩ = ⟨#[110, 111]⟩ := by decide +kernel
set_option maxRecDepth 100000 in
set_option maxHeartbeats 4000000 in
theorem awake_true (w : World) : Calls Try.prog 10 #[] w fun e w' => e = .returned (.bool true) ∧ Chg (fun _ => False) w w' := by
  go_enter Try.func10, Try.ntmps10
  go_wp2_with fail
  refine (own_error _ ⟨#[110, 111]⟩ (by decide +kernel)).mono ?_
  rintro e w1 ⟨A1, c1, A2, c2, rfl, hO1', hO2', hC1'⟩
  rw [aw_cut] at hO1'
  have hV1 := hid hO1'.vs
  have hC1 := hid hC1'
  clear hO1' hO2' hC1'
  go_wp2_with fail
  refine (num_any _ 1).mono ?_
  rintro e w2 ⟨rfl, hc2⟩
  have hB2 := hid ((Bk.new w1 28 (Ac.cs 2 0 V.zero (.slice A1 1 c1) ⟨#[]⟩ 1 0 (.slice A2 0 c2))).none_ hc2)
  have hV2 := hid (Rd.none_ (Rd.alloc hV1.out _) hc2)
  have hC2 := hid ((hC1.out.alloc _).trans_same hc2)
  clear hc2
  go_wp2_with fail
  refine (num_any _ 2).mono ?_
  rintro e w3 ⟨rfl, hc3⟩
  have hB3 := hid (hB2.out.none_ hc3)
  have hV3 := hid (Rd.none_ hV2.out hc3)
  have hC3 := hid (hC2.out.trans_same hc3)
  have hx3 := hid (vs_one w3 ⟨2, 2, 1, ⟨#[]⟩, 0⟩ _ rfl)
  clear hc3
  go_wp2_with fail
  refine (num_any _ 3).mono ?_
  rintro e w4 ⟨rfl, hc4⟩
  have hB4 := hid ((hB3.out.alloc _).none_ hc4)
  have hV4 := hid (Rd.none_ (Rd.alloc hV3.out _) hc4)
  have hC4 := hid ((hC3.out.alloc _).trans_same hc4)
  have hx4 := hid (Rd.alloc (Rd.none_ hx3.out hc4) (.cells (V.cs ⟨2, 3, 1, ⟨#[]⟩, 0⟩).toArray 25))
  have hy4 := hid (vs_one w4 ⟨2, 3, 1, ⟨#[]⟩, 0⟩ _ rfl)
  clear hc4
  go_wp2_with fail
  refine (own_call _ ⟨2, 1, 1, ⟨#[]⟩, 0⟩ (some ⟨w3.heap.size, 0, none⟩) [⟨2, 2, 1, ⟨#[]⟩, 0⟩] 1 1 (some ⟨w4.heap.size, 0, none⟩) [⟨2, 3, 1, ⟨#[]⟩, 0⟩] 1 hx4.out (by simp) hy4.out (by simp)).mono ?_
  rintro e w6 ⟨A3, c3, A4, c4, rfl, hO3', hO4', hC6'⟩
  have hB6 := hid ((hB4.out.alloc _).none_ hC6')
  have hV6 := hid (Rd.none_ (Rd.alloc hV4.out _) hC6')
  have hC6 := hid ((hC4.out.alloc _).trans_same hC6')
  have hO3 := hid hO3'.vs
  have hO4 := hid hO4'.vs
  clear hO3' hO4' hC6'
  go_wp2_with fail
  obtain ⟨g, og, rfl, hg, s0, s1, s2, s3, s4⟩ := Vs.at_ (rs := [⟨3, 0, 0, ⟨#[110, 111]⟩, 0⟩]) hV6.out (i := 0) (by simp)
  have hg7 : Hid ((w6.alloc (.cells (Ac.cs 3 0 ⟨2, 1, 1, ⟨#[]⟩, 0⟩ (.slice A3 1 c3) ⟨#[]⟩ 0 1 (.slice A4 1 c4)).toArray 28)).drew.cell? ⟨g, og + 3, none⟩ = some (.string ⟨#[110, 111]⟩)) := hid (by
    have h := Chg.of_cell (S := fun _ => False) (((Chg.refl (fun _ => False) w6).alloc (.cells (Ac.cs 3 0 ⟨2, 1, 1, ⟨#[]⟩, 0⟩ (.slice A3 1 c3) ⟨#[]⟩ 0 1 (.slice A4 1 c4)).toArray 28)).drew) s3 hg (fun h => h)
    simpa [vAt] using h)
  have hB7 := hid ((hB6.out.alloc (.cells (Ac.cs 3 0 ⟨2, 1, 1, ⟨#[]⟩, 0⟩ (.slice A3 1 c3) ⟨#[]⟩ 0 1 (.slice A4 1 c4)).toArray 28)).drew)
  have hD7 := hid ((Bk.new w6 28 (Ac.cs 3 0 ⟨2, 1, 1, ⟨#[]⟩, 0⟩ (.slice A3 1 c3) ⟨#[]⟩ 0 1 (.slice A4 1 c4))).drew)
  clear s0 s1 s2 s3 s4
  refine wp_region_rc (id := 3) [.rd [0, 1, 2, 3, 4, 5, 6, 7, 8, 9, 10, 11, 12, 13, 14, 15, 16, 17, 18, 19, 20, 21, 22, 23, 24, 25, 26, 27, 28, 29], .act 30, .rd [31, 32, 33, 34, 35, 36, 37, 38, 39, 40, 41, 42, 43, 44, 45]] [46, 47, 48, 49, 50, 51, 52, 53, 54] [] (fun w' => Bk w' w1.heap.size 28 (Ac.cs 2 0 V.zero (.slice (some ⟨g, og, none⟩) 1 c1) ⟨#[]⟩ 1 0 (.slice A2 0 c2)) ∧ Bk w' w6.heap.size 28 (Ac.cs 3 0 ⟨2, 1, 1, ⟨#[]⟩, 0⟩ (.slice A3 1 c3) ⟨#[]⟩ 0 1 (.slice A4 1 c4)) ∧ w'.cell? ⟨g, og + 3, none⟩ = some (.string ⟨#[110, 111]⟩) ∧ g < w'.heap.size) (by kernel_rfl) 64 rfl (by kernel_rfl) (fun _ _ _ _ _ h => h) ⟨hB7.out, hD7.out, hg7.out, by simp; omega⟩ ?_
  refine steps_rdW ?_
  apply Exists.intro
  refine ⟨?_, ?_⟩
  focus
    rintro w' ⟨b1, b2, hs, hgl⟩
    obtain ⟨px0, px1, px2, px3, px4, px5, px6, px7, px8, px9, px10, px11, plt⟩ := ac_box b1
    obtain ⟨qx0, qx1, qx2, qx3, qx4, qx5, qx6, qx7, qx8, qx9, qx10, qx11, qlt⟩ := ac_box b2
    simp only [V.zero] at px2 px3 px4 px5 px6
    clear b1 b2
    iterate 30 (refine stW_step rfl (fun K hK => ?_); go_simp; refine hK _ ?_; clear hK K)
    exact stW_nil rfl
  refine steps_act (o := ⟨_, _, _, _, _, _⟩) rfl (fun K2 hK2 => ?_)
  go_wp2_with (go_at_call 31; refine (num_any _ 1).mono ?_; rintro e w8 ⟨rfl, hc8⟩; have hB8 := hid (hB7.out.none_ hc8); have hD8 := hid (hD7.out.none_ hc8); have hg8 := hid (Chg.of_cell hc8 hg7.out (show g < _ by simp; omega) (fun h => h)); have hgl8 := hid (Nat.lt_of_lt_of_le (show g < (w6.alloc (.cells (Ac.cs 3 0 ⟨2, 1, 1, ⟨#[]⟩, 0⟩ (.slice A3 1 c3) ⟨#[]⟩ 0 1 (.slice A4 1 c4)).toArray 28)).drew.heap.size by simp; omega) hc8.size); have hO38 := hid (Rd.none_ (Rd.none_ hO3.out (((Chg.refl (fun _ => False) w6).alloc _).drew)) hc8); have hO48 := hid (Rd.none_ (Rd.none_ hO4.out (((Chg.refl (fun _ => False) w6).alloc _).drew)) hc8); have hC8 := hid (((hC6.out.alloc _).drew).trans_same hc8); clear hc8)
  refine hK2 _ _ ⟨hB8.out, hD8.out, hg8.out, hgl8.out⟩ rfl ?_
  clear hK2 K2
  refine steps_rdW ?_
  apply Exists.intro
  refine ⟨?_, ?_⟩
  focus
    rintro w' ⟨b1, b2, hs, hgl⟩
    obtain ⟨px0, px1, px2, px3, px4, px5, px6, px7, px8, px9, px10, px11, plt⟩ := ac_box b1
    obtain ⟨qx0, qx1, qx2, qx3, qx4, qx5, qx6, qx7, qx8, qx9, qx10, qx11, qlt⟩ := ac_box b2
    clear b1 b2
    iterate 15 (refine stW_step rfl (fun K hK => ?_); go_simp; refine hK _ ?_; clear hK K)
    exact stW_nil rfl
  refine steps_nil (l := [⟨_, _, _, _, _, _⟩, ⟨_, _, _, _, _, _⟩, ⟨_, _, _, _, _, _⟩, ⟨_, _, _, _, _, _⟩, ⟨_, _, _, _, _, _⟩, ⟨_, _, _, _, _, _⟩, ⟨_, _, _, _, _, _⟩, ⟨_, _, _, _, _, _⟩, ⟨_, _, _, _, _, _⟩]) rfl (fun K2 hK2 => ?_)
  have tok1 : True := trivial
  go_wp2_with (first
    | (go_at_call 11; have _t := tok1; refine (own_check (a := ⟨1, 0, V.zero, [], ⟨#[]⟩, 0, 1, []⟩) (c := 0) (c2 := 0) aw_four (vs_nil _ none) (vs_nil _ none) (Nat.zero_le _) (Nat.zero_le _)).mono ?_; rintro e w9 ⟨rfl, hc9⟩; obtain ⟨qx0, qx1, qx2, qx3, qx4, qx5, qx6, qx7, qx8, qx9, qx10, qx11, qlt⟩ := ac_box (hD8.out.none_ hc9); have hO39 := hid (Rd.none_ hO38.out hc9); have hO49 := hid (Rd.none_ hO48.out hc9); have hC9 := hid (hC8.out.trans_same hc9); clear hc9 tok1)
    | (go_at_call 11; refine (own_check (a := ⟨3, 0, ⟨2, 1, 1, ⟨#[]⟩, 0⟩, [⟨2, 2, 1, ⟨#[]⟩, 0⟩], ⟨#[]⟩, 0, 1, [⟨2, 3, 1, ⟨#[]⟩, 0⟩]⟩) aw_ok hO39.out hO49.out (by simp) (by simp)).mono ?_; rintro e w10 ⟨rfl, hc10⟩; have hC10 := hid (hC9.out.trans_same hc10); clear hc10))
  refine hK2 _ _ rfl ?_
  clear hK2 K2
  refine stI_nil ?_
  go_wp2
  go_ret
  exact ⟨rfl, hC10.out⟩
end Go.Proofs.Ytkkocoalildgnaa
