/-
  OrderedNil: the walk.
-/
import Derived.Test.YtabodabfiklbnaaLives
namespace Go.Proofs.Ytabodabfiklbnaa
open Go.RowKit Go.Maps

theorem own_next_nil (w : World) (k : V) : Calls Try.prog 18 #[.pointer none, (.agg #[.int .i64 k.k, .int .i64 k.p, .int .i64 k.q, .string k.s, .int .i64 k.r])] w fun e w' => e = .returned (.tuple #[(.agg #[.int .i64 V.zero.k, .int .i64 V.zero.p, .int .i64 V.zero.q, .string V.zero.s, .int .i64 V.zero.r]), (.agg #[.int .i64 V.zero.k, .int .i64 V.zero.p, .int .i64 V.zero.q, .string V.zero.s, .int .i64 V.zero.r]), .bool false, .int .i64 1]) ∧ Chg (fun _ => False) w w' := by
  go_enter Try.func18, Try.ntmps18
  go_wp2
  exact bodyPost_ret (v := .tuple #[(.agg #[.int .i64 V.zero.k, .int .i64 V.zero.p, .int .i64 V.zero.q, .string V.zero.s, .int .i64 V.zero.r]), (.agg #[.int .i64 V.zero.k, .int .i64 V.zero.p, .int .i64 V.zero.q, .string V.zero.s, .int .i64 V.zero.r]), .bool false, .int .i64 1]) (by simp [results, Try.results18, go_sem, V.zero]) rfl ⟨rfl, (((Chg.refl _ w).alloc _).alloc _).alloc _⟩
theorem own_len_nil (w : World) : Calls Try.prog 13 #[.pointer none] w fun e w' => e = .returned (.int .i64 0) ∧ w = w' := by
  go_enter Try.func13, Try.ntmps13
  go_wp2
  go_ret
  exact ⟨rfl, rfl⟩
theorem own_slots_nil (w : World) : Calls Try.prog 12 #[.pointer none] w fun e w' => e = .returned (.int .i64 0) ∧ w = w' := by
  go_enter Try.func12, Try.ntmps12
  go_wp2
  go_ret
  exact ⟨rfl, rfl⟩
set_option maxRecDepth 100000 in
set_option maxHeartbeats 8000000 in
theorem nil_true (w : World) (k v : V) : Calls Try.prog 8 #[(.agg #[.int .i64 k.k, .int .i64 k.p, .int .i64 k.q, .string k.s, .int .i64 k.r]), (.agg #[.int .i64 v.k, .int .i64 v.p, .int .i64 v.q, .string v.s, .int .i64 v.r])] w fun e w' => e = .returned (.bool true) ∧ Below w.heap.size w w' := by
  go_enter Try.func8, Try.ntmps8
  have hB2 := hid (Bk.new (w.alloc (.cells k.cs.toArray 28)) 28 v.cs)
  have hB1 := hid ((Bk.new w 28 k.cs).alloc (.cells v.cs.toArray 28))
  have hC0 := hid (((Chg.refl (fun _ => False) w).alloc (.cells k.cs.toArray 28)).alloc (.cells v.cs.toArray 28))
  rw [alloc_sz] at hB2
  go_wp2_with fail
  refine (own_next_nil _ k).mono ?_
  rintro e w1 ⟨rfl, hc⟩
  have hB3 := hid ((hB1.out.none_ hc).alloc (.cells V.zero.cs.toArray 28))
  have hB4 := hid ((hB2.out.none_ hc).alloc (.cells V.zero.cs.toArray 28))
  have hB3 := hid (hB3.out.alloc (.cells V.zero.cs.toArray 28))
  have hB4 := hid (hB4.out.alloc (.cells V.zero.cs.toArray 28))
  have hC1 := hid (((hC0.out.trans_same hc).alloc (.cells V.zero.cs.toArray 28)).alloc (.cells V.zero.cs.toArray 28))
  obtain ⟨y0, y1, y2, y3, y4⟩ := V.box (hB1.out.none_ hc)
  have hlt := (hB1.out.none_ hc).lt
  simp only [V.zero]
  clear hc hB1 hB2 hC0
  go_wp2_with fail
  refine (own_get_nil _ k).mono ?_
  rintro e w2 ⟨rfl, hc⟩
  have hB5 := hid (hB3.out.none_ hc)
  have hB6 := hid (hB4.out.none_ hc)
  have hC2 := hid (hC1.out.trans_same hc)
  obtain ⟨z0, z1, z2, z3, z4⟩ := V.box hB5.out
  obtain ⟨u0, u1, u2, u3, u4⟩ := V.box hB6.out
  simp only [V.zero]
  clear hc hB3 hB4 hC1 y0 y1 y2 y3 y4 hlt
  go_wp2_with fail
  refine (own_set_nil _ k v).mono ?_
  rintro e w3 ⟨rfl, hc⟩
  have hC3 := hid (hC2.out.trans_same hc)
  clear hc hB5 hB6 hC2 z0 z1 z2 z3 z4 u0 u1 u2 u3 u4
  go_wp2_with fail
  refine (own_len_nil _).mono ?_
  rintro e w4 ⟨rfl, hw⟩
  subst hw
  go_wp2_with fail
  refine (own_slots_nil _).mono ?_
  rintro e w4 ⟨rfl, hw⟩
  subst hw
  go_wp2_with fail
  refine (own_keys_nil _).mono ?_
  rintro e w4 ⟨rfl, hw⟩
  subst hw
  go_wp2_with fail
  refine (lives_true _).mono ?_
  rintro e w4 ⟨rfl, hc⟩
  have fin := hid (none_below (hC3.out.trans_same hc))
  clear hc hC3
  go_wp2
  go_ret
  exact ⟨rfl, fin.out⟩
end Go.Proofs.Ytabodabfiklbnaa
