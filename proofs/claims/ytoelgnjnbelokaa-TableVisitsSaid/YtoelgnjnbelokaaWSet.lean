/-
  Set of the program where the key is there; and where it is refused.
-/
import Derived.Test.YtoelgnjnbelokaaWDrop
namespace Go.Proofs.Ytoelgnjnbelokaa
open Go.RowKit Go.Maps

theorem setS11 (L : List Sl) (i : Nat) (x : Sl) (hi : i < L.length) : (((((((((((L.flatMap Sl.cs).set (i * 11) (.int .i64 x.k.k)).set (i * 11 + 1) (.int .i64 x.k.p)).set (i * 11 + 2) (.int .i64 x.k.q)).set (i * 11 + 3) (.string x.k.s)).set (i * 11 + 4) (.int .i64 x.k.r)).set (i * 11 + 5) (.int .i64 x.v.k)).set (i * 11 + 6) (.int .i64 x.v.p)).set (i * 11 + 7) (.int .i64 x.v.q)).set (i * 11 + 8) (.string x.v.s)).set (i * 11 + 9) (.int .i64 x.v.r)).set (i * 11 + 10) (.bool x.g) = (L.set i x).flatMap Sl.cs := by
  have g : ∀ c : Sl, (L.set i c)[i]? = some c := fun c => List.getElem?_set_self hi
  have h0 := set_cell Sl.cs 11 Sl.cs_len L i 0 (by omega) (slAt L i) (⟨⟨x.k.k, (slAt L i).k.p, (slAt L i).k.q, (slAt L i).k.s, (slAt L i).k.r⟩, ⟨(slAt L i).v.k, (slAt L i).v.p, (slAt L i).v.q, (slAt L i).v.s, (slAt L i).v.r⟩, (slAt L i).g⟩ : Sl) (.int .i64 x.k.k) (slAt_get _ _ hi) rfl
  rw [Nat.add_zero] at h0
  rw [h0,
    set_cell Sl.cs 11 Sl.cs_len _ i 1 (by omega) (⟨⟨x.k.k, (slAt L i).k.p, (slAt L i).k.q, (slAt L i).k.s, (slAt L i).k.r⟩, ⟨(slAt L i).v.k, (slAt L i).v.p, (slAt L i).v.q, (slAt L i).v.s, (slAt L i).v.r⟩, (slAt L i).g⟩ : Sl) (⟨⟨x.k.k, x.k.p, (slAt L i).k.q, (slAt L i).k.s, (slAt L i).k.r⟩, ⟨(slAt L i).v.k, (slAt L i).v.p, (slAt L i).v.q, (slAt L i).v.s, (slAt L i).v.r⟩, (slAt L i).g⟩ : Sl) (.int .i64 x.k.p) (g _) rfl,
    List.set_set,
    set_cell Sl.cs 11 Sl.cs_len _ i 2 (by omega) (⟨⟨x.k.k, x.k.p, (slAt L i).k.q, (slAt L i).k.s, (slAt L i).k.r⟩, ⟨(slAt L i).v.k, (slAt L i).v.p, (slAt L i).v.q, (slAt L i).v.s, (slAt L i).v.r⟩, (slAt L i).g⟩ : Sl) (⟨⟨x.k.k, x.k.p, x.k.q, (slAt L i).k.s, (slAt L i).k.r⟩, ⟨(slAt L i).v.k, (slAt L i).v.p, (slAt L i).v.q, (slAt L i).v.s, (slAt L i).v.r⟩, (slAt L i).g⟩ : Sl) (.int .i64 x.k.q) (g _) rfl,
    List.set_set,
    set_cell Sl.cs 11 Sl.cs_len _ i 3 (by omega) (⟨⟨x.k.k, x.k.p, x.k.q, (slAt L i).k.s, (slAt L i).k.r⟩, ⟨(slAt L i).v.k, (slAt L i).v.p, (slAt L i).v.q, (slAt L i).v.s, (slAt L i).v.r⟩, (slAt L i).g⟩ : Sl) (⟨⟨x.k.k, x.k.p, x.k.q, x.k.s, (slAt L i).k.r⟩, ⟨(slAt L i).v.k, (slAt L i).v.p, (slAt L i).v.q, (slAt L i).v.s, (slAt L i).v.r⟩, (slAt L i).g⟩ : Sl) (.string x.k.s) (g _) rfl,
    List.set_set,
    set_cell Sl.cs 11 Sl.cs_len _ i 4 (by omega) (⟨⟨x.k.k, x.k.p, x.k.q, x.k.s, (slAt L i).k.r⟩, ⟨(slAt L i).v.k, (slAt L i).v.p, (slAt L i).v.q, (slAt L i).v.s, (slAt L i).v.r⟩, (slAt L i).g⟩ : Sl) (⟨⟨x.k.k, x.k.p, x.k.q, x.k.s, x.k.r⟩, ⟨(slAt L i).v.k, (slAt L i).v.p, (slAt L i).v.q, (slAt L i).v.s, (slAt L i).v.r⟩, (slAt L i).g⟩ : Sl) (.int .i64 x.k.r) (g _) rfl,
    List.set_set,
    set_cell Sl.cs 11 Sl.cs_len _ i 5 (by omega) (⟨⟨x.k.k, x.k.p, x.k.q, x.k.s, x.k.r⟩, ⟨(slAt L i).v.k, (slAt L i).v.p, (slAt L i).v.q, (slAt L i).v.s, (slAt L i).v.r⟩, (slAt L i).g⟩ : Sl) (⟨⟨x.k.k, x.k.p, x.k.q, x.k.s, x.k.r⟩, ⟨x.v.k, (slAt L i).v.p, (slAt L i).v.q, (slAt L i).v.s, (slAt L i).v.r⟩, (slAt L i).g⟩ : Sl) (.int .i64 x.v.k) (g _) rfl,
    List.set_set,
    set_cell Sl.cs 11 Sl.cs_len _ i 6 (by omega) (⟨⟨x.k.k, x.k.p, x.k.q, x.k.s, x.k.r⟩, ⟨x.v.k, (slAt L i).v.p, (slAt L i).v.q, (slAt L i).v.s, (slAt L i).v.r⟩, (slAt L i).g⟩ : Sl) (⟨⟨x.k.k, x.k.p, x.k.q, x.k.s, x.k.r⟩, ⟨x.v.k, x.v.p, (slAt L i).v.q, (slAt L i).v.s, (slAt L i).v.r⟩, (slAt L i).g⟩ : Sl) (.int .i64 x.v.p) (g _) rfl,
    List.set_set,
    set_cell Sl.cs 11 Sl.cs_len _ i 7 (by omega) (⟨⟨x.k.k, x.k.p, x.k.q, x.k.s, x.k.r⟩, ⟨x.v.k, x.v.p, (slAt L i).v.q, (slAt L i).v.s, (slAt L i).v.r⟩, (slAt L i).g⟩ : Sl) (⟨⟨x.k.k, x.k.p, x.k.q, x.k.s, x.k.r⟩, ⟨x.v.k, x.v.p, x.v.q, (slAt L i).v.s, (slAt L i).v.r⟩, (slAt L i).g⟩ : Sl) (.int .i64 x.v.q) (g _) rfl,
    List.set_set,
    set_cell Sl.cs 11 Sl.cs_len _ i 8 (by omega) (⟨⟨x.k.k, x.k.p, x.k.q, x.k.s, x.k.r⟩, ⟨x.v.k, x.v.p, x.v.q, (slAt L i).v.s, (slAt L i).v.r⟩, (slAt L i).g⟩ : Sl) (⟨⟨x.k.k, x.k.p, x.k.q, x.k.s, x.k.r⟩, ⟨x.v.k, x.v.p, x.v.q, x.v.s, (slAt L i).v.r⟩, (slAt L i).g⟩ : Sl) (.string x.v.s) (g _) rfl,
    List.set_set,
    set_cell Sl.cs 11 Sl.cs_len _ i 9 (by omega) (⟨⟨x.k.k, x.k.p, x.k.q, x.k.s, x.k.r⟩, ⟨x.v.k, x.v.p, x.v.q, x.v.s, (slAt L i).v.r⟩, (slAt L i).g⟩ : Sl) (⟨⟨x.k.k, x.k.p, x.k.q, x.k.s, x.k.r⟩, ⟨x.v.k, x.v.p, x.v.q, x.v.s, x.v.r⟩, (slAt L i).g⟩ : Sl) (.int .i64 x.v.r) (g _) rfl,
    List.set_set,
    set_cell Sl.cs 11 Sl.cs_len _ i 10 (by omega) (⟨⟨x.k.k, x.k.p, x.k.q, x.k.s, x.k.r⟩, ⟨x.v.k, x.v.p, x.v.q, x.v.s, x.v.r⟩, (slAt L i).g⟩ : Sl) x (.bool x.g) (g _) rfl,
    List.set_set]
theorem setSV (L : List Sl) (i : Nat) (v : V) (hi : i < L.length) : (((((L.flatMap Sl.cs).set (i * 11 + 5) (.int .i64 v.k)).set (i * 11 + 6) (.int .i64 v.p)).set (i * 11 + 7) (.int .i64 v.q)).set (i * 11 + 8) (.string v.s)).set (i * 11 + 9) (.int .i64 v.r) = (L.set i ⟨(slAt L i).k, v, (slAt L i).g⟩).flatMap Sl.cs := by
  have g : ∀ c : Sl, (L.set i c)[i]? = some c := fun c => List.getElem?_set_self hi
  have h0 := set_cell Sl.cs 11 Sl.cs_len L i 5 (by omega) (slAt L i) (⟨⟨(slAt L i).k.k, (slAt L i).k.p, (slAt L i).k.q, (slAt L i).k.s, (slAt L i).k.r⟩, ⟨v.k, (slAt L i).v.p, (slAt L i).v.q, (slAt L i).v.s, (slAt L i).v.r⟩, (slAt L i).g⟩ : Sl) (.int .i64 v.k) (slAt_get _ _ hi) rfl
  rw [h0,
    set_cell Sl.cs 11 Sl.cs_len _ i 6 (by omega) (⟨⟨(slAt L i).k.k, (slAt L i).k.p, (slAt L i).k.q, (slAt L i).k.s, (slAt L i).k.r⟩, ⟨v.k, (slAt L i).v.p, (slAt L i).v.q, (slAt L i).v.s, (slAt L i).v.r⟩, (slAt L i).g⟩ : Sl) (⟨⟨(slAt L i).k.k, (slAt L i).k.p, (slAt L i).k.q, (slAt L i).k.s, (slAt L i).k.r⟩, ⟨v.k, v.p, (slAt L i).v.q, (slAt L i).v.s, (slAt L i).v.r⟩, (slAt L i).g⟩ : Sl) (.int .i64 v.p) (g _) rfl,
    List.set_set,
    set_cell Sl.cs 11 Sl.cs_len _ i 7 (by omega) (⟨⟨(slAt L i).k.k, (slAt L i).k.p, (slAt L i).k.q, (slAt L i).k.s, (slAt L i).k.r⟩, ⟨v.k, v.p, (slAt L i).v.q, (slAt L i).v.s, (slAt L i).v.r⟩, (slAt L i).g⟩ : Sl) (⟨⟨(slAt L i).k.k, (slAt L i).k.p, (slAt L i).k.q, (slAt L i).k.s, (slAt L i).k.r⟩, ⟨v.k, v.p, v.q, (slAt L i).v.s, (slAt L i).v.r⟩, (slAt L i).g⟩ : Sl) (.int .i64 v.q) (g _) rfl,
    List.set_set,
    set_cell Sl.cs 11 Sl.cs_len _ i 8 (by omega) (⟨⟨(slAt L i).k.k, (slAt L i).k.p, (slAt L i).k.q, (slAt L i).k.s, (slAt L i).k.r⟩, ⟨v.k, v.p, v.q, (slAt L i).v.s, (slAt L i).v.r⟩, (slAt L i).g⟩ : Sl) (⟨⟨(slAt L i).k.k, (slAt L i).k.p, (slAt L i).k.q, (slAt L i).k.s, (slAt L i).k.r⟩, ⟨v.k, v.p, v.q, v.s, (slAt L i).v.r⟩, (slAt L i).g⟩ : Sl) (.string v.s) (g _) rfl,
    List.set_set,
    set_cell Sl.cs 11 Sl.cs_len _ i 9 (by omega) (⟨⟨(slAt L i).k.k, (slAt L i).k.p, (slAt L i).k.q, (slAt L i).k.s, (slAt L i).k.r⟩, ⟨v.k, v.p, v.q, v.s, (slAt L i).v.r⟩, (slAt L i).g⟩ : Sl) ⟨(slAt L i).k, v, (slAt L i).g⟩ (.int .i64 v.r) (g _) rfl,
    List.set_set]

/-- A slot stored. -/
def putS (w : World) (g j : Nat) (x : Sl) : World := (put5 (put5 w g j x.k) g (j + 5) x.v).setCell ⟨g, j + 10, none⟩ (.bool x.g)
theorem putS_chg (w : World) (g j : Nat) (x : Sl) : Chg (fun k => k = g) w (putS w g j x) := ((put5_chg w g j x.k).trans_same (put5_chg _ g (j + 5) x.v)).setCell (p := ⟨g, j + 10, none⟩) (fun _ => rfl) _
set_option maxRecDepth 100000 in
theorem own_putS {w : World} {g n cap : Nat} {L : List Sl} {t : TypeId} (h : w.ownsRow 0 t 11 (.slice (some ⟨g, 0, none⟩) n cap) n (L.flatMap Sl.cs)) {i : Nat} (hi : i < L.length) (x : Sl) :
    (putS w g (i * 11) x).ownsRow 0 t 11 (.slice (some ⟨g, 0, none⟩) n cap) n ((L.set i x).flatMap Sl.cs) := by
  have h2 := own_set (own_put5 (own_put5 h (i * 11) x.k) (i * 11 + 5) x.v) (i * 11 + 10) (.bool x.g)
  simp only [list5, Nat.add_assoc, Nat.reduceAdd] at h2
  rw [← setS11 L i x hi]
  unfold putS
  simpa only [Nat.add_assoc, Nat.reduceAdd] using h2
set_option maxRecDepth 100000 in
theorem own_putV {w : World} {g n cap : Nat} {L : List Sl} {t : TypeId} (h : w.ownsRow 0 t 11 (.slice (some ⟨g, 0, none⟩) n cap) n (L.flatMap Sl.cs)) {i : Nat} (hi : i < L.length) (v : V) :
    (put5 w g (i * 11 + 5) v).ownsRow 0 t 11 (.slice (some ⟨g, 0, none⟩) n cap) n ((L.set i ⟨(slAt L i).k, v, (slAt L i).g⟩).flatMap Sl.cs) := by
  have h2 := own_put5 h (i * 11 + 5) v
  simp only [list5, Nat.add_assoc, Nat.reduceAdd] at h2
  rw [← setSV L i v hi]
  exact h2
theorem nOf_set_gone {L : List Sl} {i : Nat} (hi : i < L.length) (hg : (slAt L i).g = false) {x : Sl} (hx : x.g = true) : nOf L = nOf (L.set i x) + 1 := by
  have h1 : L = L.take i ++ [slAt L i] ++ L.drop (i + 1) := by rw [← take_succ_sl L i hi, List.take_append_drop]
  have h2 : L.set i x = L.take i ++ [x] ++ L.drop (i + 1) := by
    rw [List.set_eq_take_append_cons_drop, if_pos hi, List.append_assoc]; rfl
  rw [h2]
  conv => lhs; rw [h1]
  unfold nOf
  rw [liveL_app, liveL_app, liveL_app, liveL_app]
  simp [liveL, hg, hx]
  omega
theorem nOf_set_live {L : List Sl} {i : Nat} (hi : i < L.length) (hg : (slAt L i).g = false) {x : Sl} (hx : x.g = false) : nOf (L.set i x) = nOf L := by
  have h1 : L = L.take i ++ [slAt L i] ++ L.drop (i + 1) := by rw [← take_succ_sl L i hi, List.take_append_drop]
  have h2 : L.set i x = L.take i ++ [x] ++ L.drop (i + 1) := by
    rw [List.set_eq_take_append_cons_drop, if_pos hi, List.append_assoc]; rfl
  rw [h2]
  conv => rhs; rw [h1]
  unfold nOf
  rw [liveL_app, liveL_app, liveL_app, liveL_app]
  simp [liveL, hg, hx]
section
variable {w w' : World} {c bm n : Nat} {vs : Value} {D : DataW Unit} {L : List Sl}
theorem OwnPost.same (h : OwnM w c vs bm n D L) (hc : Chg (fun _ => False) w w') {m : Nat} (hm : n ≤ m) : OwnPost w w' c vs bm m L :=
  ⟨vs, n, D, h.none_ hc, hm, hc.mono fun _ _ h => h.elim, fun _ h => .inl h⟩
theorem val_valid_eq {w : World} {v : V} {b : Bool} (hb : vok v = b) : Calls Try.prog 29 #[(.agg #[.int .i64 v.k, .int .i64 v.p, .int .i64 v.q, .string v.s, .int .i64 v.r])] w fun e w' => e = .returned (.bool b) ∧ Chg (fun _ => False) w w' := by subst hb; exact val_valid w v
set_option maxRecDepth 100000 in
theorem own_set_nil (w : World) (k v : V) : Calls Try.prog 32 #[.pointer none, (.agg #[.int .i64 k.k, .int .i64 k.p, .int .i64 k.q, .string k.s, .int .i64 k.r]), (.agg #[.int .i64 v.k, .int .i64 v.p, .int .i64 v.q, .string v.s, .int .i64 v.r])] w fun e w' => e = .returned (.int .i64 1) ∧ Chg (fun _ => False) w w' := by
  go_enter Try.func32, Try.ntmps32
  go_wp2
  go_ret
  exact ⟨rfl, ((Chg.refl _ w).alloc _).alloc _⟩
set_option maxRecDepth 100000 in
set_option maxHeartbeats 4000000 in
theorem own_set_bad (w : World) (c : Nat) (k v : V) {x : Int} (hx : (k.k = 0 ∨ vok k = false) ∧ x = 13 ∨ ¬ (k.k = 0 ∨ vok k = false) ∧ vok v = false ∧ x = 2) :
    Calls Try.prog 32 #[.pointer (some ⟨c, 0, none⟩), (.agg #[.int .i64 k.k, .int .i64 k.p, .int .i64 k.q, .string k.s, .int .i64 k.r]), (.agg #[.int .i64 v.k, .int .i64 v.p, .int .i64 v.q, .string v.s, .int .i64 v.r])] w fun e w' => e = .returned (.int .i64 x) ∧ Chg (fun _ => False) w w' := by
  have hb0 := hid ((Bk.new w 26 k.cs).alloc (.cells v.cs.toArray 26))
  have hc0 := hid (Bk.new_at (w.alloc (.cells k.cs.toArray 26)) 26 v.cs.toArray (w.heap.size + 1) (by simp))
  have hC0 := hid (((Chg.refl (fun _ => False) w).alloc (.cells k.cs.toArray 26)).alloc (.cells v.cs.toArray 26))
  rcases hx with ⟨h, rfl⟩ | ⟨h, hv, rfl⟩
  · by_cases hk0 : k.k = 0
    · have e0 : (k.k == 0) = true := by simpa using hk0
      clear h hk0
      go_enter Try.func32, Try.ntmps32
      go_wp2
      go_ret
      exact ⟨rfl, hC0.out⟩
    · have e0 : (k.k == 0) = false := by simpa using hk0
      have hk := hid (h.resolve_left hk0)
      clear h hk0
      go_enter Try.func32, Try.ntmps32
      go_wp2_with fail
      refine (val_valid_eq hk.out).mono ?_
      rintro e w1 ⟨rfl, hc1⟩
      have fin := hid (hC0.out.trans_same hc1)
      clear hc1
      go_wp2
      go_ret
      exact ⟨rfl, fin.out⟩
  · have e0 : (k.k == 0) = false := by simpa using fun e => h (.inl e)
    have hk : Hid (vok k = true) := hid (by cases e : vok k with | true => rfl | false => exact absurd (.inr e) h)
    have hvh := hid hv
    clear h hv
    go_enter Try.func32, Try.ntmps32
    go_wp2_with fail
    refine (val_valid_eq hk.out).mono ?_
    rintro e w1 ⟨rfl, hc1⟩
    have hV1 := hid (hc0.out.none_ hc1)
    obtain ⟨z0, z1, z2, z3, z4⟩ := V.box hV1.out
    have hlz := hV1.out.lt
    have hC1 := hid (hC0.out.trans_same hc1)
    clear hc1
    go_wp2_with fail
    refine (val_valid_eq hvh.out).mono ?_
    rintro e w2 ⟨rfl, hc2⟩
    have fin := hid (hC1.out.trans_same hc2)
    clear hc2
    go_wp2
    go_ret
    exact ⟨rfl, fin.out⟩
theorem own_set_fin {g cap : Nat} {W : World} {i : Nat} {x : Sl} (h : OwnM w c (.slice (some ⟨g, 0, none⟩) L.length cap) bm n D L) (hi : i < L.length) (hg : (slAt L i).g = false) (hk : x.k = (slAt L i).k) (hv : x.g = false → vok x.v = true ∧ x.v.k ≠ 0) (hz : x.g = true → x.v = V.zero)
    (hb : Bk W c 70 [.slice (some ⟨g, 0, none⟩) L.length cap, .map (some bm), .int .i64 (nOf (L.set i x) : Int)]) (hr : W.ownsRow 0 72 11 (.slice (some ⟨g, 0, none⟩) L.length cap) L.length ((L.set i x).flatMap Sl.cs)) (hc : Chg (fun k => k = c ∨ k = g) w W) {m : Nat} (hm : n ≤ m) :
    OwnPost w W c (.slice (some ⟨g, 0, none⟩) L.length cap) bm m (L.set i x) := by
  obtain ⟨s1, s2, s3⟩ := h.sep
  refine ⟨.slice (some ⟨g, 0, none⟩) L.length cap, n, D, ⟨hb, by rw [List.length_set]; exact hr, map_chg h.mp hc fun e => e.elim s1 fun e => s2 (by rw [e]; rfl), ?_, h.inv.set hi hg hk hv hz, ?_⟩, hm, hc.mono fun k _ e => e.elim .inl fun e => .inr (.inl (by rw [e]; rfl)), fun k hk => .inl hk⟩
  · exact IxOk.same (f := lastIx L) h.ix fun k => lastIx_set hi hk k
  · intro j hj
    rw [List.length_set] at hj
    by_cases e : i = j
    · subst e
      rw [slAt_set_eq hi, hk]
      exact h.wf i hi
    · rw [slAt_set_ne e]
      exact h.wf j hj
end
end Go.Proofs.Ytoelgnjnbelokaa
