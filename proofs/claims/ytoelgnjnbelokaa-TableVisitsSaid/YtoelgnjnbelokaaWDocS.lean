/-
  What a Set leaves of the document's map, in memory.
-/
import Derived.Test.YtoelgnjnbelokaaTwo
namespace Go.Proofs.Ytoelgnjnbelokaa
open Go.RowKit Go.Maps

theorem Try.info87 : (Try.prog.info? 87).map (fun i => (i.zero, i.size, i.bytes)) = some (some (.agg #[.int .i64 0, .int .i64 0, .int .i64 0, .string ⟨#[]⟩, .int .i64 0, .int .i64 0, .int .i64 0, .int .i64 0, .string ⟨#[]⟩, .int .i64 0, .bool false]), 11, 104) := by kernel_rfl
theorem one_slot66 (w : World) (x : Sl) (H : Nat) (hH : w.heap.size = H) : Rd (w.alloc (.cells x.cs.toArray 87)) 11 (some ⟨H, 0, none⟩) 1 x.cs := Rd.one w 87 11 x.cs rfl H hH
section
variable {w w' W : World} {c : Nat} {vs : Value} {L L1 : List Sl}
theorem DocPost.drew (h : DocPost w w' c vs L) : DocPost w w'.drew c vs L := by
  obtain ⟨vs', h1, h3, h4⟩ := h
  exact ⟨vs', h1.none_ ((Chg.refl _ _).drew), h3.drew, h4⟩
theorem DocPost.trans {w4 : World} {vs1 : Value} (hc : Chg (docF c vs) w w4) (hf : ∀ k, docF c vs1 k → docF c vs k ∨ w.heap.size ≤ k) (h : DocPost w4 W c vs1 L1) : DocPost w W c vs L1 := by
  obtain ⟨vs', h1, h3, h4⟩ := h
  refine ⟨vs', h1, hc.trans h3 fun k hk e => (hf k e).elim id fun e => by omega, fun k hk => ?_⟩
  rcases h4 k hk with e | e
  · exact hf k e
  · exact .inr (Nat.le_trans hc.size e)
theorem DocM.sep (h : DocM w c vs L) : vs.ownBlock ≠ some c := h.blk.ne_row h.row (by decide)
theorem doc_gone_fin {g cap i : Nat} {k : V} (h : DocM w c (.slice (some ⟨g, 0, none⟩) L.length cap) L) (hi : i < L.length) (hI : Inv (L.set i ⟨k, V.zero, true⟩)) :
    DocPost w (putS w g (i * 11) ⟨k, V.zero, true⟩) c (.slice (some ⟨g, 0, none⟩) L.length cap) (L.set i ⟨k, V.zero, true⟩) := by
  have hgc : g ≠ c := fun e => h.sep (by rw [e]; rfl)
  have hp := putS_chg w g (i * 11) ⟨k, V.zero, true⟩
  exact ⟨_, ⟨h.blk.chg hp (fun e => hgc e.symm), by rw [List.length_set]; exact own_putS h.row hi ⟨k, V.zero, true⟩, hI⟩, hp.mono fun k _ e => .inr (by rw [e]; rfl), fun k hk => .inl hk⟩
theorem doc_put_fin {g cap i : Nat} {k v : V} (h : DocM w c (.slice (some ⟨g, 0, none⟩) L.length cap) L) (hi : i < L.length) (hk : (slAt L i).k = k) (hg : (slAt L i).g = false) (hI : Inv (L.set i ⟨k, v, false⟩)) :
    DocPost w (put5 w g (i * 11 + 5) v) c (.slice (some ⟨g, 0, none⟩) L.length cap) (L.set i ⟨k, v, false⟩) := by
  have hgc : g ≠ c := fun e => h.sep (by rw [e]; rfl)
  have hp := put5_chg w g (i * 11 + 5) v
  have hr := own_putV h.row hi v
  rw [hk, hg] at hr
  exact ⟨_, ⟨h.blk.chg hp (fun e => hgc e.symm), by rw [List.length_set]; exact hr, hI⟩, hp.mono fun k _ e => .inr (by rw [e]; rfl), fun k hk => .inl hk⟩
/-- A slot is appended. -/
theorem doc_ins_fin {w4 w7 : World} {m1 : Nat} {k v : V} {A : Option Addr} {cap : Nat} (h : DocM w4 c (.slice A m1 cap) L1) (hm1 : L1.length = m1) (hkv : vok k = true ∧ k.k ≠ 0) (hv : vok v = true ∧ v.k ≠ 0) (hno : ∀ i, i < L1.length → (slAt L1 i).k = k → (slAt L1 i).g = true)
    {A7 : Option Addr} {cp7 : Nat} (h7 : w7.ownsRow 0 87 11 (.slice A7 (m1 + 1) cp7) (m1 + 1) (L1.flatMap Sl.cs ++ (Sl.cs ⟨k, v, false⟩))) (hg7 : ((w4.alloc (.cells (Sl.cs ⟨k, v, false⟩).toArray 87)).drew).grownBy w7 (Value.slice A m1 cap).ownBlock)
    (hat7 : ∀ j, (Value.slice A7 (m1 + 1) cp7).ownBlock = some j → (Value.slice A m1 cap).ownBlock = some j ∨ j = w4.heap.size + 1) :
    DocPost w4 (w7.setCell ⟨c, 0, none⟩ (.slice A7 (m1 + 1) cp7)) c (.slice A m1 cap) (L1 ++ [⟨k, v, false⟩]) := by
  subst hm1
  have c7 : Chg (fun j => (Value.slice A L1.length cap).ownBlock = some j) w4 w7 := (((Chg.refl (fun j => (Value.slice A L1.length cap).ownBlock = some j) w4).alloc _).drew).grown hg7 fun j hj _ => hj
  have hb7 := h.blk.chg c7 h.sep
  have e7 := hb7.ne_row h7 (by decide)
  have c8 : Chg (fun j => j = c) w7 (w7.setCell ⟨c, 0, none⟩ (.slice A7 (L1.length + 1) cp7)) := (Chg.refl (fun j => j = c) w7).setCell (p := ⟨c, 0, none⟩) (fun _ => rfl) _
  have hfl : (L1 ++ [(⟨k, v, false⟩ : Sl)]).flatMap Sl.cs = L1.flatMap Sl.cs ++ (Sl.cs ⟨k, v, false⟩) := by simp
  refine ⟨.slice A7 (L1.length + 1) cp7, ⟨hb7.set_ 0 _, ?_, h.inv.app hkv hv hno⟩, (c7.mono (T := docF c (.slice A L1.length cap)) fun j _ e => .inr e).trans_same (c8.mono (T := docF c (.slice A L1.length cap)) fun j _ e => .inl e), fun j hj => ?_⟩
  · rw [List.length_append, List.length_singleton, hfl]
    exact own_chg h7 c8 fun j hj e => e7 (by rw [← e]; exact hj)
  · rcases hj with e | e
    · exact .inl (.inl e)
    · rcases hat7 j e with e | e
      · exact .inl (.inr e)
      · right; omega
/-- The slots that are left are laid in the map. -/
theorem doc_dropped {w3 wr : World} {A : Option Addr} {m cap q k' : Nat} {A' : Option Addr} (h : DocM w3 c (.slice A m cap) L) (hS : OwnR w3 wr 87 11 (.slice A' q k') q ((liveL L).flatMap Sl.cs)) (hq : nOf L = q) (hc : Chg (fun _ => False) w3 wr) :
    DocM (wr.setCell ⟨c, 0, none⟩ (.slice A' q k')) c (.slice A' q k') (liveL L) ∧ Chg (docF c (.slice A m cap)) w3 (wr.setCell ⟨c, 0, none⟩ (.slice A' q k')) ∧ ∀ k, docF c (.slice A' q k') k → docF c (.slice A m cap) k ∨ w3.heap.size ≤ k := by
  subst hq
  have hb := h.blk.none_ hc
  have e7 := hb.ne_row hS.own (by decide)
  refine ⟨⟨hb.set_ 0 _, own_far hS.own (p := ⟨c, 0, none⟩) e7 _, h.inv.liveL⟩, (hc.mono (T := docF c (.slice A m cap)) fun _ _ e => e.elim).setCell (p := ⟨c, 0, none⟩) (fun _ => .inl rfl) _, fun k hk => ?_⟩
  rcases hk with e | e
  · exact .inl (.inl e)
  · exact .inr (hS.lo k e)
/-- A slot more of those that are left. -/
theorem slots_more {w0 wr w5 : World} {rs : List Sl} {q k k' : Nat} {A A5 : Option Addr} {x : Sl} {H : Nat} (hS : OwnR w0 wr 87 11 (.slice A q k) q (rs.flatMap Sl.cs)) (hC : Chg (fun _ => False) w0 wr) (he : Chg (fun _ => False) wr w')
    (hown : w5.ownsRow 0 87 11 (.slice A5 (q + 1) k') (q + 1) (rs.flatMap Sl.cs ++ x.cs)) (hg : w'.grownBy w5 (Value.slice A q k).ownBlock)
    (hat : ∀ m, (Value.slice A5 (q + 1) k').ownBlock = some m → (Value.slice A q k).ownBlock = some m ∨ m = H) (hH : w0.heap.size ≤ H) :
    OwnR w0 w5 87 11 (.slice A5 (q + 1) k') (q + 1) ((rs ++ [x]).flatMap Sl.cs) ∧ Chg (fun _ => False) w0 w5 := by
  have hS2 := hS.none_ he
  refine ⟨?_, hS2.grown (hC.trans_same he) hg⟩
  rw [List.flatMap_append]
  refine hS2.appended ?_ hat hH
  simpa using hown
theorem doc_valid_eq {w : World} {v : V} {b : Bool} (hb : vok v = b) : Calls Try.prog 23 #[(.agg #[.int .i64 v.k, .int .i64 v.p, .int .i64 v.q, .string v.s, .int .i64 v.r])] w fun e w' => e = .returned (.bool b) ∧ Chg (fun _ => False) w w' := by subst hb; exact doc_valid w v
/-- A removed slot set so again is the same. -/
theorem set_gone_same {i : Nat} {k : V} (I : Inv L) (hi : i < L.length) (hk : (slAt L i).k = k) (hg : (slAt L i).g = true) : L.set i ⟨k, V.zero, true⟩ = L := by
  refine sl_ext (by simp) fun j hj => ?_
  by_cases e : i = j
  · subst e
    rw [slAt_set_eq hi]
    have h1 := I.gone i hi hg
    cases hs : slAt L i with
    | mk a b c =>
      rw [hs] at hk hg h1
      simp only at hk hg h1
      subst hk hg h1
      rfl
  · rw [slAt_set_ne e]
theorem inv_gone {i : Nat} {k : V} (I : Inv L) (hi : i < L.length) (hk : (slAt L i).k = k) : Inv (L.set i ⟨k, V.zero, true⟩) := by
  cases hg : (slAt L i).g with
  | true => rw [set_gone_same I hi hk hg]; exact I
  | false => exact I.set hi hg hk.symm (fun h => by cases h) fun _ => rfl
end
end Go.Proofs.Ytoelgnjnbelokaa
