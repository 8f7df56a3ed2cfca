/-
  The walks of the upvalue cells of the program: New, Count, Register, Open.
-/
import Derived.Test.YtjlefkohokcohaaModel
import Derived.Test.YtjlefkohokcohaaRegion
import Derived.Test.YtjlefkohokcohaaProg
import Derived.Deep.RegionHeld3
import Derived.Deep.AppendLies
import Derived.Deep.RegionLaw
import Derived.BigRegion
namespace Go.Proofs.Ytjlefkohokcohaa
open Go.RowKit

/-- Block c is the program's cells L. -/
structure UpRep (w : World) (c : Nat) (va vo : Value) (L : List Cl) : Prop where
  blk : Bk w c 63 [va, vo]
  all : w.ownsRow 0 68 7 va L.length (L.flatMap Cl.cs)
  opn : w.ownsRow 0 3 1 vo (opens L).length ((opens L).map fun (i : Nat) => Value.int .i64 (i : Int))
  inv : Inv L
def upF (c : Nat) (va vo : Value) (k : Nat) : Prop := k = c ∨ va.ownBlock = some k ∨ vo.ownBlock = some k

theorem Try.info3 : (Try.prog.info? 3).map (fun i => (i.zero, i.size, i.bytes)) = some (some (.int .i64 0), 1, 8) := by kernel_rfl
theorem Try.info68 : (Try.prog.info? 68).map (fun i => (i.zero, i.size, i.bytes)) = some (some (.agg #[.bool false, .int .i64 0, .int .i64 0, .int .i64 0, .int .i64 0, .string ⟨#[]⟩, .int .i64 0]), 7, 64) := by kernel_rfl

/-- What a call on block c leaves: it holds the cells L', and nothing else that lay there has changed. -/
def UpPost (w w' : World) (c : Nat) (va vo : Value) (L' : List Cl) : Prop :=
  ∃ va' vo', UpRep w' c va' vo' L' ∧ Chg (upF c va vo) w w' ∧ ∀ k, upF c va' vo' k → upF c va vo k ∨ w.heap.size ≤ k
theorem UpPost.same {w : World} {c : Nat} {va vo : Value} {L : List Cl} (R : UpRep w c va vo L) : UpPost w w c va vo L := ⟨va, vo, R, Chg.refl _ w, fun _ h => .inl h⟩

theorem open_nil (reg : Int) (w : World) : Calls Try.prog 16 #[.pointer none, .int .i64 reg] w fun e w' => e = .returned (.tuple #[.int .i64 0, .int .i64 1]) ∧ w = w' := by
  go_enter Try.func16, Try.ntmps16
  go_wp2
  go_step3
  go_wp2
  rw [Exit.noGoto_ret]
  go_ret2
  exact ⟨rfl, rfl⟩

theorem open_out (c : Nat) (reg : Int) (w : World) (h : reg < 0 ∨ 65536 ≤ reg) :
    Calls Try.prog 16 #[.pointer (some ⟨c, 0, none⟩), .int .i64 reg] w fun e w' => e = .returned (.tuple #[.int .i64 0, .int .i64 6]) ∧ w = w' := by
  by_cases h0 : reg < 0
  · go_enter Try.func16, Try.ntmps16
    go_wp2
    go_step3
    go_wp2
    rw [Exit.noGoto_ret]
    go_ret2
    exact ⟨rfl, rfl⟩
  · have h1 : 65536 ≤ reg := by omega
    go_enter Try.func16, Try.ntmps16
    go_wp2
    go_step3
    go_wp2
    rw [Exit.noGoto_ret]
    go_ret2
    exact ⟨rfl, rfl⟩

set_option maxRecDepth 100000 in
set_option maxHeartbeats 1000000 in
theorem open_in (c : Nat) (va vo : Value) (L : List Cl) (reg : Int) (w : World) (R : UpRep w c va vo L) (hl : L.length ≤ 1000) (h0 : 0 ≤ reg) (h1 : reg < 65536) :
    Calls Try.prog 16 #[.pointer (some ⟨c, 0, none⟩), .int .i64 reg] w fun e w' => UpPost w w' c va vo (opn L reg).2.2 ∧ e = .returned (.tuple #[.int .i64 (opn L reg).1, .int .i64 (opn L reg).2.1]) := by
  obtain ⟨A, ca, rfl, hca, hca', hA, hcA⟩ := own_form R.all
  obtain ⟨B, co, rfl, hco, hco', hB, hcB⟩ := own_form R.opn
  have hle := opens_le L
  have c0 := R.blk.cell 0
  have c1 := R.blk.cell 1
  simp at c0 c1
  have hclt := R.blk.lt
  go_enter Try.func16, Try.ntmps16
  go_wp2
  go_step3
  go_wp2
  go_step3
  go_wp2
  go_loop [6, 22] (fun f i => ∃ k : Nat, k ≤ (opens L).length ∧ i = .int .i64 k ∧ f = .int .i64 (-1) ∧ Hid (∀ j, j < k → (at_ L (opAt L j)).reg ≠ reg)) (fun _ i => (opens L).length - (intOf i).toNat)
  case atStart => exact ⟨0, Nat.zero_le _, rfl, rfl, fun j hj => absurd hj (by omega)⟩
  case round =>
    obtain ⟨k, hk, rfl, rfl, H⟩ := hrel
    by_cases hlt : k < (opens L).length
    · obtain ⟨gB, rfl⟩ := hB (by omega)
      obtain ⟨ho1, ho2⟩ := opAt_spec hlt
      obtain ⟨gA, rfl⟩ := hA (by omega)
      have o1 : w.cell? ⟨gB, k, none⟩ = some (.int .i64 (opAt L k : Nat)) := by
        rw [(hcB gB rfl).1 k (by omega), List.getElem?_map, opAt_get hlt]; rfl
      have a1 : w.cell? ⟨gA, opAt L k * 7 + 1, none⟩ = some (.int .i64 (at_ L (opAt L k)).reg) := by
        rw [(hcA gA rfl).1 _ (by omega), flat_at _ 7 Cl.cs_len _ _ _ (by omega), at_get _ _ ho1]; rfl
      clear hA hB hcA hcB
      by_cases hr : (at_ L (opAt L k)).reg = reg
      · have hr' : ((at_ L (opAt L k)).reg == reg) = true := by simpa using hr
        clear hr
        go_wp2
        go_ret2
        have hf : opn L reg = (((opAt L k : Nat) : Int), 0, L) := by
          unfold opn
          rw [if_neg (by omega), findReg_of R.inv ho1 ho2 (by simpa using hr')]
        rw [hf]
        exact ⟨UpPost.same R, rfl⟩
      · have hr' : ((at_ L (opAt L k)).reg == reg) = false := by simpa using hr
        go_wp2
        go_round
        case rel => exact ⟨k + 1, by omega, by go_num, rfl, fun j hj => by
          by_cases e : j = k
          · subst e; simpa using hr'
          · exact H.out j (by omega)⟩
        case measure => simp [intOf]; omega
    · obtain rfl : (opens L).length = k := by omega
      clear hA hB hcA hcB
      have hd : decide ((1048576 : Int) ≤ (L.length : Int)) = false := by simp; omega
      obtain ⟨i3, hi3, hz3, hs3, hb3⟩ := info_parts Try.info3
      obtain ⟨i6, hi6, hz6, hs6, hb6⟩ := info_parts Try.info68
      go_wp2
      refine wp_region_rc (id := 16) [.rd [0, 1, 2, 3, 4, 5, 6, 7, 8, 9], .act 10, .act 11] [12, 13, 14] [] (fun w' => w'.cell? ⟨c, 0, none⟩ = some (.slice A L.length ca) ∧ w'.cell? ⟨c, 1, none⟩ = some (.slice B (opens L).length co)) (by kernel_rfl) 78 rfl (by kernel_rfl) (fun _ _ _ _ _ h => h) ⟨c0, c1⟩ ?_
      refine steps_rd ?_
      apply Exists.intro
      refine ⟨fun w' hS => ?_, ?_⟩
      · obtain ⟨s0, s1⟩ := hS
        iterate 10 (refine stI_step rfl (fun K hK => ?_); go_simp; refine hK _ ?_; clear hK K)
        exact stI_nil rfl
      refine steps_act (o := ⟨_, _, _, _, _, _⟩) rfl (fun K2 hK2 => ?_)
      go_wp2
      refine hK2 _ _ (by go_simp) rfl ?_
      clear hK2 K2
      refine steps_act (o := ⟨_, _, _, _, _, _⟩) rfl (fun K2 hK2 => ?_)
      go_wp2_with (at_builtin; refine wpList_append_lies _ rfl _ _ 61 rfl 0 3 i3 _ 1 8 Try.underlying61 hi3 hz3 hs3 hb3 rfl (by omega) _ _ _ rfl ((R.opn.alloc _).drew) ⟨w.heap.size, 0, none⟩ 1 1 [.int .i64 (L.length : Nat)] rfl rfl (World.news_of_block (cs := #[.int .i64 (L.length : Nat)]) (t := 3) (fr := (0, 0)) (heap_alloc_new w _)) (by simp [Value.oneCell']) (by omega) (by unfold maxLen; omega) (by omega) (Nat.zero_le _) _ rfl ?_; intro gg cap w1 hown1 hgrow hat hlt1)
      have b1 := ((R.blk.alloc (.cells #[.int .i64 (L.length : Nat)] 3)).drew.grown hgrow (Ne.symm (R.blk.ne_row R.opn (by decide))))
      have k0 : w1.cell? ⟨c, 0, none⟩ = some (.slice A L.length ca) := b1.cell 0
      have k1 : w1.cell? ⟨c, 1, none⟩ = some (.slice B (opens L).length co) := b1.cell 1
      have k2 : w1.frozen? ⟨c, 1, none⟩ = false := b1.frozen 1
      refine hK2 _ _ ⟨k0, k1⟩ rfl ?_
      clear hK2 K2
      refine steps_nil (l := [⟨_, _, _, _, _, _⟩, ⟨_, _, _, _, _, _⟩, ⟨_, _, _, _, _, _⟩]) rfl (fun K2 hK2 => ?_)
      go_wp2
      refine hK2 _ _ rfl ?_
      clear hK2 K2
      refine stI_nil ?_
      have F : Bk (w1.setCell ⟨c, 1, none⟩ (.slice (some ⟨gg, 0, none⟩) ((opens L).length + 1) cap)) c 63 [.slice A L.length ca, .slice (some ⟨gg, 0, none⟩) ((opens L).length + 1) cap] ∧
          (w1.setCell ⟨c, 1, none⟩ (.slice (some ⟨gg, 0, none⟩) ((opens L).length + 1) cap)).ownsRow 0 68 7 (.slice A L.length ca) L.length (L.flatMap Cl.cs) ∧
          (w1.setCell ⟨c, 1, none⟩ (.slice (some ⟨gg, 0, none⟩) ((opens L).length + 1) cap)).ownsRow 0 3 1 (.slice (some ⟨gg, 0, none⟩) ((opens L).length + 1) cap) ((opens L).length + 1) ((opens L).map (fun (i : Nat) => Value.int .i64 (i : Int)) ++ [.int .i64 (L.length : Nat)]) ∧
          Chg (upF c (.slice A L.length ca) (.slice B (opens L).length co)) w (w1.setCell ⟨c, 1, none⟩ (.slice (some ⟨gg, 0, none⟩) ((opens L).length + 1) cap)) := by
        refine ⟨b1.set_ 1 _, own_far (own_grown ((R.all.alloc _).drew) hgrow fun k hk e => own_ne R.all R.opn (by decide) hk e) (b1.ne_row (own_grown ((R.all.alloc _).drew) hgrow fun k hk e => own_ne R.all R.opn (by decide) hk e) (by decide)) _, own_far hown1 (b1.ne_row hown1 (by decide)) _, ?_⟩
        refine Chg.setCell (p := ⟨c, 1, none⟩) ((((Chg.refl _ w).alloc _).drew).grown hgrow ?_) (fun _ => .inl rfl) _
        intro k hk _
        exact .inr (.inr hk)
      generalize w1.setCell ⟨c, 1, none⟩ (.slice (some ⟨gg, 0, none⟩) ((opens L).length + 1) cap) = w2 at F ⊢
      clear k0 k1 k2 b1 hgrow hown1
      obtain ⟨F1, F2, F3, F4⟩ := F
      have d0 : w2.cell? ⟨c, 0, none⟩ = some (.slice A L.length ca) := F1.cell 0
      have d1 := F1.lt
      go_wp2_with (at_builtin; refine wpList_append_lies _ rfl _ _ 60 rfl 0 68 i6 _ 7 64 Try.underlying60 hi6 hz6 hs6 hb6 rfl (by omega) _ _ _ rfl (F2.alloc _) ⟨w2.heap.size, 0, none⟩ 1 1 (Cl.new reg).cs rfl rfl (World.news_of_block (cs := (Cl.new reg).cs.toArray) (t := 68) (fr := (0, 0)) (heap_alloc_new w2 _)) (by simp [Cl.cs, Cl.new, V.zero, Value.oneCell']) (by omega) (by unfold maxLen; omega) (by omega) (Nat.zero_le _) _ rfl ?_; intro g3 cap3 w3 hown3 hgrow3 hat3 hlt3; have F1' := ((F1.alloc (.cells (Cl.new reg).cs.toArray 68)).grown hgrow3 (Ne.symm (F1.ne_row F2 (by decide)))); have d2 : w3.cell? ⟨c, 0, none⟩ = some (.slice A L.length ca) := F1'.cell 0; have d3 : w3.frozen? ⟨c, 0, none⟩ = false := F1'.frozen 0)
      rw [Exit.noGoto_ret]
      go_ret2
      have hno : findReg L reg = none := findReg_none_of H.out
      have hf : opn L reg = (((L.length : Nat) : Int), 0, L ++ [Cl.new reg]) := by
        unfold opn
        rw [if_neg (by omega), hno]
      rw [hf]
      refine ⟨⟨_, _, ⟨F1'.set_ 0 _, ?_, ?_, R.inv.app hno h0 h1⟩, ?_, ?_⟩, rfl⟩
      · have := own_far hown3 (F1'.ne_row hown3 (by decide)) (p := ⟨c, 0, none⟩) (.slice (some ⟨g3, 0, none⟩) (L.length + 1) cap3)
        simpa using this
      · have h3 := own_grown (F3.alloc (.cells (Cl.new reg).cs.toArray 68)) hgrow3 fun k hk e => own_ne F3 F2 (by decide) hk e
        have := own_far h3 (F1'.ne_row h3 (by decide)) (p := ⟨c, 0, none⟩) (.slice (some ⟨g3, 0, none⟩) (L.length + 1) cap3)
        rw [opens_app L _ rfl]
        simpa using this
      · refine Chg.setCell (p := ⟨c, 0, none⟩) ((F4.alloc _).grown hgrow3 ?_) (fun _ => .inl rfl) _
        intro k hk _
        exact .inr (.inl hk)
      · intro k hk
        rcases hk with rfl | hk | hk
        · exact .inl (.inl rfl)
        · obtain rfl : g3 = k := by simpa [Value.ownBlock] using hk
          rcases hat3 with h | h
          · exact .inl (.inr (.inl h))
          · right
            have := F4.size
            have e : g3 = w2.heap.size + 1 := by simpa using h
            omega
        · obtain rfl : gg = k := by simpa [Value.ownBlock] using hk
          rcases hat with h | h
          · exact .inl (.inr (.inr h))
          · right
            have e : gg = w.heap.size + 1 := by simpa using h
            omega
end Go.Proofs.Ytjlefkohokcohaa
