/-
  The walks of Close of the program and of the document's cells, and of the document's Open; New.
-/
import Derived.Test.YtjlefkohokcohaaWOpen
import Derived.Test.YtjlefkohokcohaaWSet
namespace Go.Proofs.Ytjlefkohokcohaa
open Go.RowKit

/-- Block c is the document's cells L. -/
structure RfRep (w : World) (c : Nat) (va : Value) (L : List Cl) : Prop where
  blk : Bk w c 66 [va]
  all : w.ownsRow 0 72 7 va L.length (L.flatMap Cl.cs)
  inv : Inv L
def rfF (c : Nat) (va : Value) (k : Nat) : Prop := k = c ∨ va.ownBlock = some k
def RfPost (w w' : World) (c : Nat) (va : Value) (L' : List Cl) : Prop :=
  ∃ va', RfRep w' c va' L' ∧ Chg (rfF c va) w w' ∧ ∀ k, rfF c va' k → rfF c va k ∨ w.heap.size ≤ k
theorem RfPost.same {w : World} {c : Nat} {va : Value} {L : List Cl} (R : RfRep w c va L) : RfPost w w c va L := ⟨va, R, Chg.refl _ w, fun _ h => .inl h⟩

theorem up_new (w : World) : Calls Try.prog 9 #[] w fun e w' => e = .returned (.pointer (some ⟨w.heap.size, 0, none⟩)) ∧ UpRep w' w.heap.size (.slice none 0 0) (.slice none 0 0) [] ∧ Chg (fun _ => False) w w' := by
  go_enter Try.func9, Try.ntmps9
  go_wp2
  go_ret
  exact ⟨rfl, ⟨Bk.new w 63 [.slice none 0 0, .slice none 0 0], World.ownsRow_nil _ _ _ _, World.ownsRow_nil _ _ _ _, Inv.nil⟩, (Chg.refl _ w).alloc _⟩
theorem rf_new (w : World) : Calls Try.prog 10 #[] w fun e w' => e = .returned (.pointer (some ⟨w.heap.size, 0, none⟩)) ∧ RfRep w' w.heap.size (.slice none 0 0) [] ∧ Chg (fun _ => False) w w' := by
  go_enter Try.func10, Try.ntmps10
  go_wp2
  go_ret
  exact ⟨rfl, ⟨Bk.new w 66 [.slice none 0 0], World.ownsRow_nil _ _ _ _, Inv.nil⟩, (Chg.refl _ w).alloc _⟩

theorem Try.info72 : (Try.prog.info? 72).map (fun i => (i.zero, i.size, i.bytes)) = some (some (.agg #[.bool false, .int .i64 0, .int .i64 0, .int .i64 0, .int .i64 0, .string ⟨#[]⟩, .int .i64 0]), 7, 64) := by kernel_rfl

theorem rf_open_nil (reg : Int) (w : World) : Calls Try.prog 22 #[.pointer none, .int .i64 reg] w fun e w' => e = .returned (.tuple #[.int .i64 0, .int .i64 1]) ∧ w = w' := by
  go_enter Try.func22, Try.ntmps22
  go_wp2
  go_ret2
  exact ⟨rfl, rfl⟩
theorem rf_open_out (c : Nat) (reg : Int) (w : World) (h : reg < 0 ∨ 65536 ≤ reg) :
    Calls Try.prog 22 #[.pointer (some ⟨c, 0, none⟩), .int .i64 reg] w fun e w' => e = .returned (.tuple #[.int .i64 0, .int .i64 6]) ∧ w = w' := by
  by_cases h0 : reg < 0
  · go_enter Try.func22, Try.ntmps22
    go_wp2
    go_ret2
    exact ⟨rfl, rfl⟩
  · have h1 : 65536 ≤ reg := by omega
    go_enter Try.func22, Try.ntmps22
    go_wp2
    go_ret2
    exact ⟨rfl, rfl⟩

set_option maxRecDepth 100000 in
set_option maxHeartbeats 1000000 in
theorem rf_open_in (c : Nat) (va : Value) (L : List Cl) (reg : Int) (w : World) (R : RfRep w c va L) (hl : L.length ≤ 1000) (h0 : 0 ≤ reg) (h1 : reg < 65536) :
    Calls Try.prog 22 #[.pointer (some ⟨c, 0, none⟩), .int .i64 reg] w fun e w' => RfPost w w' c va (opn L reg).2.2 ∧ e = .returned (.tuple #[.int .i64 (opn L reg).1, .int .i64 (opn L reg).2.1]) := by
  obtain ⟨A, ca, rfl, hca, hca', hA, -⟩ := own_form R.all
  have c0 : w.cell? ⟨c, 0, none⟩ = some (.slice A L.length ca) := R.blk.cell 0
  have hclt := R.blk.lt
  go_enter Try.func22, Try.ntmps22
  go_wp2
  go_loop [6] (fun i => ∃ k : Nat, k ≤ L.length ∧ i = .int .i64 k ∧ Hid (∀ j, j < k → (at_ L j).o = true → (at_ L j).reg ≠ reg)) (fun i => L.length - (intOf i).toNat)
  case atStart => exact ⟨0, Nat.zero_le _, rfl, fun j hj => absurd hj (by omega)⟩
  case round =>
    obtain ⟨k, hk, rfl, H⟩ := hrel
    by_cases hlt : k < L.length
    · obtain ⟨gA, rfl⟩ := hA (by omega)
      obtain ⟨f0, f1, -⟩ := cell_at R.all hlt
      clear hA
      cases ho : (at_ L k).o
      · rw [ho] at f0
        have ho' := hid ho
        clear ho
        go_wp2
        go_round
        case rel => exact ⟨k + 1, by omega, by go_num, fun j hj hoj => by
          by_cases e : j = k
          · subst e; rw [ho'.out] at hoj; cases hoj
          · exact H.out j (by omega) hoj⟩
        case measure => simp [intOf]; omega
      · rw [ho] at f0
        have ho' := hid ho
        clear ho
        by_cases hr : (at_ L k).reg = reg
        · have hr' : ((at_ L k).reg == reg) = true := by simpa using hr
          clear hr
          go_wp2
          go_ret2
          have hf : opn L reg = (((k : Nat) : Int), 0, L) := by
            unfold opn
            rw [if_neg (by omega), findReg_of R.inv hlt ho'.out (by simpa using hr')]
          rw [hf]
          exact ⟨RfPost.same R, rfl⟩
        · have hr' : ((at_ L k).reg == reg) = false := by simpa using hr
          have hr := hid hr
          rename_i hr0
          clear hr0
          go_wp2
          go_round
          case rel => exact ⟨k + 1, by omega, by go_num, fun j hj hoj => by
            by_cases e : j = k
            · subst e; exact hr.out
            · exact H.out j (by omega) hoj⟩
          case measure => simp [intOf]; omega
    · obtain rfl : L.length = k := by omega
      clear hA
      have hd : decide ((1048576 : Int) ≤ (L.length : Int)) = false := by simp; omega
      obtain ⟨i6, hi6, hz6, hs6, hb6⟩ := info_parts Try.info72
      go_wp2_with ((with_reducible show wpList _ _ _ ((⟨some 59, _, _, _, _, _⟩ : Oper) :: _) _ _); refine wpList_append_lies _ rfl _ _ 64 rfl 0 72 i6 _ 7 64 Try.underlying64 hi6 hz6 hs6 hb6 rfl (by omega) _ _ _ rfl (R.all.alloc _) ⟨w.heap.size, 0, none⟩ 1 1 (Cl.new reg).cs rfl rfl (World.news_of_block (cs := (Cl.new reg).cs.toArray) (t := 72) (fr := (0, 0)) (heap_alloc_new w _)) (by simp [Cl.cs, Cl.new, V.zero, Value.oneCell']) (by omega) (by unfold maxLen; omega) (by omega) (Nat.zero_le _) _ rfl ?_; intro g3 cap3 w3 hown3 hgrow3 hat3 hlt3; have F1' := ((R.blk.alloc (.cells (Cl.new reg).cs.toArray 72)).grown hgrow3 (Ne.symm (R.blk.ne_row R.all (by decide)))); have d2 : w3.cell? ⟨c, 0, none⟩ = some (.slice A L.length ca) := F1'.cell 0; have d3 : w3.frozen? ⟨c, 0, none⟩ = false := F1'.frozen 0)
      go_ret2
      have hno : findReg L reg = none := findReg_none H.out
      have hf : opn L reg = (((L.length : Nat) : Int), 0, L ++ [Cl.new reg]) := by
        unfold opn
        rw [if_neg (by omega), hno]
      rw [hf]
      refine ⟨⟨_, ⟨F1'.set_ 0 _, ?_, R.inv.app hno h0 h1⟩, ?_, ?_⟩, rfl⟩
      · have := own_far hown3 (F1'.ne_row hown3 (by decide)) (p := ⟨c, 0, none⟩) (.slice (some ⟨g3, 0, none⟩) (L.length + 1) cap3)
        simpa using this
      · refine Chg.setCell (p := ⟨c, 0, none⟩) (((Chg.refl _ w).alloc _).grown hgrow3 ?_) (fun _ => .inl rfl) _
        intro k hk _
        exact .inr hk
      · intro k hk
        rcases hk with rfl | hk
        · exact .inl (.inl rfl)
        · obtain rfl : g3 = k := by simpa [Value.ownBlock] using hk
          rcases hat3 with h | h
          · exact .inl (.inr h)
          · right
            have e : g3 = w.heap.size + 1 := by simpa using h
            omega
end Go.Proofs.Ytjlefkohokcohaa
