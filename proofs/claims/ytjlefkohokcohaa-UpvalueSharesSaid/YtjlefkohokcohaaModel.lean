/-
  The plain model of the upvalue cells: a list of cells; no program in sight.
-/
import Derived.Test.YtjlefkohokcohaaLib
namespace Go.Proofs.Ytjlefkohokcohaa

/-- A cell: open it stands for a register, closed it has a value. -/
structure Cl where
  o : Bool
  reg : Int
  v : V
deriving DecidableEq

def Cl.cs (c : Cl) : List Value := [.bool c.o, .int .i64 c.reg, .int .i64 c.v.k, .int .i64 c.v.p, .int .i64 c.v.q, .string c.v.s, .int .i64 c.v.r]
theorem Cl.cs_len (c : Cl) : c.cs.length = 7 := rfl
def Cl.zero : Cl := ⟨false, 0, V.zero⟩
def Cl.new (reg : Int) : Cl := ⟨true, reg, V.zero⟩

/-- The cell of a number. -/
def at_ (L : List Cl) (i : Nat) : Cl := L.getD i Cl.zero
/-- The numbers of the open cells. -/
def opens (L : List Cl) : List Nat := (List.range L.length).filter fun i => (at_ L i).o
def opAt (L : List Cl) (j : Nat) : Nat := (opens L).getD j 0
/-- Registers are in range, and no two open cells share one. -/
structure Inv (L : List Cl) : Prop where
  lo : ∀ i, i < L.length → (at_ L i).o = true → 0 ≤ (at_ L i).reg ∧ (at_ L i).reg < 65536
  one : ∀ i j, i < L.length → j < L.length → (at_ L i).o = true → (at_ L j).o = true → (at_ L i).reg = (at_ L j).reg → i = j

def findReg (L : List Cl) (reg : Int) : Option Nat := L.findIdx? fun c => c.o && decide (c.reg = reg)

theorem at_get (L : List Cl) (i : Nat) (h : i < L.length) : L[i]? = some (at_ L i) := by
  unfold at_; rw [List.getD_eq_getElem?_getD, List.getElem?_eq_getElem h]; rfl
theorem mem_opens {L : List Cl} {i : Nat} : i ∈ opens L ↔ i < L.length ∧ (at_ L i).o = true := by simp [opens]
theorem opAt_spec {L : List Cl} {j : Nat} (h : j < (opens L).length) : opAt L j < L.length ∧ (at_ L (opAt L j)).o = true := by
  apply mem_opens.1
  unfold opAt
  rw [List.getD_eq_getElem?_getD, List.getElem?_eq_getElem h]
  exact List.getElem_mem h
theorem opAt_get {L : List Cl} {j : Nat} (h : j < (opens L).length) : (opens L)[j]? = some (opAt L j) := by
  unfold opAt; rw [List.getD_eq_getElem?_getD, List.getElem?_eq_getElem h]; rfl
theorem mem_opAt {L : List Cl} {i : Nat} (h : i ∈ opens L) : ∃ j, j < (opens L).length ∧ opAt L j = i := by
  obtain ⟨j, hj, e⟩ := List.getElem_of_mem h
  exact ⟨j, hj, by unfold opAt; rw [List.getD_eq_getElem?_getD, List.getElem?_eq_getElem hj]; exact e⟩
theorem opens_le (L : List Cl) : (opens L).length ≤ L.length := by
  unfold opens
  refine Nat.le_trans (List.length_filter_le _ _) (by simp)

theorem findReg_none {L : List Cl} {reg : Int} (h : ∀ i, i < L.length → (at_ L i).o = true → (at_ L i).reg ≠ reg) : findReg L reg = none := by
  unfold findReg
  rw [List.findIdx?_eq_none_iff]
  intro c hc
  obtain ⟨i, hi, rfl⟩ := List.getElem_of_mem hc
  have e : at_ L i = L[i] := by unfold at_; rw [List.getD_eq_getElem?_getD, List.getElem?_eq_getElem hi]; rfl
  rw [← e]
  cases ho : (at_ L i).o
  · simp
  · simp [h i hi ho]
theorem findReg_some {L : List Cl} {reg : Int} {i : Nat} (h : findReg L reg = some i) : i < L.length ∧ (at_ L i).o = true ∧ (at_ L i).reg = reg := by
  unfold findReg at h
  obtain ⟨hi, hp, _⟩ := List.findIdx?_eq_some_iff_getElem.1 h
  have e : at_ L i = L[i] := by unfold at_; rw [List.getD_eq_getElem?_getD, List.getElem?_eq_getElem hi]; rfl
  rw [← e] at hp
  simp at hp
  exact ⟨hi, hp.1, hp.2⟩
theorem findReg_of {L : List Cl} {reg : Int} {i : Nat} (I : Inv L) (hi : i < L.length) (ho : (at_ L i).o = true) (hr : (at_ L i).reg = reg) : findReg L reg = some i := by
  cases h : findReg L reg with
  | none =>
    exfalso
    unfold findReg at h
    rw [List.findIdx?_eq_none_iff] at h
    have e : at_ L i = L[i] := by unfold at_; rw [List.getD_eq_getElem?_getD, List.getElem?_eq_getElem hi]; rfl
    have := h L[i] (List.getElem_mem hi)
    rw [← e] at this
    simp [ho, hr] at this
  | some j =>
    obtain ⟨hj, hoj, hrj⟩ := findReg_some h
    rw [I.one j i hj hi hoj ho (by rw [hrj, hr])]
theorem findReg_none_of {L : List Cl} {reg : Int} (h : ∀ j, j < (opens L).length → (at_ L (opAt L j)).reg ≠ reg) : findReg L reg = none := by
  refine findReg_none fun i hi ho => ?_
  obtain ⟨j, hj, e⟩ := mem_opAt (mem_opens.2 ⟨hi, ho⟩)
  rw [← e]
  exact h j hj
theorem findReg_none_iff {L : List Cl} {reg : Int} (h : findReg L reg = none) {i : Nat} (hi : i < L.length) (ho : (at_ L i).o = true) : (at_ L i).reg ≠ reg := by
  intro hr
  unfold findReg at h
  rw [List.findIdx?_eq_none_iff] at h
  have e : at_ L i = L[i] := by unfold at_; rw [List.getD_eq_getElem?_getD, List.getElem?_eq_getElem hi]; rfl
  have := h L[i] (List.getElem_mem hi)
  rw [← e] at this
  simp [ho, hr] at this

theorem at_app_lt {L M : List Cl} {i : Nat} (h : i < L.length) : at_ (L ++ M) i = at_ L i := by
  unfold at_; rw [List.getD_eq_getElem?_getD, List.getD_eq_getElem?_getD, List.getElem?_append_left h]
theorem at_app_eq {L : List Cl} {c : Cl} : at_ (L ++ [c]) L.length = c := by
  unfold at_; simp
theorem opens_app (L : List Cl) (c : Cl) (h : c.o = true) : opens (L ++ [c]) = opens L ++ [L.length] := by
  unfold opens
  rw [List.length_append, List.length_singleton, List.range_succ, List.filter_append]
  congr 1
  · apply List.filter_congr
    intro i hi
    rw [at_app_lt (by simpa using hi)]
  · simp [at_app_eq, h]
theorem Inv.app {L : List Cl} {reg : Int} (I : Inv L) (h : findReg L reg = none) (h0 : 0 ≤ reg) (h1 : reg < 65536) : Inv (L ++ [Cl.new reg]) := by
  constructor
  · intro i hi ho
    rw [List.length_append, List.length_singleton] at hi
    by_cases hl : i < L.length
    · rw [at_app_lt hl] at ho ⊢
      exact I.lo i hl ho
    · obtain rfl : i = L.length := by omega
      rw [at_app_eq]
      exact ⟨h0, h1⟩
  · intro i j hi hj hoi hoj hr
    rw [List.length_append, List.length_singleton] at hi hj
    by_cases hl : i < L.length
    · by_cases hm : j < L.length
      · rw [at_app_lt hl] at hoi hr
        rw [at_app_lt hm] at hoj hr
        exact I.one i j hl hm hoi hoj hr
      · obtain rfl : j = L.length := by omega
        rw [at_app_lt hl] at hoi hr
        rw [at_app_eq] at hr
        exact absurd hr (findReg_none_iff h hl hoi)
    · obtain rfl : i = L.length := by omega
      by_cases hm : j < L.length
      · rw [at_app_lt hm] at hoj hr
        rw [at_app_eq] at hr
        exact absurd hr.symm (findReg_none_iff h hm hoj)
      · omega
theorem Inv.nil : Inv [] := ⟨fun i hi => absurd hi (by simp), fun i j hi => absurd hi (by simp)⟩

/-- What Open returns: the cell, the error, the cells behind it. -/
def opn (L : List Cl) (reg : Int) : Int × Int × List Cl :=
  if reg < 0 ∨ 65536 ≤ reg then (0, 6, L) else
  match findReg L reg with
  | some i => (i, 0, L)
  | none => (L.length, 0, L ++ [Cl.new reg])
theorem Inv.opn {L : List Cl} (I : Inv L) (reg : Int) : Inv (opn L reg).2.2 := by
  unfold Ytjlefkohokcohaa.opn
  split
  · exact I
  · split
    · exact I
    · exact I.app ‹_› (by omega) (by omega)
/-- The error of Get and Set at m registers. -/
def chk (L : List Cl) (n : Int) (m : Nat) : Int :=
  if n < 0 ∨ L.length ≤ n then 6 else if (at_ L n.toNat).o = true ∧ (m : Int) ≤ (at_ L n.toNat).reg then 19 else 0
def getV (L : List Cl) (n : Int) (rs : List V) : V :=
  if chk L n rs.length = 0 then (if (at_ L n.toNat).o = true then vAt rs (at_ L n.toNat).reg.toNat else (at_ L n.toNat).v) else V.zero
def regOf (L : List Cl) (n : Int) : Int := if n < 0 ∨ L.length ≤ n then 0 else if (at_ L n.toNat).o = true then (at_ L n.toNat).reg else 0
def isOpen (L : List Cl) (n : Int) : Bool := if n < 0 ∨ L.length ≤ n then false else (at_ L n.toNat).o

theorem regOf_in {L : List Cl} {i : Nat} (hi : i < L.length) : regOf L i = (if (at_ L i).o = true then (at_ L i).reg else 0) ∧ isOpen L i = (at_ L i).o := by
  have hA : ¬ ((i : Int) < 0 ∨ (L.length : Int) ≤ (i : Int)) := by omega
  unfold regOf isOpen
  rw [if_neg hA, if_neg hA]
  exact ⟨rfl, rfl⟩
theorem cell_at {w : World} {e : TypeId} {L : List Cl} {g cap i : Nat} (h : w.ownsRow 0 e 7 (.slice (some ⟨g, 0, none⟩) L.length cap) L.length (L.flatMap Cl.cs)) (hi : i < L.length) :
    w.cell? ⟨g, i * 7, none⟩ = some (.bool (at_ L i).o) ∧ w.cell? ⟨g, i * 7 + 1, none⟩ = some (.int .i64 (at_ L i).reg) ∧ w.cell? ⟨g, i * 7 + 2, none⟩ = some (.int .i64 (at_ L i).v.k) ∧
      w.cell? ⟨g, i * 7 + 3, none⟩ = some (.int .i64 (at_ L i).v.p) ∧ w.cell? ⟨g, i * 7 + 4, none⟩ = some (.int .i64 (at_ L i).v.q) ∧ w.cell? ⟨g, i * 7 + 5, none⟩ = some (.string (at_ L i).v.s) ∧
      w.cell? ⟨g, i * 7 + 6, none⟩ = some (.int .i64 (at_ L i).v.r) := by
  have k : ∀ j, j < 7 → w.cell? ⟨g, i * 7 + j, none⟩ = (at_ L i).cs[j]? := fun j hj => by
    rw [h.cellAt _ (by omega), flat_at _ 7 Cl.cs_len _ _ _ hj, at_get _ _ hi]; rfl
  exact ⟨k 0 (by omega), k 1 (by omega), k 2 (by omega), k 3 (by omega), k 4 (by omega), k 5 (by omega), k 6 (by omega)⟩
/-- What Set makes of the registers and of the cells. -/
def setRs (L : List Cl) (i : Nat) (v : V) (rs : List V) : List V := if (at_ L i).o = true then rs.set (at_ L i).reg.toNat v else rs
def setCl (L : List Cl) (i : Nat) (v : V) : List Cl := if (at_ L i).o = true then L else L.set i { at_ L i with v := v }
theorem setRs_len (L : List Cl) (i : Nat) (v : V) (rs : List V) : (setRs L i v rs).length = rs.length := by unfold setRs; split <;> simp
theorem setCl_len (L : List Cl) (i : Nat) (v : V) : (setCl L i v).length = L.length := by unfold setCl; split <;> simp
theorem at_set_ne {L : List Cl} {i j : Nat} {c : Cl} (h : i ≠ j) : at_ (L.set i c) j = at_ L j := by
  unfold at_; rw [List.getD_eq_getElem?_getD, List.getD_eq_getElem?_getD, List.getElem?_set_ne h]
theorem at_set_eq {L : List Cl} {i : Nat} {c : Cl} (h : i < L.length) : at_ (L.set i c) i = c := by
  unfold at_; rw [List.getD_eq_getElem?_getD, List.getElem?_set_self h]; rfl
theorem at_setCl (L : List Cl) (i j : Nat) (v : V) (hi : i < L.length) : (at_ (setCl L i v) j).o = (at_ L j).o ∧ (at_ (setCl L i v) j).reg = (at_ L j).reg := by
  unfold setCl
  split
  · exact ⟨rfl, rfl⟩
  · by_cases h : i = j
    · subst h; rw [at_set_eq hi]; exact ⟨rfl, rfl⟩
    · rw [at_set_ne h]; exact ⟨rfl, rfl⟩
theorem Inv.setCl {L : List Cl} (I : Inv L) (i : Nat) (v : V) (hi : i < L.length) : Inv (setCl L i v) := by
  constructor
  · intro j hj ho
    rw [setCl_len] at hj
    rw [(at_setCl L i j v hi).1] at ho
    rw [(at_setCl L i j v hi).2]
    exact I.lo j hj ho
  · intro j k hj hk hoj hok hr
    rw [setCl_len] at hj hk
    rw [(at_setCl L i j v hi).1] at hoj
    rw [(at_setCl L i k v hi).1] at hok
    rw [(at_setCl L i j v hi).2, (at_setCl L i k v hi).2] at hr
    exact I.one j k hj hk hoj hok hr
theorem opens_setCl (L : List Cl) (i : Nat) (v : V) (hi : i < L.length) : opens (setCl L i v) = opens L := by
  unfold opens
  rw [setCl_len]
  exact List.filter_congr fun j _ => by rw [(at_setCl L i j v hi).1]

theorem set5 (L : List Cl) (i : Nat) (v : V) (hi : i < L.length) :
    ((((((L.flatMap Cl.cs).set (i * 7 + 2) (.int .i64 v.k)).set (i * 7 + 3) (.int .i64 v.p)).set (i * 7 + 4) (.int .i64 v.q)).set (i * 7 + 5) (.string v.s)).set (i * 7 + 6) (.int .i64 v.r)) = (L.set i { at_ L i with v := v }).flatMap Cl.cs := by
  have g : ∀ c : Cl, (L.set i c)[i]? = some c := fun c => List.getElem?_set_self hi
  rw [set_cell Cl.cs 7 Cl.cs_len L i 2 (by omega) (at_ L i) ⟨(at_ L i).o, (at_ L i).reg, ⟨v.k, (at_ L i).v.p, (at_ L i).v.q, (at_ L i).v.s, (at_ L i).v.r⟩⟩ (.int .i64 v.k) (at_get _ _ hi) rfl,
    set_cell Cl.cs 7 Cl.cs_len _ i 3 (by omega) ⟨(at_ L i).o, (at_ L i).reg, ⟨v.k, (at_ L i).v.p, (at_ L i).v.q, (at_ L i).v.s, (at_ L i).v.r⟩⟩ ⟨(at_ L i).o, (at_ L i).reg, ⟨v.k, v.p, (at_ L i).v.q, (at_ L i).v.s, (at_ L i).v.r⟩⟩ (.int .i64 v.p) (g _) rfl, List.set_set,
    set_cell Cl.cs 7 Cl.cs_len _ i 4 (by omega) ⟨(at_ L i).o, (at_ L i).reg, ⟨v.k, v.p, (at_ L i).v.q, (at_ L i).v.s, (at_ L i).v.r⟩⟩ ⟨(at_ L i).o, (at_ L i).reg, ⟨v.k, v.p, v.q, (at_ L i).v.s, (at_ L i).v.r⟩⟩ (.int .i64 v.q) (g _) rfl, List.set_set,
    set_cell Cl.cs 7 Cl.cs_len _ i 5 (by omega) ⟨(at_ L i).o, (at_ L i).reg, ⟨v.k, v.p, v.q, (at_ L i).v.s, (at_ L i).v.r⟩⟩ ⟨(at_ L i).o, (at_ L i).reg, ⟨v.k, v.p, v.q, v.s, (at_ L i).v.r⟩⟩ (.string v.s) (g _) rfl, List.set_set,
    set_cell Cl.cs 7 Cl.cs_len _ i 6 (by omega) ⟨(at_ L i).o, (at_ L i).reg, ⟨v.k, v.p, v.q, v.s, (at_ L i).v.r⟩⟩ { at_ L i with v := v } (.int .i64 v.r) (g _) rfl, List.set_set]
theorem list5_Cl (L : List Cl) (i : Nat) (v : V) (hi : i < L.length) : list5 (L.flatMap Cl.cs) (i * 7 + 2) v = (L.set i { at_ L i with v := v }).flatMap Cl.cs := set5 L i v hi

/-! ### Close -/
def cl (rs : List V) (c : Cl) : Cl := ⟨false, 0, if c.reg < rs.length then vAt rs c.reg.toNat else V.zero⟩
def cloF (fr : Int) (rs : List V) (c : Cl) : Cl := if c.o = true ∧ fr ≤ c.reg then cl rs c else c
def clo (L : List Cl) (fr : Int) (rs : List V) : List Cl := L.map (cloF fr rs)
/-- How many cells Close closes. -/
def cnt (L : List Cl) (fr : Int) : Nat := (L.filter fun c => c.o && decide (fr ≤ c.reg)).length
/-- The numbers of the open cells that stay open, of the first k. -/
def stay (L : List Cl) (fr : Int) (k : Nat) : List Nat := ((opens L).take k).filter fun i => decide ((at_ L i).reg < fr)
/-- The cells when the first k open ones have been looked at. -/
def cloK (L : List Cl) (fr : Int) (rs : List V) (k : Nat) : List Cl := (List.range L.length).map fun i => if i ∈ (opens L).take k ∧ fr ≤ (at_ L i).reg then cl rs (at_ L i) else at_ L i

theorem list_at (L : List Cl) : (List.range L.length).map (at_ L) = L := by
  apply List.ext_getElem?
  intro i
  by_cases h : i < L.length
  · rw [List.getElem?_map, List.getElem?_range h, Option.map_some, at_get _ _ h]
  · rw [List.getElem?_eq_none (by simpa using h), List.getElem?_eq_none (by simpa using h)]
theorem cloK_len (L : List Cl) (fr : Int) (rs : List V) (k : Nat) : (cloK L fr rs k).length = L.length := by simp [cloK]
theorem cloK_zero (L : List Cl) (fr : Int) (rs : List V) : cloK L fr rs 0 = L := by simp [cloK, list_at]
theorem take_succ_op {L : List Cl} {k : Nat} (h : k < (opens L).length) : (opens L).take (k + 1) = (opens L).take k ++ [opAt L k] := by
  rw [List.take_add_one, opAt_get h]; rfl
theorem opens_nodup (L : List Cl) : (opens L).Nodup := List.Nodup.sublist (List.filter_sublist) (List.nodup_range)
theorem opAt_fresh {L : List Cl} {k : Nat} (h : k < (opens L).length) : opAt L k ∉ (opens L).take k := by
  intro hm
  have h1 := List.Nodup.sublist (List.take_sublist (k + 1) (opens L)) (opens_nodup L)
  rw [take_succ_op h] at h1
  exact (List.nodup_append.1 h1).2.2 _ hm _ (by simp) rfl
theorem at_cloK {L : List Cl} {fr : Int} {rs : List V} {k : Nat} (h : k < (opens L).length) : at_ (cloK L fr rs k) (opAt L k) = at_ L (opAt L k) := by
  have hi := (opAt_spec h).1
  have : (cloK L fr rs k)[opAt L k]? = some (at_ L (opAt L k)) := by
    unfold cloK
    rw [List.getElem?_map, List.getElem?_range hi, Option.map_some, if_neg (fun hh => opAt_fresh h hh.1)]
  have h2 := at_get (cloK L fr rs k) (opAt L k) (by rw [cloK_len]; exact hi)
  rw [this] at h2
  exact (Option.some.inj h2).symm
theorem cloK_keep {L : List Cl} {fr : Int} {rs : List V} {k : Nat} (h : k < (opens L).length) (hr : (at_ L (opAt L k)).reg < fr) : cloK L fr rs (k + 1) = cloK L fr rs k := by
  unfold cloK
  apply List.map_congr_left
  intro i _
  rw [take_succ_op h]
  by_cases hi : i = opAt L k
  · subst hi
    rw [if_neg (by omega), if_neg (by omega)]
  · have : (i ∈ (opens L).take k ++ [opAt L k]) = (i ∈ (opens L).take k) := by simp [hi]
    simp only [this]
theorem cloK_close {L : List Cl} {fr : Int} {rs : List V} {k : Nat} (h : k < (opens L).length) (hr : fr ≤ (at_ L (opAt L k)).reg) : cloK L fr rs (k + 1) = (cloK L fr rs k).set (opAt L k) (cl rs (at_ L (opAt L k))) := by
  apply List.ext_getElem?
  intro i
  have hi' := (opAt_spec h).1
  by_cases hl : i < L.length
  · rw [List.getElem?_set]
    unfold cloK
    rw [List.getElem?_map, List.getElem?_range hl, Option.map_some, take_succ_op h]
    by_cases hi : opAt L k = i
    · subst hi
      have hm : opAt L k ∈ (opens L).take k ++ [opAt L k] ∧ fr ≤ (at_ L (opAt L k)).reg := ⟨by simp, hr⟩
      rw [if_pos hm, if_pos rfl, if_pos (by simpa using hl)]
    · rw [if_neg hi, List.getElem?_map, List.getElem?_range hl, Option.map_some]
      have : (i ∈ (opens L).take k ++ [opAt L k]) = (i ∈ (opens L).take k) := by simp [Ne.symm hi]
      simp only [this]
  · rw [List.getElem?_eq_none (by rw [cloK_len]; omega), List.getElem?_eq_none (by rw [List.length_set, cloK_len]; omega)]
theorem cloK_all (L : List Cl) (fr : Int) (rs : List V) : cloK L fr rs (opens L).length = clo L fr rs := by
  unfold cloK clo
  rw [List.take_length]
  conv => rhs; rw [← list_at L, List.map_map]
  apply List.map_congr_left
  intro i hi
  simp only [mem_opens, Function.comp, cloF]
  have : i < L.length := by simpa using hi
  simp [this]
theorem stay_keep {L : List Cl} {fr : Int} {k : Nat} (h : k < (opens L).length) (hr : (at_ L (opAt L k)).reg < fr) : stay L fr (k + 1) = stay L fr k ++ [opAt L k] := by
  unfold stay; rw [take_succ_op h, List.filter_append]; simp [hr]
theorem stay_close {L : List Cl} {fr : Int} {k : Nat} (h : k < (opens L).length) (hr : fr ≤ (at_ L (opAt L k)).reg) : stay L fr (k + 1) = stay L fr k := by
  unfold stay; rw [take_succ_op h, List.filter_append]
  have : ¬ (at_ L (opAt L k)).reg < fr := by omega
  simp [this]
theorem stay_le (L : List Cl) (fr : Int) (k : Nat) : (stay L fr k).length ≤ (opens L).length := by
  unfold stay
  exact Nat.le_trans (List.length_filter_le _ _) (by rw [List.length_take]; exact Nat.min_le_right _ _)
theorem at_clo (L : List Cl) (fr : Int) (rs : List V) (i : Nat) (hi : i < L.length) : at_ (clo L fr rs) i = cloF fr rs (at_ L i) := by
  have h := at_get (clo L fr rs) i (by simpa [clo] using hi)
  unfold clo at h ⊢
  rw [List.getElem?_map, at_get L i hi, Option.map_some] at h
  exact (Option.some.inj h).symm
theorem clo_len (L : List Cl) (fr : Int) (rs : List V) : (clo L fr rs).length = L.length := by simp [clo]
theorem cloF_o {fr : Int} {rs : List V} {c : Cl} (h : (cloF fr rs c).o = true) : cloF fr rs c = c ∧ c.o = true ∧ c.reg < fr := by
  unfold cloF at h ⊢
  split at h
  · cases h
  · rename_i hn
    rw [if_neg hn]
    refine ⟨rfl, h, ?_⟩
    rcases Int.lt_or_le c.reg fr with h' | h'
    · exact h'
    · exact absurd ⟨h, h'⟩ hn
theorem Inv.clo {L : List Cl} (I : Inv L) (fr : Int) (rs : List V) : Inv (clo L fr rs) := by
  constructor
  · intro i hi ho
    rw [clo_len] at hi
    rw [at_clo L fr rs i hi] at ho ⊢
    obtain ⟨e, h1, _⟩ := cloF_o ho
    rw [e]
    exact I.lo i hi h1
  · intro i j hi hj hoi hoj hr
    rw [clo_len] at hi hj
    rw [at_clo L fr rs i hi] at hoi hr
    rw [at_clo L fr rs j hj] at hoj hr
    obtain ⟨e, h1, _⟩ := cloF_o hoi
    obtain ⟨e', h1', _⟩ := cloF_o hoj
    rw [e, e'] at hr
    exact I.one i j hi hj h1 h1' hr
theorem opens_clo (L : List Cl) (fr : Int) (rs : List V) : opens (clo L fr rs) = stay L fr (opens L).length := by
  unfold stay
  rw [List.take_length]
  unfold opens
  rw [clo_len, List.filter_filter]
  apply List.filter_congr
  intro i hi
  have hi' : i < L.length := by simpa using hi
  rw [at_clo L fr rs i hi']
  unfold cloF
  cases ho : (at_ L i).o
  · simp [ho]
  · by_cases hr : fr ≤ (at_ L i).reg
    · rw [if_pos ⟨rfl, hr⟩]
      have : ¬ (at_ L i).reg < fr := by omega
      simp [cl, this]
    · rw [if_neg (fun h => hr h.2)]
      have : (at_ L i).reg < fr := by omega
      simp [ho, this]
theorem cnt_eq (L : List Cl) (fr : Int) : ((opens L).length : Int) - ((stay L fr (opens L).length).length : Int) = (cnt L fr : Int) := by
  have h1 : cnt L fr = ((opens L).filter fun i => decide (fr ≤ (at_ L i).reg)).length := by
    unfold cnt
    conv => lhs; rw [← list_at L, List.filter_map, List.length_map]
    unfold opens
    rw [List.filter_filter]
    congr 1
    apply List.filter_congr
    intro i _
    simp [Function.comp, Bool.and_comm]
  have h2 := List.length_eq_countP_add_countP (fun i => decide ((at_ L i).reg < fr)) (l := opens L)
  have h3 : (opens L).countP (fun i => decide ((at_ L i).reg < fr)) = (stay L fr (opens L).length).length := by
    unfold stay; rw [List.take_length, List.countP_eq_length_filter]
  have h4 : (opens L).countP (fun i => decide ¬decide ((at_ L i).reg < fr) = true) = cnt L fr := by
    rw [h1, List.countP_eq_length_filter]
    congr 1
    apply List.filter_congr
    intro i _
    simp
  rw [h3, h4] at h2
  omega
theorem cnt_le (L : List Cl) (fr : Int) : cnt L fr ≤ L.length := List.length_filter_le _ _

/-- The document's Close: the first k cells have been looked at. -/
def cloT (L : List Cl) (fr : Int) (rs : List V) (k : Nat) : List Cl := (L.take k).map (cloF fr rs) ++ L.drop k
theorem cloT_len (L : List Cl) (fr : Int) (rs : List V) (k : Nat) : (cloT L fr rs k).length = L.length := by simp [cloT]; omega
theorem at_cloT {L : List Cl} {fr : Int} {rs : List V} {k : Nat} (h : k < L.length) : at_ (cloT L fr rs k) k = at_ L k := by
  have h1 : (cloT L fr rs k)[k]? = some (at_ L k) := by
    unfold cloT
    rw [List.getElem?_append_right (by simp; omega), List.getElem?_drop]
    have : k + (k - (List.map (cloF fr rs) (List.take k L)).length) = k := by simp; omega
    rw [this, at_get L k h]
  have h2 := at_get (cloT L fr rs k) k (by rw [cloT_len]; exact h)
  rw [h1] at h2
  exact (Option.some.inj h2).symm
theorem cloT_succ {L : List Cl} {fr : Int} {rs : List V} {k : Nat} (h : k < L.length) : cloT L fr rs (k + 1) = (cloT L fr rs k).set k (cloF fr rs (at_ L k)) := by
  unfold cloT
  have hl : (List.map (cloF fr rs) (List.take k L)).length = k := by simp; omega
  rw [List.set_append_right _ _ (by omega), hl, Nat.sub_self, List.drop_eq_getElem_cons h, List.set_cons_zero, List.take_add_one, at_get L k h]
  simp
theorem cloT_same {L : List Cl} {fr : Int} {rs : List V} {k : Nat} (h : k < L.length) (hf : cloF fr rs (at_ L k) = at_ L k) : cloT L fr rs (k + 1) = cloT L fr rs k := by
  rw [cloT_succ h, hf]
  apply List.ext_getElem?
  intro i
  rw [List.getElem?_set]
  split
  · rename_i hi
    subst hi
    rw [if_pos (by rw [cloT_len]; exact h), at_get (cloT L fr rs k) k (by rw [cloT_len]; exact h), at_cloT h]
  · rfl
theorem cloT_all (L : List Cl) (fr : Int) (rs : List V) : cloT L fr rs L.length = clo L fr rs := by simp [cloT, clo]
def cntT (L : List Cl) (fr : Int) (k : Nat) : Nat := cnt (L.take k) fr
theorem cntT_succ {L : List Cl} {fr : Int} {k : Nat} (h : k < L.length) : cntT L fr (k + 1) = cntT L fr k + (if (at_ L k).o = true ∧ fr ≤ (at_ L k).reg then 1 else 0) := by
  unfold cntT cnt
  rw [List.take_add_one, at_get L k h, List.filter_append, List.length_append]
  congr 1
  cases ho : (at_ L k).o
  · simp [ho]
  · by_cases hr : fr ≤ (at_ L k).reg <;> simp [ho, hr]
theorem cntT_le (L : List Cl) (fr : Int) (k : Nat) : cntT L fr k ≤ k := by
  unfold cntT
  exact Nat.le_trans (cnt_le _ _) (by simp; omega)

/-- A whole cell stored. -/
def put7 (w : World) (g j : Nat) (c : Cl) : World :=
  ((((((w.setCell ⟨g, j, none⟩ (.bool c.o)).setCell ⟨g, j + 1, none⟩ (.int .i64 c.reg)).setCell ⟨g, j + 2, none⟩ (.int .i64 c.v.k)).setCell ⟨g, j + 3, none⟩ (.int .i64 c.v.p)).setCell ⟨g, j + 4, none⟩ (.int .i64 c.v.q)).setCell ⟨g, j + 5, none⟩ (.string c.v.s)).setCell ⟨g, j + 6, none⟩ (.int .i64 c.v.r)
theorem own_put7 {w : World} {e : TypeId} {g cap : Nat} {L : List Cl} (h : w.ownsRow 0 e 7 (.slice (some ⟨g, 0, none⟩) L.length cap) L.length (L.flatMap Cl.cs)) (i : Nat) (hi : i < L.length) (c : Cl) :
    (put7 w g (i * 7) c).ownsRow 0 e 7 (.slice (some ⟨g, 0, none⟩) L.length cap) L.length ((L.set i c).flatMap Cl.cs) := by
  have g0 := own_set (own_set (own_set (own_set (own_set (own_set (own_set h (i * 7) (.bool c.o)) (i * 7 + 1) (.int .i64 c.reg)) (i * 7 + 2) (.int .i64 c.v.k)) (i * 7 + 3) (.int .i64 c.v.p)) (i * 7 + 4) (.int .i64 c.v.q)) (i * 7 + 5) (.string c.v.s)) (i * 7 + 6) (.int .i64 c.v.r)
  have gg : ∀ x : Cl, (L.set i x)[i]? = some x := fun x => List.getElem?_set_self hi
  have e0 := set_cell Cl.cs 7 Cl.cs_len L i 0 (by omega) (at_ L i) ⟨c.o, (at_ L i).reg, (at_ L i).v⟩ (.bool c.o) (at_get _ _ hi) rfl
  rw [Nat.add_zero] at e0
  have e1 := set_cell Cl.cs 7 Cl.cs_len _ i 1 (by omega) ⟨c.o, (at_ L i).reg, (at_ L i).v⟩ ⟨c.o, c.reg, (at_ L i).v⟩ (.int .i64 c.reg) (gg _) rfl
  rw [e0, e1, List.set_set] at g0
  have e2 := list5_Cl (L.set i ⟨c.o, c.reg, (at_ L i).v⟩) i c.v (by simpa using hi)
  unfold list5 at e2
  rw [at_set_eq hi, List.set_set] at e2
  rw [e2] at g0
  exact g0
theorem Chg.put7 {S : Nat → Prop} {a w : World} (h : Chg S a w) {g : Nat} (hg : g < a.heap.size → S g) (j : Nat) (c : Cl) : Chg S a (put7 w g j c) :=
  ((((((h.setCell (p := ⟨g, j, none⟩) hg _).setCell (p := ⟨g, j + 1, none⟩) hg _).setCell (p := ⟨g, j + 2, none⟩) hg _).setCell (p := ⟨g, j + 3, none⟩) hg _).setCell (p := ⟨g, j + 4, none⟩) hg _).setCell (p := ⟨g, j + 5, none⟩) hg _).setCell (p := ⟨g, j + 6, none⟩) hg _
theorem put7_chg (w : World) (g j : Nat) (c : Cl) : Chg (fun k => k = g) w (put7 w g j c) := Chg.put7 (S := fun k => k = g) (Chg.refl _ w) (fun _ => rfl) j c
end Go.Proofs.Ytjlefkohokcohaa
