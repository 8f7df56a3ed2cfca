/-
  The reading walk of a region behind a name that does not unfold: an operation that is not wanted would otherwise let each tactic run the rest of the region.
-/
import Derived.Test.YtoelgnjnbelokaaRegion
namespace Go.Proofs.Ytoelgnjnbelokaa
open Go.RowKit

structure StI (P : Program) (ops : Array Oper) (w : World) (K : Act → Prop) (r : List Nat) (a : Act) : Prop where
  out : wpStI P ops w K r a
section
variable {P : Program} {ops : Array Oper} {Q : Exit → Act → World → Prop} {S : World → Prop} {w : World} {K : Act → Prop} {a : Act}
theorem stW_nil (h : K a) : StI P ops w K [] a := ⟨h⟩
theorem stW_step {i : Nat} {r : List Nat} {o : Oper} (ho : ops[i]? = some o)
    (h : ∀ K' : Act → Prop, (∀ a, StI P ops w K r a → K' a) → if Region.wanted o (yielded ops a.tmps) then o.still P a w K' else K' (a.put o.dst undef)) : StI P ops w K (i :: r) a :=
  ⟨stI_step ho fun K' hK => h K' fun a ha => hK a ha.out⟩
theorem steps_rdW {l : List Nat} {r : List RStep} {n : Nat} {K : Act → World → Prop} (h : ∃ b, (∀ w', S w' → StI P ops w' (fun x => x = b) l a) ∧ wpSteps P ops Q S n K r b w) : wpSteps P ops Q S n K (.rd l :: r) a w := by
  obtain ⟨b, h1, h2⟩ := h
  exact ⟨b, fun w' hS => (h1 w' hS).out, h2⟩
theorem steps_wlW {l : List Nat} {r : List RStep} {n : Nat} {K : Act → World → Prop} (h : ∃ b, (∀ w', StI P ops w' (fun x => x = b) l a) ∧ wpSteps P ops Q S n K r b w) : wpSteps P ops Q S n K (.wl l :: r) a w := by
  obtain ⟨b, h1, h2⟩ := h
  exact ⟨b, fun w' => (h1 w').out, h2⟩
end
end Go.Proofs.Ytoelgnjnbelokaa
