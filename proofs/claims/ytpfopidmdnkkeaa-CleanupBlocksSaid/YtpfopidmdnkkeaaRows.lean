/-
  No cell of these rows narrows 'for every input' (looked for: loops, veiled, ifaces, maps, wideKeys, modest, calm, conditions, laid).
  DERIVED. THE GIVEN ROWS OF THIS SEAT. 7 by the template 'for every input the law returns true; each argument reads behind the call as it read before'; 0 by the template 'total and deterministic' (their statements: YtpfopidmdnkkeaaTotals.lean).
  GIVEN WITH THE SEED: the statements are not yours to turn. If you find one false, say at which input.
  Laid BY PROGRAM, IN A SANDBOX (cutbox-rows.mjs): the forced cells as the released guide's own fill.sh prints them over the translation a14f708b5e224638… (all of the seat's roots in one cut). By AI agents, Wed Nov 11 2026. No macro, syntax, notation, axiom, sorry.
-/
import Derived.Test.YtpfopidmdnkkeaaChecked
import GoSem.Claim
import GoSem.ClaimJoined
import GoSem.ClaimMapViews
import Derived.JoinedTies
import Derived.KernelRfl
namespace Go.Proofs.Ytpfopidmdnkkeaa
/- THE CELL 'sum', in the pinned program and in every row, IS THE sha256 OF THE DUMP (.gsa) THAT YtpfopidmdnkkeaaProg.lean LOADS. Nothing in Lean hashes anything: it is a label: what it is worth is what the hold of that sum in a sandbox is worth. -/
noncomputable def Try.pinned : Pinned := { name := "ytpfopidmdnkkeaa", sum := "a14f708b5e224638941fdeb8a511c446fe1001277b8e89cfc28a385d398df8ae", checked := Try.checked }
namespace Rows
def none {H : Type} : Left H := { results := [], args := [] }

/-- 'scriptinglaw30.CleanupNone': WHATEVER THE INPUT: true; the input reads as it did. -/
def cleanupNoneSpec : ChangeSpec := { name := "cleanupNone", fn := fun _ => fun
  | [d1, d2] => { results := [.lit (.bool true)], args := [d1, d2] }
  | _ => none }
def cleanupNoneRow : OpenClaim := { program := "ytpfopidmdnkkeaa", sum := "a14f708b5e224638941fdeb8a511c446fe1001277b8e89cfc28a385d398df8ae", func := "scripting/scriptinglaw30.CleanupNone", spec := "cleanupNone", apart := false }
def CleanupNoneSaid : Prop := cleanupNoneRow.holds Try.pinned (OpenSpec.ofChange cleanupNoneSpec)

/-- ITS FALSE NEIGHBOUR: 'it returns false'. Refute it at one input. -/
def cleanupNoneWrong : ChangeSpec := { name := "cleanupNone", fn := fun _ => fun
  | [d1, d2] => { results := [.lit (.bool false)], args := [d1, d2] }
  | _ => none }
def CleanupNoneWrongFalsely : Prop := cleanupNoneRow.holds Try.pinned (OpenSpec.ofChange cleanupNoneWrong)

/-- 'scriptinglaw30.CleanupRuns': WHATEVER THE INPUT: true; the input reads as it did. -/
def cleanupRunsSpec : ChangeSpec := { name := "cleanupRuns", fn := fun _ => fun
  | [d] => { results := [.lit (.bool true)], args := [d] }
  | _ => none }
def cleanupRunsRow : OpenClaim := { program := "ytpfopidmdnkkeaa", sum := "a14f708b5e224638941fdeb8a511c446fe1001277b8e89cfc28a385d398df8ae", func := "scripting/scriptinglaw30.CleanupRuns", spec := "cleanupRuns", apart := false }
def CleanupRunsSaid : Prop := cleanupRunsRow.holds Try.pinned (OpenSpec.ofChange cleanupRunsSpec)

/-- ITS FALSE NEIGHBOUR: 'it returns false'. Refute it at one input. -/
def cleanupRunsWrong : ChangeSpec := { name := "cleanupRuns", fn := fun _ => fun
  | [d] => { results := [.lit (.bool false)], args := [d] }
  | _ => none }
def CleanupRunsWrongFalsely : Prop := cleanupRunsRow.holds Try.pinned (OpenSpec.ofChange cleanupRunsWrong)

/-- 'scriptinglaw30.CleanupOnce': WHATEVER THE INPUT: true; the input reads as it did. -/
def cleanupOnceSpec : ChangeSpec := { name := "cleanupOnce", fn := fun _ => fun
  | [d1, d2] => { results := [.lit (.bool true)], args := [d1, d2] }
  | _ => none }
def cleanupOnceRow : OpenClaim := { program := "ytpfopidmdnkkeaa", sum := "a14f708b5e224638941fdeb8a511c446fe1001277b8e89cfc28a385d398df8ae", func := "scripting/scriptinglaw30.CleanupOnce", spec := "cleanupOnce", apart := false }
def CleanupOnceSaid : Prop := cleanupOnceRow.holds Try.pinned (OpenSpec.ofChange cleanupOnceSpec)

/-- ITS FALSE NEIGHBOUR: 'it returns false'. Refute it at one input. -/
def cleanupOnceWrong : ChangeSpec := { name := "cleanupOnce", fn := fun _ => fun
  | [d1, d2] => { results := [.lit (.bool false)], args := [d1, d2] }
  | _ => none }
def CleanupOnceWrongFalsely : Prop := cleanupOnceRow.holds Try.pinned (OpenSpec.ofChange cleanupOnceWrong)

/-- 'scriptinglaw30.CleanupInverse': WHATEVER THE INPUT: true; the input reads as it did. -/
def cleanupInverseSpec : ChangeSpec := { name := "cleanupInverse", fn := fun _ => fun
  | [d1, d2, d3] => { results := [.lit (.bool true)], args := [d1, d2, d3] }
  | _ => none }
def cleanupInverseRow : OpenClaim := { program := "ytpfopidmdnkkeaa", sum := "a14f708b5e224638941fdeb8a511c446fe1001277b8e89cfc28a385d398df8ae", func := "scripting/scriptinglaw30.CleanupInverse", spec := "cleanupInverse", apart := false }
def CleanupInverseSaid : Prop := cleanupInverseRow.holds Try.pinned (OpenSpec.ofChange cleanupInverseSpec)

/-- ITS FALSE NEIGHBOUR: 'it returns false'. Refute it at one input. -/
def cleanupInverseWrong : ChangeSpec := { name := "cleanupInverse", fn := fun _ => fun
  | [d1, d2, d3] => { results := [.lit (.bool false)], args := [d1, d2, d3] }
  | _ => none }
def CleanupInverseWrongFalsely : Prop := cleanupInverseRow.holds Try.pinned (OpenSpec.ofChange cleanupInverseWrong)

/-- 'scriptinglaw30.CleanupErrors': WHATEVER THE INPUT: true; the input reads as it did. -/
def cleanupErrorsSpec : ChangeSpec := { name := "cleanupErrors", fn := fun _ => fun
  | [d1, d2, d3] => { results := [.lit (.bool true)], args := [d1, d2, d3] }
  | _ => none }
def cleanupErrorsRow : OpenClaim := { program := "ytpfopidmdnkkeaa", sum := "a14f708b5e224638941fdeb8a511c446fe1001277b8e89cfc28a385d398df8ae", func := "scripting/scriptinglaw30.CleanupErrors", spec := "cleanupErrors", apart := false }
def CleanupErrorsSaid : Prop := cleanupErrorsRow.holds Try.pinned (OpenSpec.ofChange cleanupErrorsSpec)

/-- ITS FALSE NEIGHBOUR: 'it returns false'. Refute it at one input. -/
def cleanupErrorsWrong : ChangeSpec := { name := "cleanupErrors", fn := fun _ => fun
  | [d1, d2, d3] => { results := [.lit (.bool false)], args := [d1, d2, d3] }
  | _ => none }
def CleanupErrorsWrongFalsely : Prop := cleanupErrorsRow.holds Try.pinned (OpenSpec.ofChange cleanupErrorsWrong)

/-- 'scriptinglaw30.CleanupOwn': WHATEVER THE INPUT: true; the input reads as it did. -/
def cleanupOwnSpec : ChangeSpec := { name := "cleanupOwn", fn := fun _ => fun
  | [d1, d2] => { results := [.lit (.bool true)], args := [d1, d2] }
  | _ => none }
def cleanupOwnRow : OpenClaim := { program := "ytpfopidmdnkkeaa", sum := "a14f708b5e224638941fdeb8a511c446fe1001277b8e89cfc28a385d398df8ae", func := "scripting/scriptinglaw30.CleanupOwn", spec := "cleanupOwn", apart := false }
def CleanupOwnSaid : Prop := cleanupOwnRow.holds Try.pinned (OpenSpec.ofChange cleanupOwnSpec)

/-- ITS FALSE NEIGHBOUR: 'it returns false'. Refute it at one input. -/
def cleanupOwnWrong : ChangeSpec := { name := "cleanupOwn", fn := fun _ => fun
  | [d1, d2] => { results := [.lit (.bool false)], args := [d1, d2] }
  | _ => none }
def CleanupOwnWrongFalsely : Prop := cleanupOwnRow.holds Try.pinned (OpenSpec.ofChange cleanupOwnWrong)

/-- 'scriptinglaw30.CleanupBlocks': WHATEVER THE INPUT: true; the input reads as it did. -/
def cleanupBlocksSpec : ChangeSpec := { name := "cleanupBlocks", fn := fun _ => fun
  | [d1, d2] => { results := [.lit (.bool true)], args := [d1, d2] }
  | _ => none }
def cleanupBlocksRow : OpenClaim := { program := "ytpfopidmdnkkeaa", sum := "a14f708b5e224638941fdeb8a511c446fe1001277b8e89cfc28a385d398df8ae", func := "scripting/scriptinglaw30.CleanupBlocks", spec := "cleanupBlocks", apart := false }
def CleanupBlocksSaid : Prop := cleanupBlocksRow.holds Try.pinned (OpenSpec.ofChange cleanupBlocksSpec)

/-- ITS FALSE NEIGHBOUR: 'it returns false'. Refute it at one input. -/
def cleanupBlocksWrong : ChangeSpec := { name := "cleanupBlocks", fn := fun _ => fun
  | [d1, d2] => { results := [.lit (.bool false)], args := [d1, d2] }
  | _ => none }
def CleanupBlocksWrongFalsely : Prop := cleanupBlocksRow.holds Try.pinned (OpenSpec.ofChange cleanupBlocksWrong)

/- THE SECOND FORM. 'bulk': how many values and letters a reading holds, each counted each time it is reached (what is shared counts as often as it is met; a slice's spare places count too). A statement '..UptoSaid' is the law's where the arguments, and the package variables that the reading takes, are together of bulk at most 1048576: NARROWER than '..Said'. Prove '..Said' where nothing that the law and all that it calls make is longer than what came in: it says more and counts as full. Else prove '..UptoSaid'. A law counts once. -/
mutual
def uptoBulk {H : Type} : DataW H → Nat
  | .lit (.string bytes) => bytes.length + 1
  | .lit _ => 1
  | .nil => 1
  | .ptr d => uptoBulk d + 1
  | .slice elems spare => uptoBulkAll elems + uptoBulkAll spare + 1
  | .agg parts => uptoBulkAll parts + 1
  | .iface _ d => uptoBulk d + 1
  | .map entries => uptoBulkEntries entries + 1
  | .held _ => 1
def uptoBulkAll {H : Type} : List (DataW H) → Nat
  | [] => 0
  | d :: r => uptoBulk d + uptoBulkAll r
def uptoBulkEntries {H : Type} : List (Lit × DataW H) → Nat
  | [] => 0
  | x :: r => uptoBulkEntry x + uptoBulkEntries r
def uptoBulkEntry {H : Type} : Lit × DataW H → Nat
  | (.string bytes, d) => bytes.length + uptoBulk d + 1
  | (_, d) => uptoBulk d + 1
 end
def uptoSmall : (H : Type) → List (DataW H) → Bool := fun _ ds => decide (uptoBulkAll ds ≤ 1048576)
def OpenSpec.upto (s : _root_.Go.ChangeSpec) : _root_.Go.OpenSpec := { _root_.Go.OpenSpec.ofChange s with cond := some uptoSmall }

/-- 'scriptinglaw30.CleanupNone', WHERE WHAT IT READS IS OF BULK AT MOST 1048576: true; the input reads as it did. -/
def cleanupNoneUptoRow : OpenClaim := { program := "ytpfopidmdnkkeaa", sum := "a14f708b5e224638941fdeb8a511c446fe1001277b8e89cfc28a385d398df8ae", func := "scripting/scriptinglaw30.CleanupNone", spec := "cleanupNone", apart := false, narrowed := true }
def CleanupNoneUptoSaid : Prop := cleanupNoneUptoRow.holds Try.pinned (OpenSpec.upto cleanupNoneSpec)

/-- 'scriptinglaw30.CleanupRuns', WHERE WHAT IT READS IS OF BULK AT MOST 1048576: true; the input reads as it did. -/
def cleanupRunsUptoRow : OpenClaim := { program := "ytpfopidmdnkkeaa", sum := "a14f708b5e224638941fdeb8a511c446fe1001277b8e89cfc28a385d398df8ae", func := "scripting/scriptinglaw30.CleanupRuns", spec := "cleanupRuns", apart := false, narrowed := true }
def CleanupRunsUptoSaid : Prop := cleanupRunsUptoRow.holds Try.pinned (OpenSpec.upto cleanupRunsSpec)

/-- 'scriptinglaw30.CleanupOnce', WHERE WHAT IT READS IS OF BULK AT MOST 1048576: true; the input reads as it did. -/
def cleanupOnceUptoRow : OpenClaim := { program := "ytpfopidmdnkkeaa", sum := "a14f708b5e224638941fdeb8a511c446fe1001277b8e89cfc28a385d398df8ae", func := "scripting/scriptinglaw30.CleanupOnce", spec := "cleanupOnce", apart := false, narrowed := true }
def CleanupOnceUptoSaid : Prop := cleanupOnceUptoRow.holds Try.pinned (OpenSpec.upto cleanupOnceSpec)

/-- 'scriptinglaw30.CleanupInverse', WHERE WHAT IT READS IS OF BULK AT MOST 1048576: true; the input reads as it did. -/
def cleanupInverseUptoRow : OpenClaim := { program := "ytpfopidmdnkkeaa", sum := "a14f708b5e224638941fdeb8a511c446fe1001277b8e89cfc28a385d398df8ae", func := "scripting/scriptinglaw30.CleanupInverse", spec := "cleanupInverse", apart := false, narrowed := true }
def CleanupInverseUptoSaid : Prop := cleanupInverseUptoRow.holds Try.pinned (OpenSpec.upto cleanupInverseSpec)

/-- 'scriptinglaw30.CleanupErrors', WHERE WHAT IT READS IS OF BULK AT MOST 1048576: true; the input reads as it did. -/
def cleanupErrorsUptoRow : OpenClaim := { program := "ytpfopidmdnkkeaa", sum := "a14f708b5e224638941fdeb8a511c446fe1001277b8e89cfc28a385d398df8ae", func := "scripting/scriptinglaw30.CleanupErrors", spec := "cleanupErrors", apart := false, narrowed := true }
def CleanupErrorsUptoSaid : Prop := cleanupErrorsUptoRow.holds Try.pinned (OpenSpec.upto cleanupErrorsSpec)

/-- 'scriptinglaw30.CleanupOwn', WHERE WHAT IT READS IS OF BULK AT MOST 1048576: true; the input reads as it did. -/
def cleanupOwnUptoRow : OpenClaim := { program := "ytpfopidmdnkkeaa", sum := "a14f708b5e224638941fdeb8a511c446fe1001277b8e89cfc28a385d398df8ae", func := "scripting/scriptinglaw30.CleanupOwn", spec := "cleanupOwn", apart := false, narrowed := true }
def CleanupOwnUptoSaid : Prop := cleanupOwnUptoRow.holds Try.pinned (OpenSpec.upto cleanupOwnSpec)

/-- 'scriptinglaw30.CleanupBlocks', WHERE WHAT IT READS IS OF BULK AT MOST 1048576: true; the input reads as it did. -/
def cleanupBlocksUptoRow : OpenClaim := { program := "ytpfopidmdnkkeaa", sum := "a14f708b5e224638941fdeb8a511c446fe1001277b8e89cfc28a385d398df8ae", func := "scripting/scriptinglaw30.CleanupBlocks", spec := "cleanupBlocks", apart := false, narrowed := true }
def CleanupBlocksUptoSaid : Prop := cleanupBlocksUptoRow.holds Try.pinned (OpenSpec.upto cleanupBlocksSpec)

end Rows
end Go.Proofs.Ytpfopidmdnkkeaa
