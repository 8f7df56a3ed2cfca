/-
  No cell of these rows narrows 'for every input' (looked for: loops, veiled, ifaces, maps, wideKeys, modest, calm, conditions, laid).
  DERIVED. THE GIVEN ROWS OF THIS SEAT. 6 by the template 'for every input the law returns true; each argument reads behind the call as it read before'; 0 by the template 'total and deterministic' (their statements: YtkkocoalildgnaaTotals.lean).
  GIVEN WITH THE SEED: the statements are not yours to turn. If you find one false, say at which input.
  Laid BY PROGRAM, IN A SANDBOX (cutbox-rows.mjs): the forced cells as the released guide's own fill.sh prints them over the translation 02624bf31e258875… (all of the seat's roots in one cut). By AI agents, Wed Nov 11 2026. No macro, syntax, notation, axiom, sorry.
-/
import Derived.Test.YtkkocoalildgnaaChecked
import GoSem.Claim
import GoSem.ClaimJoined
import GoSem.ClaimMapViews
import Derived.JoinedTies
import Derived.KernelRfl
namespace Go.Proofs.Ytkkocoalildgnaa
/- THE CELL 'sum', in the pinned program and in every row, IS THE sha256 OF THE DUMP (.gsa) THAT YtkkocoalildgnaaProg.lean LOADS. Nothing in Lean hashes anything: it is a label: what it is worth is what the hold of that sum in a sandbox is worth. -/
noncomputable def Try.pinned : Pinned := { name := "ytkkocoalildgnaa", sum := "02624bf31e2588757e13b994daa65f648dc54e6a5b55c8c6c67e39e35199ec77", checked := Try.checked }
namespace Rows
def none {H : Type} : Left H := { results := [], args := [] }

/-- 'scriptinglaw20.ProtocolChecks': WHATEVER THE INPUT: true; the input reads as it did. -/
def protocolChecksSpec : ChangeSpec := { name := "protocolChecks", fn := fun _ => fun
  | [d] => { results := [.lit (.bool true)], args := [d] }
  | _ => none }
def protocolChecksRow : OpenClaim := { program := "ytkkocoalildgnaa", sum := "02624bf31e2588757e13b994daa65f648dc54e6a5b55c8c6c67e39e35199ec77", func := "scripting/scriptinglaw20.ProtocolChecks", spec := "protocolChecks", unfollowed := true, recurses := true, apart := false }
def ProtocolChecksSaid : Prop := protocolChecksRow.holds Try.pinned (OpenSpec.ofChange protocolChecksSpec)

/-- ITS FALSE NEIGHBOUR: 'it returns false'. Refute it at one input. -/
def protocolChecksWrong : ChangeSpec := { name := "protocolChecks", fn := fun _ => fun
  | [d] => { results := [.lit (.bool false)], args := [d] }
  | _ => none }
def ProtocolChecksWrongFalsely : Prop := protocolChecksRow.holds Try.pinned (OpenSpec.ofChange protocolChecksWrong)

/-- 'scriptinglaw20.ProtocolReturns': WHATEVER THE INPUT: true; the input reads as it did. -/
def protocolReturnsSpec : ChangeSpec := { name := "protocolReturns", fn := fun _ => fun
  | [d1, d2, d3, d4] => { results := [.lit (.bool true)], args := [d1, d2, d3, d4] }
  | _ => none }
def protocolReturnsRow : OpenClaim := { program := "ytkkocoalildgnaa", sum := "02624bf31e2588757e13b994daa65f648dc54e6a5b55c8c6c67e39e35199ec77", func := "scripting/scriptinglaw20.ProtocolReturns", spec := "protocolReturns", unfollowed := true, recurses := true, apart := false }
def ProtocolReturnsSaid : Prop := protocolReturnsRow.holds Try.pinned (OpenSpec.ofChange protocolReturnsSpec)

/-- ITS FALSE NEIGHBOUR: 'it returns false'. Refute it at one input. -/
def protocolReturnsWrong : ChangeSpec := { name := "protocolReturns", fn := fun _ => fun
  | [d1, d2, d3, d4] => { results := [.lit (.bool false)], args := [d1, d2, d3, d4] }
  | _ => none }
def ProtocolReturnsWrongFalsely : Prop := protocolReturnsRow.holds Try.pinned (OpenSpec.ofChange protocolReturnsWrong)

/-- 'scriptinglaw20.ProtocolCalls': WHATEVER THE INPUT: true; the input reads as it did. -/
def protocolCallsSpec : ChangeSpec := { name := "protocolCalls", fn := fun _ => fun
  | [d1, d2, d3, d4] => { results := [.lit (.bool true)], args := [d1, d2, d3, d4] }
  | _ => none }
def protocolCallsRow : OpenClaim := { program := "ytkkocoalildgnaa", sum := "02624bf31e2588757e13b994daa65f648dc54e6a5b55c8c6c67e39e35199ec77", func := "scripting/scriptinglaw20.ProtocolCalls", spec := "protocolCalls", unfollowed := true, recurses := true, apart := false }
def ProtocolCallsSaid : Prop := protocolCallsRow.holds Try.pinned (OpenSpec.ofChange protocolCallsSpec)

/-- ITS FALSE NEIGHBOUR: 'it returns false'. Refute it at one input. -/
def protocolCallsWrong : ChangeSpec := { name := "protocolCalls", fn := fun _ => fun
  | [d1, d2, d3, d4] => { results := [.lit (.bool false)], args := [d1, d2, d3, d4] }
  | _ => none }
def ProtocolCallsWrongFalsely : Prop := protocolCallsRow.holds Try.pinned (OpenSpec.ofChange protocolCallsWrong)

/-- 'scriptinglaw20.ProtocolCompares': WHATEVER THE INPUT: true; the input reads as it did. -/
def protocolComparesSpec : ChangeSpec := { name := "protocolCompares", fn := fun _ => fun
  | [d1, d2, d3] => { results := [.lit (.bool true)], args := [d1, d2, d3] }
  | _ => none }
def protocolComparesRow : OpenClaim := { program := "ytkkocoalildgnaa", sum := "02624bf31e2588757e13b994daa65f648dc54e6a5b55c8c6c67e39e35199ec77", func := "scripting/scriptinglaw20.ProtocolCompares", spec := "protocolCompares", unfollowed := true, recurses := true, apart := false }
def ProtocolComparesSaid : Prop := protocolComparesRow.holds Try.pinned (OpenSpec.ofChange protocolComparesSpec)

/-- ITS FALSE NEIGHBOUR: 'it returns false'. Refute it at one input. -/
def protocolComparesWrong : ChangeSpec := { name := "protocolCompares", fn := fun _ => fun
  | [d1, d2, d3] => { results := [.lit (.bool false)], args := [d1, d2, d3] }
  | _ => none }
def ProtocolComparesWrongFalsely : Prop := protocolComparesRow.holds Try.pinned (OpenSpec.ofChange protocolComparesWrong)

/-- 'scriptinglaw20.ProtocolValid': WHATEVER THE INPUT: true; the input reads as it did. -/
def protocolValidSpec : ChangeSpec := { name := "protocolValid", fn := fun _ => fun
  | [d1, d2, d3, d4] => { results := [.lit (.bool true)], args := [d1, d2, d3, d4] }
  | _ => none }
def protocolValidRow : OpenClaim := { program := "ytkkocoalildgnaa", sum := "02624bf31e2588757e13b994daa65f648dc54e6a5b55c8c6c67e39e35199ec77", func := "scripting/scriptinglaw20.ProtocolValid", spec := "protocolValid", unfollowed := true, recurses := true, apart := false }
def ProtocolValidSaid : Prop := protocolValidRow.holds Try.pinned (OpenSpec.ofChange protocolValidSpec)

/-- ITS FALSE NEIGHBOUR: 'it returns false'. Refute it at one input. -/
def protocolValidWrong : ChangeSpec := { name := "protocolValid", fn := fun _ => fun
  | [d1, d2, d3, d4] => { results := [.lit (.bool false)], args := [d1, d2, d3, d4] }
  | _ => none }
def ProtocolValidWrongFalsely : Prop := protocolValidRow.holds Try.pinned (OpenSpec.ofChange protocolValidWrong)

/-- 'scriptinglaw20.ProtocolNeeds': WHATEVER THE INPUT: true; the input reads as it did. -/
def protocolNeedsSpec : ChangeSpec := { name := "protocolNeeds", fn := fun _ => fun
  | [d1, d2, d3] => { results := [.lit (.bool true)], args := [d1, d2, d3] }
  | _ => none }
def protocolNeedsRow : OpenClaim := { program := "ytkkocoalildgnaa", sum := "02624bf31e2588757e13b994daa65f648dc54e6a5b55c8c6c67e39e35199ec77", func := "scripting/scriptinglaw20.ProtocolNeeds", spec := "protocolNeeds", unfollowed := true, recurses := true, apart := false }
def ProtocolNeedsSaid : Prop := protocolNeedsRow.holds Try.pinned (OpenSpec.ofChange protocolNeedsSpec)

/-- ITS FALSE NEIGHBOUR: 'it returns false'. Refute it at one input. -/
def protocolNeedsWrong : ChangeSpec := { name := "protocolNeeds", fn := fun _ => fun
  | [d1, d2, d3] => { results := [.lit (.bool false)], args := [d1, d2, d3] }
  | _ => none }
def ProtocolNeedsWrongFalsely : Prop := protocolNeedsRow.holds Try.pinned (OpenSpec.ofChange protocolNeedsWrong)

/- THE SECOND FORM. 'bulk': how many values and letters a reading holds, each counted each time it is reached (what is shared counts as often as it is met; a slice's spare places count too). A statement '..UptoSaid' is the law's where the arguments, and the package variables that the reading takes, are together of bulk at most 1048576: NARROWER than '..Said'. Prove '..Said' where nothing that the law and all that it calls make is longer than what came in: it says more and counts as full. Else prove '..UptoSaid'. A law counts once. -/
mutual
def uptoBulk {H : Type} : DataW H → Nat
  | .lit (.string bytes) => bytes.length + 1
  | .lit _ => 1
  | .nil => 1
  | .ptr d => uptoBulk d + 1
  | .slice elems spare => uptoBulkAll elems + uptoBulkAll spare + 1
  | .agg parts => uptoBulkAll parts + 1
  | .iface _ d => uptoBulk d + 1
  | .map entries => uptoBulkEntries entries + 1
  | .held _ => 1
def uptoBulkAll {H : Type} : List (DataW H) → Nat
  | [] => 0
  | d :: r => uptoBulk d + uptoBulkAll r
def uptoBulkEntries {H : Type} : List (Lit × DataW H) → Nat
  | [] => 0
  | x :: r => uptoBulkEntry x + uptoBulkEntries r
def uptoBulkEntry {H : Type} : Lit × DataW H → Nat
  | (.string bytes, d) => bytes.length + uptoBulk d + 1
  | (_, d) => uptoBulk d + 1
 end
def uptoSmall : (H : Type) → List (DataW H) → Bool := fun _ ds => decide (uptoBulkAll ds ≤ 1048576)
def OpenSpec.upto (s : _root_.Go.ChangeSpec) : _root_.Go.OpenSpec := { _root_.Go.OpenSpec.ofChange s with cond := some uptoSmall }

/-- 'scriptinglaw20.ProtocolChecks', WHERE WHAT IT READS IS OF BULK AT MOST 1048576: true; the input reads as it did. -/
def protocolChecksUptoRow : OpenClaim := { program := "ytkkocoalildgnaa", sum := "02624bf31e2588757e13b994daa65f648dc54e6a5b55c8c6c67e39e35199ec77", func := "scripting/scriptinglaw20.ProtocolChecks", spec := "protocolChecks", unfollowed := true, recurses := true, apart := false, narrowed := true }
def ProtocolChecksUptoSaid : Prop := protocolChecksUptoRow.holds Try.pinned (OpenSpec.upto protocolChecksSpec)

/-- 'scriptinglaw20.ProtocolReturns', WHERE WHAT IT READS IS OF BULK AT MOST 1048576: true; the input reads as it did. -/
def protocolReturnsUptoRow : OpenClaim := { program := "ytkkocoalildgnaa", sum := "02624bf31e2588757e13b994daa65f648dc54e6a5b55c8c6c67e39e35199ec77", func := "scripting/scriptinglaw20.ProtocolReturns", spec := "protocolReturns", unfollowed := true, recurses := true, apart := false, narrowed := true }
def ProtocolReturnsUptoSaid : Prop := protocolReturnsUptoRow.holds Try.pinned (OpenSpec.upto protocolReturnsSpec)

/-- 'scriptinglaw20.ProtocolCalls', WHERE WHAT IT READS IS OF BULK AT MOST 1048576: true; the input reads as it did. -/
def protocolCallsUptoRow : OpenClaim := { program := "ytkkocoalildgnaa", sum := "02624bf31e2588757e13b994daa65f648dc54e6a5b55c8c6c67e39e35199ec77", func := "scripting/scriptinglaw20.ProtocolCalls", spec := "protocolCalls", unfollowed := true, recurses := true, apart := false, narrowed := true }
def ProtocolCallsUptoSaid : Prop := protocolCallsUptoRow.holds Try.pinned (OpenSpec.upto protocolCallsSpec)

/-- 'scriptinglaw20.ProtocolCompares', WHERE WHAT IT READS IS OF BULK AT MOST 1048576: true; the input reads as it did. -/
def protocolComparesUptoRow : OpenClaim := { program := "ytkkocoalildgnaa", sum := "02624bf31e2588757e13b994daa65f648dc54e6a5b55c8c6c67e39e35199ec77", func := "scripting/scriptinglaw20.ProtocolCompares", spec := "protocolCompares", unfollowed := true, recurses := true, apart := false, narrowed := true }
def ProtocolComparesUptoSaid : Prop := protocolComparesUptoRow.holds Try.pinned (OpenSpec.upto protocolComparesSpec)

/-- 'scriptinglaw20.ProtocolValid', WHERE WHAT IT READS IS OF BULK AT MOST 1048576: true; the input reads as it did. -/
def protocolValidUptoRow : OpenClaim := { program := "ytkkocoalildgnaa", sum := "02624bf31e2588757e13b994daa65f648dc54e6a5b55c8c6c67e39e35199ec77", func := "scripting/scriptinglaw20.ProtocolValid", spec := "protocolValid", unfollowed := true, recurses := true, apart := false, narrowed := true }
def ProtocolValidUptoSaid : Prop := protocolValidUptoRow.holds Try.pinned (OpenSpec.upto protocolValidSpec)

/-- 'scriptinglaw20.ProtocolNeeds', WHERE WHAT IT READS IS OF BULK AT MOST 1048576: true; the input reads as it did. -/
def protocolNeedsUptoRow : OpenClaim := { program := "ytkkocoalildgnaa", sum := "02624bf31e2588757e13b994daa65f648dc54e6a5b55c8c6c67e39e35199ec77", func := "scripting/scriptinglaw20.ProtocolNeeds", spec := "protocolNeeds", unfollowed := true, recurses := true, apart := false, narrowed := true }
def ProtocolNeedsUptoSaid : Prop := protocolNeedsUptoRow.holds Try.pinned (OpenSpec.upto protocolNeedsSpec)

end Rows
end Go.Proofs.Ytkkocoalildgnaa
