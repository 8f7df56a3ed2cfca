/-
  No cell of these rows narrows 'for every input' (looked for: loops, veiled, ifaces, maps, wideKeys, modest, calm, conditions, laid).
  DERIVED. THE GIVEN ROWS OF THIS SEAT. 7 by the template 'for every input the law returns true; each argument reads behind the call as it read before'; 0 by the template 'total and deterministic' (their statements: YtabodabfiklbnaaTotals.lean).
  GIVEN WITH THE SEED: the statements are not yours to turn. If you find one false, say at which input.
  Laid BY PROGRAM, IN A SANDBOX (cutbox-rows.mjs): the forced cells as the released guide's own fill.sh prints them over the translation 43b3e6f09636a32d… (all of the seat's roots in one cut). By AI agents, Wed Nov 11 2026. No macro, syntax, notation, axiom, sorry.
-/
import Derived.Test.YtabodabfiklbnaaChecked
import GoSem.Claim
import GoSem.ClaimJoined
import GoSem.ClaimMapViews
import Derived.JoinedTies
import Derived.KernelRfl
namespace Go.Proofs.Ytabodabfiklbnaa
/- THE CELL 'sum', in the pinned program and in every row, IS THE sha256 OF THE DUMP (.gsa) THAT YtabodabfiklbnaaProg.lean LOADS. Nothing in Lean hashes anything: it is a label: what it is worth is what the hold of that sum in a sandbox is worth. -/
noncomputable def Try.pinned : Pinned := { name := "ytabodabfiklbnaa", sum := "43b3e6f09636a32d3f8de4bdef1140ea2603ceb1e51f23b43be03bf408e9815d", checked := Try.checked }
namespace Rows
def none {H : Type} : Left H := { results := [], args := [] }

/-- 'scriptinglaw12.OrderedDrops': WHATEVER THE INPUT: true; the input reads as it did. -/
def orderedDropsSpec : ChangeSpec := { name := "orderedDrops", fn := fun _ => fun
  | [d] => { results := [.lit (.bool true)], args := [d] }
  | _ => none }
def orderedDropsRow : OpenClaim := { program := "ytabodabfiklbnaa", sum := "43b3e6f09636a32d3f8de4bdef1140ea2603ceb1e51f23b43be03bf408e9815d", func := "scripting/scriptinglaw12.OrderedDrops", spec := "orderedDrops", plainKeys := false, apart := false }
def OrderedDropsSaid : Prop := orderedDropsRow.holds Try.pinned (OpenSpec.ofChange orderedDropsSpec)

/-- ITS FALSE NEIGHBOUR: 'it returns false'. Refute it at one input. -/
def orderedDropsWrong : ChangeSpec := { name := "orderedDrops", fn := fun _ => fun
  | [d] => { results := [.lit (.bool false)], args := [d] }
  | _ => none }
def OrderedDropsWrongFalsely : Prop := orderedDropsRow.holds Try.pinned (OpenSpec.ofChange orderedDropsWrong)

/-- 'scriptinglaw12.OrderedRemoves': WHATEVER THE INPUT: true; the input reads as it did. -/
def orderedRemovesSpec : ChangeSpec := { name := "orderedRemoves", fn := fun _ => fun
  | [d1, d2] => { results := [.lit (.bool true)], args := [d1, d2] }
  | _ => none }
def orderedRemovesRow : OpenClaim := { program := "ytabodabfiklbnaa", sum := "43b3e6f09636a32d3f8de4bdef1140ea2603ceb1e51f23b43be03bf408e9815d", func := "scripting/scriptinglaw12.OrderedRemoves", spec := "orderedRemoves", plainKeys := false, apart := false }
def OrderedRemovesSaid : Prop := orderedRemovesRow.holds Try.pinned (OpenSpec.ofChange orderedRemovesSpec)

/-- ITS FALSE NEIGHBOUR: 'it returns false'. Refute it at one input. -/
def orderedRemovesWrong : ChangeSpec := { name := "orderedRemoves", fn := fun _ => fun
  | [d1, d2] => { results := [.lit (.bool false)], args := [d1, d2] }
  | _ => none }
def OrderedRemovesWrongFalsely : Prop := orderedRemovesRow.holds Try.pinned (OpenSpec.ofChange orderedRemovesWrong)

/-- 'scriptinglaw12.OrderedSets': WHATEVER THE INPUT: true; the input reads as it did. -/
def orderedSetsSpec : ChangeSpec := { name := "orderedSets", fn := fun _ => fun
  | [d1, d2, d3, d4] => { results := [.lit (.bool true)], args := [d1, d2, d3, d4] }
  | _ => none }
def orderedSetsRow : OpenClaim := { program := "ytabodabfiklbnaa", sum := "43b3e6f09636a32d3f8de4bdef1140ea2603ceb1e51f23b43be03bf408e9815d", func := "scripting/scriptinglaw12.OrderedSets", spec := "orderedSets", plainKeys := false, apart := false }
def OrderedSetsSaid : Prop := orderedSetsRow.holds Try.pinned (OpenSpec.ofChange orderedSetsSpec)

/-- ITS FALSE NEIGHBOUR: 'it returns false'. Refute it at one input. -/
def orderedSetsWrong : ChangeSpec := { name := "orderedSets", fn := fun _ => fun
  | [d1, d2, d3, d4] => { results := [.lit (.bool false)], args := [d1, d2, d3, d4] }
  | _ => none }
def OrderedSetsWrongFalsely : Prop := orderedSetsRow.holds Try.pinned (OpenSpec.ofChange orderedSetsWrong)

/-- 'scriptinglaw12.OrderedPlays': WHATEVER THE INPUT: true; the input reads as it did. -/
def orderedPlaysSpec : ChangeSpec := { name := "orderedPlays", fn := fun _ => fun
  | [d] => { results := [.lit (.bool true)], args := [d] }
  | _ => none }
def orderedPlaysRow : OpenClaim := { program := "ytabodabfiklbnaa", sum := "43b3e6f09636a32d3f8de4bdef1140ea2603ceb1e51f23b43be03bf408e9815d", func := "scripting/scriptinglaw12.OrderedPlays", spec := "orderedPlays", plainKeys := false, apart := false }
def OrderedPlaysSaid : Prop := orderedPlaysRow.holds Try.pinned (OpenSpec.ofChange orderedPlaysSpec)

/-- ITS FALSE NEIGHBOUR: 'it returns false'. Refute it at one input. -/
def orderedPlaysWrong : ChangeSpec := { name := "orderedPlays", fn := fun _ => fun
  | [d] => { results := [.lit (.bool false)], args := [d] }
  | _ => none }
def OrderedPlaysWrongFalsely : Prop := orderedPlaysRow.holds Try.pinned (OpenSpec.ofChange orderedPlaysWrong)

/-- 'scriptinglaw12.OrderedNext': WHATEVER THE INPUT: true; the input reads as it did. -/
def orderedNextSpec : ChangeSpec := { name := "orderedNext", fn := fun _ => fun
  | [d] => { results := [.lit (.bool true)], args := [d] }
  | _ => none }
def orderedNextRow : OpenClaim := { program := "ytabodabfiklbnaa", sum := "43b3e6f09636a32d3f8de4bdef1140ea2603ceb1e51f23b43be03bf408e9815d", func := "scripting/scriptinglaw12.OrderedNext", spec := "orderedNext", plainKeys := false, apart := false }
def OrderedNextSaid : Prop := orderedNextRow.holds Try.pinned (OpenSpec.ofChange orderedNextSpec)

/-- ITS FALSE NEIGHBOUR: 'it returns false'. Refute it at one input. -/
def orderedNextWrong : ChangeSpec := { name := "orderedNext", fn := fun _ => fun
  | [d] => { results := [.lit (.bool false)], args := [d] }
  | _ => none }
def OrderedNextWrongFalsely : Prop := orderedNextRow.holds Try.pinned (OpenSpec.ofChange orderedNextWrong)

/-- 'scriptinglaw12.OrderedNil': WHATEVER THE INPUT: true; the input reads as it did. -/
def orderedNilSpec : ChangeSpec := { name := "orderedNil", fn := fun _ => fun
  | [d1, d2] => { results := [.lit (.bool true)], args := [d1, d2] }
  | _ => none }
def orderedNilRow : OpenClaim := { program := "ytabodabfiklbnaa", sum := "43b3e6f09636a32d3f8de4bdef1140ea2603ceb1e51f23b43be03bf408e9815d", func := "scripting/scriptinglaw12.OrderedNil", spec := "orderedNil", plainKeys := false, apart := false }
def OrderedNilSaid : Prop := orderedNilRow.holds Try.pinned (OpenSpec.ofChange orderedNilSpec)

/-- ITS FALSE NEIGHBOUR: 'it returns false'. Refute it at one input. -/
def orderedNilWrong : ChangeSpec := { name := "orderedNil", fn := fun _ => fun
  | [d1, d2] => { results := [.lit (.bool false)], args := [d1, d2] }
  | _ => none }
def OrderedNilWrongFalsely : Prop := orderedNilRow.holds Try.pinned (OpenSpec.ofChange orderedNilWrong)

/-- 'scriptinglaw12.OrderedApart': WHATEVER THE INPUT: true; the input reads as it did. -/
def orderedApartSpec : ChangeSpec := { name := "orderedApart", fn := fun _ => fun
  | [d1, d2] => { results := [.lit (.bool true)], args := [d1, d2] }
  | _ => none }
def orderedApartRow : OpenClaim := { program := "ytabodabfiklbnaa", sum := "43b3e6f09636a32d3f8de4bdef1140ea2603ceb1e51f23b43be03bf408e9815d", func := "scripting/scriptinglaw12.OrderedApart", spec := "orderedApart", plainKeys := false, apart := false }
def OrderedApartSaid : Prop := orderedApartRow.holds Try.pinned (OpenSpec.ofChange orderedApartSpec)

/-- ITS FALSE NEIGHBOUR: 'it returns false'. Refute it at one input. -/
def orderedApartWrong : ChangeSpec := { name := "orderedApart", fn := fun _ => fun
  | [d1, d2] => { results := [.lit (.bool false)], args := [d1, d2] }
  | _ => none }
def OrderedApartWrongFalsely : Prop := orderedApartRow.holds Try.pinned (OpenSpec.ofChange orderedApartWrong)

/- THE SECOND FORM. 'bulk': how many values and letters a reading holds, each counted each time it is reached (what is shared counts as often as it is met; a slice's spare places count too). A statement '..UptoSaid' is the law's where the arguments, and the package variables that the reading takes, are together of bulk at most 1048576: NARROWER than '..Said'. Prove '..Said' where nothing that the law and all that it calls make is longer than what came in: it says more and counts as full. Else prove '..UptoSaid'. A law counts once. -/
mutual
def uptoBulk {H : Type} : DataW H → Nat
  | .lit (.string bytes) => bytes.length + 1
  | .lit _ => 1
  | .nil => 1
  | .ptr d => uptoBulk d + 1
  | .slice elems spare => uptoBulkAll elems + uptoBulkAll spare + 1
  | .agg parts => uptoBulkAll parts + 1
  | .iface _ d => uptoBulk d + 1
  | .map entries => uptoBulkEntries entries + 1
  | .held _ => 1
def uptoBulkAll {H : Type} : List (DataW H) → Nat
  | [] => 0
  | d :: r => uptoBulk d + uptoBulkAll r
def uptoBulkEntries {H : Type} : List (Lit × DataW H) → Nat
  | [] => 0
  | x :: r => uptoBulkEntry x + uptoBulkEntries r
def uptoBulkEntry {H : Type} : Lit × DataW H → Nat
  | (.string bytes, d) => bytes.length + uptoBulk d + 1
  | (_, d) => uptoBulk d + 1
 end
def uptoSmall : (H : Type) → List (DataW H) → Bool := fun _ ds => decide (uptoBulkAll ds ≤ 1048576)
def OpenSpec.upto (s : _root_.Go.ChangeSpec) : _root_.Go.OpenSpec := { _root_.Go.OpenSpec.ofChange s with cond := some uptoSmall }

/-- 'scriptinglaw12.OrderedDrops', WHERE WHAT IT READS IS OF BULK AT MOST 1048576: true; the input reads as it did. -/
def orderedDropsUptoRow : OpenClaim := { program := "ytabodabfiklbnaa", sum := "43b3e6f09636a32d3f8de4bdef1140ea2603ceb1e51f23b43be03bf408e9815d", func := "scripting/scriptinglaw12.OrderedDrops", spec := "orderedDrops", plainKeys := false, apart := false, narrowed := true }
def OrderedDropsUptoSaid : Prop := orderedDropsUptoRow.holds Try.pinned (OpenSpec.upto orderedDropsSpec)

/-- 'scriptinglaw12.OrderedRemoves', WHERE WHAT IT READS IS OF BULK AT MOST 1048576: true; the input reads as it did. -/
def orderedRemovesUptoRow : OpenClaim := { program := "ytabodabfiklbnaa", sum := "43b3e6f09636a32d3f8de4bdef1140ea2603ceb1e51f23b43be03bf408e9815d", func := "scripting/scriptinglaw12.OrderedRemoves", spec := "orderedRemoves", plainKeys := false, apart := false, narrowed := true }
def OrderedRemovesUptoSaid : Prop := orderedRemovesUptoRow.holds Try.pinned (OpenSpec.upto orderedRemovesSpec)

/-- 'scriptinglaw12.OrderedSets', WHERE WHAT IT READS IS OF BULK AT MOST 1048576: true; the input reads as it did. -/
def orderedSetsUptoRow : OpenClaim := { program := "ytabodabfiklbnaa", sum := "43b3e6f09636a32d3f8de4bdef1140ea2603ceb1e51f23b43be03bf408e9815d", func := "scripting/scriptinglaw12.OrderedSets", spec := "orderedSets", plainKeys := false, apart := false, narrowed := true }
def OrderedSetsUptoSaid : Prop := orderedSetsUptoRow.holds Try.pinned (OpenSpec.upto orderedSetsSpec)

/-- 'scriptinglaw12.OrderedPlays', WHERE WHAT IT READS IS OF BULK AT MOST 1048576: true; the input reads as it did. -/
def orderedPlaysUptoRow : OpenClaim := { program := "ytabodabfiklbnaa", sum := "43b3e6f09636a32d3f8de4bdef1140ea2603ceb1e51f23b43be03bf408e9815d", func := "scripting/scriptinglaw12.OrderedPlays", spec := "orderedPlays", plainKeys := false, apart := false, narrowed := true }
def OrderedPlaysUptoSaid : Prop := orderedPlaysUptoRow.holds Try.pinned (OpenSpec.upto orderedPlaysSpec)

/-- 'scriptinglaw12.OrderedNext', WHERE WHAT IT READS IS OF BULK AT MOST 1048576: true; the input reads as it did. -/
def orderedNextUptoRow : OpenClaim := { program := "ytabodabfiklbnaa", sum := "43b3e6f09636a32d3f8de4bdef1140ea2603ceb1e51f23b43be03bf408e9815d", func := "scripting/scriptinglaw12.OrderedNext", spec := "orderedNext", plainKeys := false, apart := false, narrowed := true }
def OrderedNextUptoSaid : Prop := orderedNextUptoRow.holds Try.pinned (OpenSpec.upto orderedNextSpec)

/-- 'scriptinglaw12.OrderedNil', WHERE WHAT IT READS IS OF BULK AT MOST 1048576: true; the input reads as it did. -/
def orderedNilUptoRow : OpenClaim := { program := "ytabodabfiklbnaa", sum := "43b3e6f09636a32d3f8de4bdef1140ea2603ceb1e51f23b43be03bf408e9815d", func := "scripting/scriptinglaw12.OrderedNil", spec := "orderedNil", plainKeys := false, apart := false, narrowed := true }
def OrderedNilUptoSaid : Prop := orderedNilUptoRow.holds Try.pinned (OpenSpec.upto orderedNilSpec)

/-- 'scriptinglaw12.OrderedApart', WHERE WHAT IT READS IS OF BULK AT MOST 1048576: true; the input reads as it did. -/
def orderedApartUptoRow : OpenClaim := { program := "ytabodabfiklbnaa", sum := "43b3e6f09636a32d3f8de4bdef1140ea2603ceb1e51f23b43be03bf408e9815d", func := "scripting/scriptinglaw12.OrderedApart", spec := "orderedApart", plainKeys := false, apart := false, narrowed := true }
def OrderedApartUptoSaid : Prop := orderedApartUptoRow.holds Try.pinned (OpenSpec.upto orderedApartSpec)

end Rows
end Go.Proofs.Ytabodabfiklbnaa
