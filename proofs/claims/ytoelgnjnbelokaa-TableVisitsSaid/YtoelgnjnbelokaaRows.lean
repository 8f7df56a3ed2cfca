/-
  No cell of these rows narrows 'for every input' (looked for: loops, veiled, ifaces, maps, wideKeys, modest, calm, conditions, laid).
  DERIVED. THE GIVEN ROWS OF THIS SEAT. 6 by the template 'for every input the law returns true; each argument reads behind the call as it read before'; 0 by the template 'total and deterministic' (their statements: YtoelgnjnbelokaaTotals.lean).
  GIVEN WITH THE SEED: the statements are not yours to turn. If you find one false, say at which input.
  Laid BY PROGRAM, IN A SANDBOX (cutbox-rows.mjs): the forced cells as the released guide's own fill.sh prints them over the translation efa0ac97d3c907d0… (all of the seat's roots in one cut). By AI agents, Wed Nov 11 2026. No macro, syntax, notation, axiom, sorry.
-/
import Derived.Test.YtoelgnjnbelokaaChecked
import GoSem.Claim
import GoSem.ClaimJoined
import GoSem.ClaimMapViews
import Derived.JoinedTies
import Derived.KernelRfl
namespace Go.Proofs.Ytoelgnjnbelokaa
/- THE CELL 'sum', in the pinned program and in every row, IS THE sha256 OF THE DUMP (.gsa) THAT YtoelgnjnbelokaaProg.lean LOADS. Nothing in Lean hashes anything: it is a label: what it is worth is what the hold of that sum in a sandbox is worth. -/
noncomputable def Try.pinned : Pinned := { name := "ytoelgnjnbelokaa", sum := "efa0ac97d3c907d09a7cd73b25cd03b2c9235106352eeb186b788376c8a4be33", checked := Try.checked }
namespace Rows
def none {H : Type} : Left H := { results := [], args := [] }

/-- 'scriptinglaw13.TableNone': WHATEVER THE INPUT: true; the input reads as it did. -/
def tableNoneSpec : ChangeSpec := { name := "tableNone", fn := fun _ => fun
  | [d1, d2] => { results := [.lit (.bool true)], args := [d1, d2] }
  | _ => none }
def tableNoneRow : OpenClaim := { program := "ytoelgnjnbelokaa", sum := "efa0ac97d3c907d09a7cd73b25cd03b2c9235106352eeb186b788376c8a4be33", func := "scripting/scriptinglaw13.TableNone", spec := "tableNone", plainKeys := false, apart := false }
def TableNoneSaid : Prop := tableNoneRow.holds Try.pinned (OpenSpec.ofChange tableNoneSpec)

/-- ITS FALSE NEIGHBOUR: 'it returns false'. Refute it at one input. -/
def tableNoneWrong : ChangeSpec := { name := "tableNone", fn := fun _ => fun
  | [d1, d2] => { results := [.lit (.bool false)], args := [d1, d2] }
  | _ => none }
def TableNoneWrongFalsely : Prop := tableNoneRow.holds Try.pinned (OpenSpec.ofChange tableNoneWrong)

/-- 'scriptinglaw13.TableFills': WHATEVER THE INPUT: true; the input reads as it did. -/
def tableFillsSpec : ChangeSpec := { name := "tableFills", fn := fun _ => fun
  | [d] => { results := [.lit (.bool true)], args := [d] }
  | _ => none }
def tableFillsRow : OpenClaim := { program := "ytoelgnjnbelokaa", sum := "efa0ac97d3c907d09a7cd73b25cd03b2c9235106352eeb186b788376c8a4be33", func := "scripting/scriptinglaw13.TableFills", spec := "tableFills", plainKeys := false, apart := false }
def TableFillsSaid : Prop := tableFillsRow.holds Try.pinned (OpenSpec.ofChange tableFillsSpec)

/-- ITS FALSE NEIGHBOUR: 'it returns false'. Refute it at one input. -/
def tableFillsWrong : ChangeSpec := { name := "tableFills", fn := fun _ => fun
  | [d] => { results := [.lit (.bool false)], args := [d] }
  | _ => none }
def TableFillsWrongFalsely : Prop := tableFillsRow.holds Try.pinned (OpenSpec.ofChange tableFillsWrong)

/-- 'scriptinglaw13.TableGets': WHATEVER THE INPUT: true; the input reads as it did. -/
def tableGetsSpec : ChangeSpec := { name := "tableGets", fn := fun _ => fun
  | [d1, d2] => { results := [.lit (.bool true)], args := [d1, d2] }
  | _ => none }
def tableGetsRow : OpenClaim := { program := "ytoelgnjnbelokaa", sum := "efa0ac97d3c907d09a7cd73b25cd03b2c9235106352eeb186b788376c8a4be33", func := "scripting/scriptinglaw13.TableGets", spec := "tableGets", plainKeys := false, apart := false }
def TableGetsSaid : Prop := tableGetsRow.holds Try.pinned (OpenSpec.ofChange tableGetsSpec)

/-- ITS FALSE NEIGHBOUR: 'it returns false'. Refute it at one input. -/
def tableGetsWrong : ChangeSpec := { name := "tableGets", fn := fun _ => fun
  | [d1, d2] => { results := [.lit (.bool false)], args := [d1, d2] }
  | _ => none }
def TableGetsWrongFalsely : Prop := tableGetsRow.holds Try.pinned (OpenSpec.ofChange tableGetsWrong)

/-- 'scriptinglaw13.TableVisits': WHATEVER THE INPUT: true; the input reads as it did. -/
def tableVisitsSpec : ChangeSpec := { name := "tableVisits", fn := fun _ => fun
  | [d1, d2] => { results := [.lit (.bool true)], args := [d1, d2] }
  | _ => none }
def tableVisitsRow : OpenClaim := { program := "ytoelgnjnbelokaa", sum := "efa0ac97d3c907d09a7cd73b25cd03b2c9235106352eeb186b788376c8a4be33", func := "scripting/scriptinglaw13.TableVisits", spec := "tableVisits", plainKeys := false, apart := false }
def TableVisitsSaid : Prop := tableVisitsRow.holds Try.pinned (OpenSpec.ofChange tableVisitsSpec)

/-- ITS FALSE NEIGHBOUR: 'it returns false'. Refute it at one input. -/
def tableVisitsWrong : ChangeSpec := { name := "tableVisits", fn := fun _ => fun
  | [d1, d2] => { results := [.lit (.bool false)], args := [d1, d2] }
  | _ => none }
def TableVisitsWrongFalsely : Prop := tableVisitsRow.holds Try.pinned (OpenSpec.ofChange tableVisitsWrong)

/-- 'scriptinglaw13.TableBorders': WHATEVER THE INPUT: true; the input reads as it did. -/
def tableBordersSpec : ChangeSpec := { name := "tableBorders", fn := fun _ => fun
  | [d] => { results := [.lit (.bool true)], args := [d] }
  | _ => none }
def tableBordersRow : OpenClaim := { program := "ytoelgnjnbelokaa", sum := "efa0ac97d3c907d09a7cd73b25cd03b2c9235106352eeb186b788376c8a4be33", func := "scripting/scriptinglaw13.TableBorders", spec := "tableBorders", plainKeys := false, apart := false }
def TableBordersSaid : Prop := tableBordersRow.holds Try.pinned (OpenSpec.ofChange tableBordersSpec)

/-- ITS FALSE NEIGHBOUR: 'it returns false'. Refute it at one input. -/
def tableBordersWrong : ChangeSpec := { name := "tableBorders", fn := fun _ => fun
  | [d] => { results := [.lit (.bool false)], args := [d] }
  | _ => none }
def TableBordersWrongFalsely : Prop := tableBordersRow.holds Try.pinned (OpenSpec.ofChange tableBordersWrong)

/-- 'scriptinglaw13.TableSequences': WHATEVER THE INPUT: true; the input reads as it did. -/
def tableSequencesSpec : ChangeSpec := { name := "tableSequences", fn := fun _ => fun
  | [d1, d2, d3] => { results := [.lit (.bool true)], args := [d1, d2, d3] }
  | _ => none }
def tableSequencesRow : OpenClaim := { program := "ytoelgnjnbelokaa", sum := "efa0ac97d3c907d09a7cd73b25cd03b2c9235106352eeb186b788376c8a4be33", func := "scripting/scriptinglaw13.TableSequences", spec := "tableSequences", plainKeys := false, apart := false }
def TableSequencesSaid : Prop := tableSequencesRow.holds Try.pinned (OpenSpec.ofChange tableSequencesSpec)

/-- ITS FALSE NEIGHBOUR: 'it returns false'. Refute it at one input. -/
def tableSequencesWrong : ChangeSpec := { name := "tableSequences", fn := fun _ => fun
  | [d1, d2, d3] => { results := [.lit (.bool false)], args := [d1, d2, d3] }
  | _ => none }
def TableSequencesWrongFalsely : Prop := tableSequencesRow.holds Try.pinned (OpenSpec.ofChange tableSequencesWrong)

/- THE SECOND FORM. 'bulk': how many values and letters a reading holds, each counted each time it is reached (what is shared counts as often as it is met; a slice's spare places count too). A statement '..UptoSaid' is the law's where the arguments, and the package variables that the reading takes, are together of bulk at most 1048576: NARROWER than '..Said'. Prove '..Said' where nothing that the law and all that it calls make is longer than what came in: it says more and counts as full. Else prove '..UptoSaid'. A law counts once. -/
mutual
def uptoBulk {H : Type} : DataW H → Nat
  | .lit (.string bytes) => bytes.length + 1
  | .lit _ => 1
  | .nil => 1
  | .ptr d => uptoBulk d + 1
  | .slice elems spare => uptoBulkAll elems + uptoBulkAll spare + 1
  | .agg parts => uptoBulkAll parts + 1
  | .iface _ d => uptoBulk d + 1
  | .map entries => uptoBulkEntries entries + 1
  | .held _ => 1
def uptoBulkAll {H : Type} : List (DataW H) → Nat
  | [] => 0
  | d :: r => uptoBulk d + uptoBulkAll r
def uptoBulkEntries {H : Type} : List (Lit × DataW H) → Nat
  | [] => 0
  | x :: r => uptoBulkEntry x + uptoBulkEntries r
def uptoBulkEntry {H : Type} : Lit × DataW H → Nat
  | (.string bytes, d) => bytes.length + uptoBulk d + 1
  | (_, d) => uptoBulk d + 1
 end
def uptoSmall : (H : Type) → List (DataW H) → Bool := fun _ ds => decide (uptoBulkAll ds ≤ 1048576)
def OpenSpec.upto (s : _root_.Go.ChangeSpec) : _root_.Go.OpenSpec := { _root_.Go.OpenSpec.ofChange s with cond := some uptoSmall }

/-- 'scriptinglaw13.TableNone', WHERE WHAT IT READS IS OF BULK AT MOST 1048576: true; the input reads as it did. -/
def tableNoneUptoRow : OpenClaim := { program := "ytoelgnjnbelokaa", sum := "efa0ac97d3c907d09a7cd73b25cd03b2c9235106352eeb186b788376c8a4be33", func := "scripting/scriptinglaw13.TableNone", spec := "tableNone", plainKeys := false, apart := false, narrowed := true }
def TableNoneUptoSaid : Prop := tableNoneUptoRow.holds Try.pinned (OpenSpec.upto tableNoneSpec)

/-- 'scriptinglaw13.TableFills', WHERE WHAT IT READS IS OF BULK AT MOST 1048576: true; the input reads as it did. -/
def tableFillsUptoRow : OpenClaim := { program := "ytoelgnjnbelokaa", sum := "efa0ac97d3c907d09a7cd73b25cd03b2c9235106352eeb186b788376c8a4be33", func := "scripting/scriptinglaw13.TableFills", spec := "tableFills", plainKeys := false, apart := false, narrowed := true }
def TableFillsUptoSaid : Prop := tableFillsUptoRow.holds Try.pinned (OpenSpec.upto tableFillsSpec)

/-- 'scriptinglaw13.TableGets', WHERE WHAT IT READS IS OF BULK AT MOST 1048576: true; the input reads as it did. -/
def tableGetsUptoRow : OpenClaim := { program := "ytoelgnjnbelokaa", sum := "efa0ac97d3c907d09a7cd73b25cd03b2c9235106352eeb186b788376c8a4be33", func := "scripting/scriptinglaw13.TableGets", spec := "tableGets", plainKeys := false, apart := false, narrowed := true }
def TableGetsUptoSaid : Prop := tableGetsUptoRow.holds Try.pinned (OpenSpec.upto tableGetsSpec)

/-- 'scriptinglaw13.TableVisits', WHERE WHAT IT READS IS OF BULK AT MOST 1048576: true; the input reads as it did. -/
def tableVisitsUptoRow : OpenClaim := { program := "ytoelgnjnbelokaa", sum := "efa0ac97d3c907d09a7cd73b25cd03b2c9235106352eeb186b788376c8a4be33", func := "scripting/scriptinglaw13.TableVisits", spec := "tableVisits", plainKeys := false, apart := false, narrowed := true }
def TableVisitsUptoSaid : Prop := tableVisitsUptoRow.holds Try.pinned (OpenSpec.upto tableVisitsSpec)

/-- 'scriptinglaw13.TableBorders', WHERE WHAT IT READS IS OF BULK AT MOST 1048576: true; the input reads as it did. -/
def tableBordersUptoRow : OpenClaim := { program := "ytoelgnjnbelokaa", sum := "efa0ac97d3c907d09a7cd73b25cd03b2c9235106352eeb186b788376c8a4be33", func := "scripting/scriptinglaw13.TableBorders", spec := "tableBorders", plainKeys := false, apart := false, narrowed := true }
def TableBordersUptoSaid : Prop := tableBordersUptoRow.holds Try.pinned (OpenSpec.upto tableBordersSpec)

/-- 'scriptinglaw13.TableSequences', WHERE WHAT IT READS IS OF BULK AT MOST 1048576: true; the input reads as it did. -/
def tableSequencesUptoRow : OpenClaim := { program := "ytoelgnjnbelokaa", sum := "efa0ac97d3c907d09a7cd73b25cd03b2c9235106352eeb186b788376c8a4be33", func := "scripting/scriptinglaw13.TableSequences", spec := "tableSequences", plainKeys := false, apart := false, narrowed := true }
def TableSequencesUptoSaid : Prop := tableSequencesUptoRow.holds Try.pinned (OpenSpec.upto tableSequencesSpec)

end Rows
end Go.Proofs.Ytoelgnjnbelokaa
