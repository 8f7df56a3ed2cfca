/-
  No cell of these rows narrows 'for every input' (looked for: loops, veiled, ifaces, maps, wideKeys, modest, calm, conditions, laid).
  DERIVED. THE GIVEN ROWS OF THIS SEAT. 6 by the template 'for every input the law returns true; each argument reads behind the call as it read before'; 0 by the template 'total and deterministic' (their statements: YtjlefkohokcohaaTotals.lean).
  GIVEN WITH THE SEED: the statements are not yours to turn. If you find one false, say at which input.
  Laid BY PROGRAM, IN A SANDBOX (cutbox-rows.mjs): the forced cells as the released guide's own fill.sh prints them over the translation 96a8d14d94a2a748… (all of the seat's roots in one cut). By AI agents, Wed Nov 11 2026. No macro, syntax, notation, axiom, sorry.
-/
import Derived.Test.YtjlefkohokcohaaChecked
import GoSem.Claim
import GoSem.ClaimJoined
import GoSem.ClaimMapViews
import Derived.JoinedTies
import Derived.KernelRfl
namespace Go.Proofs.Ytjlefkohokcohaa
/- THE CELL 'sum', in the pinned program and in every row, IS THE sha256 OF THE DUMP (.gsa) THAT YtjlefkohokcohaaProg.lean LOADS. Nothing in Lean hashes anything: it is a label: what it is worth is what the hold of that sum in a sandbox is worth. -/
noncomputable def Try.pinned : Pinned := { name := "ytjlefkohokcohaa", sum := "96a8d14d94a2a748b6fa249f76c376373b9a25899160dc983c28c0c176c84e09", checked := Try.checked }
namespace Rows
def none {H : Type} : Left H := { results := [], args := [] }

/-- 'scriptinglaw42.UpvaluePlays': WHATEVER THE INPUT: true; the input reads as it did. -/
def upvaluePlaysSpec : ChangeSpec := { name := "upvaluePlays", fn := fun _ => fun
  | [d1, d2] => { results := [.lit (.bool true)], args := [d1, d2] }
  | _ => none }
def upvaluePlaysRow : OpenClaim := { program := "ytjlefkohokcohaa", sum := "96a8d14d94a2a748b6fa249f76c376373b9a25899160dc983c28c0c176c84e09", func := "scripting/scriptinglaw42.UpvaluePlays", spec := "upvaluePlays", apart := false }
def UpvaluePlaysSaid : Prop := upvaluePlaysRow.holds Try.pinned (OpenSpec.ofChange upvaluePlaysSpec)

/-- ITS FALSE NEIGHBOUR: 'it returns false'. Refute it at one input. -/
def upvaluePlaysWrong : ChangeSpec := { name := "upvaluePlays", fn := fun _ => fun
  | [d1, d2] => { results := [.lit (.bool false)], args := [d1, d2] }
  | _ => none }
def UpvaluePlaysWrongFalsely : Prop := upvaluePlaysRow.holds Try.pinned (OpenSpec.ofChange upvaluePlaysWrong)

/-- 'scriptinglaw42.UpvalueOpen': WHATEVER THE INPUT: true; the input reads as it did. -/
def upvalueOpenSpec : ChangeSpec := { name := "upvalueOpen", fn := fun _ => fun
  | [d1, d2, d3] => { results := [.lit (.bool true)], args := [d1, d2, d3] }
  | _ => none }
def upvalueOpenRow : OpenClaim := { program := "ytjlefkohokcohaa", sum := "96a8d14d94a2a748b6fa249f76c376373b9a25899160dc983c28c0c176c84e09", func := "scripting/scriptinglaw42.UpvalueOpen", spec := "upvalueOpen", apart := false }
def UpvalueOpenSaid : Prop := upvalueOpenRow.holds Try.pinned (OpenSpec.ofChange upvalueOpenSpec)

/-- ITS FALSE NEIGHBOUR: 'it returns false'. Refute it at one input. -/
def upvalueOpenWrong : ChangeSpec := { name := "upvalueOpen", fn := fun _ => fun
  | [d1, d2, d3] => { results := [.lit (.bool false)], args := [d1, d2, d3] }
  | _ => none }
def UpvalueOpenWrongFalsely : Prop := upvalueOpenRow.holds Try.pinned (OpenSpec.ofChange upvalueOpenWrong)

/-- 'scriptinglaw42.UpvalueShares': WHATEVER THE INPUT: true; the input reads as it did. -/
def upvalueSharesSpec : ChangeSpec := { name := "upvalueShares", fn := fun _ => fun
  | [d1, d2, d3, d4, d5] => { results := [.lit (.bool true)], args := [d1, d2, d3, d4, d5] }
  | _ => none }
def upvalueSharesRow : OpenClaim := { program := "ytjlefkohokcohaa", sum := "96a8d14d94a2a748b6fa249f76c376373b9a25899160dc983c28c0c176c84e09", func := "scripting/scriptinglaw42.UpvalueShares", spec := "upvalueShares", apart := false }
def UpvalueSharesSaid : Prop := upvalueSharesRow.holds Try.pinned (OpenSpec.ofChange upvalueSharesSpec)

/-- ITS FALSE NEIGHBOUR: 'it returns false'. Refute it at one input. -/
def upvalueSharesWrong : ChangeSpec := { name := "upvalueShares", fn := fun _ => fun
  | [d1, d2, d3, d4, d5] => { results := [.lit (.bool false)], args := [d1, d2, d3, d4, d5] }
  | _ => none }
def UpvalueSharesWrongFalsely : Prop := upvalueSharesRow.holds Try.pinned (OpenSpec.ofChange upvalueSharesWrong)

/-- 'scriptinglaw42.UpvalueCloses': WHATEVER THE INPUT: true; the input reads as it did. -/
def upvalueClosesSpec : ChangeSpec := { name := "upvalueCloses", fn := fun _ => fun
  | [d1, d2, d3] => { results := [.lit (.bool true)], args := [d1, d2, d3] }
  | _ => none }
def upvalueClosesRow : OpenClaim := { program := "ytjlefkohokcohaa", sum := "96a8d14d94a2a748b6fa249f76c376373b9a25899160dc983c28c0c176c84e09", func := "scripting/scriptinglaw42.UpvalueCloses", spec := "upvalueCloses", apart := false }
def UpvalueClosesSaid : Prop := upvalueClosesRow.holds Try.pinned (OpenSpec.ofChange upvalueClosesSpec)

/-- ITS FALSE NEIGHBOUR: 'it returns false'. Refute it at one input. -/
def upvalueClosesWrong : ChangeSpec := { name := "upvalueCloses", fn := fun _ => fun
  | [d1, d2, d3] => { results := [.lit (.bool false)], args := [d1, d2, d3] }
  | _ => none }
def UpvalueClosesWrongFalsely : Prop := upvalueClosesRow.holds Try.pinned (OpenSpec.ofChange upvalueClosesWrong)

/-- 'scriptinglaw42.UpvalueApart': WHATEVER THE INPUT: true; the input reads as it did. -/
def upvalueApartSpec : ChangeSpec := { name := "upvalueApart", fn := fun _ => fun
  | [d1, d2, d3, d4] => { results := [.lit (.bool true)], args := [d1, d2, d3, d4] }
  | _ => none }
def upvalueApartRow : OpenClaim := { program := "ytjlefkohokcohaa", sum := "96a8d14d94a2a748b6fa249f76c376373b9a25899160dc983c28c0c176c84e09", func := "scripting/scriptinglaw42.UpvalueApart", spec := "upvalueApart", apart := false }
def UpvalueApartSaid : Prop := upvalueApartRow.holds Try.pinned (OpenSpec.ofChange upvalueApartSpec)

/-- ITS FALSE NEIGHBOUR: 'it returns false'. Refute it at one input. -/
def upvalueApartWrong : ChangeSpec := { name := "upvalueApart", fn := fun _ => fun
  | [d1, d2, d3, d4] => { results := [.lit (.bool false)], args := [d1, d2, d3, d4] }
  | _ => none }
def UpvalueApartWrongFalsely : Prop := upvalueApartRow.holds Try.pinned (OpenSpec.ofChange upvalueApartWrong)

/-- 'scriptinglaw42.UpvalueNil': WHATEVER THE INPUT: true; the input reads as it did. -/
def upvalueNilSpec : ChangeSpec := { name := "upvalueNil", fn := fun _ => fun
  | [d1, d2, d3] => { results := [.lit (.bool true)], args := [d1, d2, d3] }
  | _ => none }
def upvalueNilRow : OpenClaim := { program := "ytjlefkohokcohaa", sum := "96a8d14d94a2a748b6fa249f76c376373b9a25899160dc983c28c0c176c84e09", func := "scripting/scriptinglaw42.UpvalueNil", spec := "upvalueNil", apart := false }
def UpvalueNilSaid : Prop := upvalueNilRow.holds Try.pinned (OpenSpec.ofChange upvalueNilSpec)

/-- ITS FALSE NEIGHBOUR: 'it returns false'. Refute it at one input. -/
def upvalueNilWrong : ChangeSpec := { name := "upvalueNil", fn := fun _ => fun
  | [d1, d2, d3] => { results := [.lit (.bool false)], args := [d1, d2, d3] }
  | _ => none }
def UpvalueNilWrongFalsely : Prop := upvalueNilRow.holds Try.pinned (OpenSpec.ofChange upvalueNilWrong)

/- THE SECOND FORM. 'bulk': how many values and letters a reading holds, each counted each time it is reached (what is shared counts as often as it is met; a slice's spare places count too). A statement '..UptoSaid' is the law's where the arguments, and the package variables that the reading takes, are together of bulk at most 1048576: NARROWER than '..Said'. Prove '..Said' where nothing that the law and all that it calls make is longer than what came in: it says more and counts as full. Else prove '..UptoSaid'. A law counts once. -/
mutual
def uptoBulk {H : Type} : DataW H → Nat
  | .lit (.string bytes) => bytes.length + 1
  | .lit _ => 1
  | .nil => 1
  | .ptr d => uptoBulk d + 1
  | .slice elems spare => uptoBulkAll elems + uptoBulkAll spare + 1
  | .agg parts => uptoBulkAll parts + 1
  | .iface _ d => uptoBulk d + 1
  | .map entries => uptoBulkEntries entries + 1
  | .held _ => 1
def uptoBulkAll {H : Type} : List (DataW H) → Nat
  | [] => 0
  | d :: r => uptoBulk d + uptoBulkAll r
def uptoBulkEntries {H : Type} : List (Lit × DataW H) → Nat
  | [] => 0
  | x :: r => uptoBulkEntry x + uptoBulkEntries r
def uptoBulkEntry {H : Type} : Lit × DataW H → Nat
  | (.string bytes, d) => bytes.length + uptoBulk d + 1
  | (_, d) => uptoBulk d + 1
 end
def uptoSmall : (H : Type) → List (DataW H) → Bool := fun _ ds => decide (uptoBulkAll ds ≤ 1048576)
def OpenSpec.upto (s : _root_.Go.ChangeSpec) : _root_.Go.OpenSpec := { _root_.Go.OpenSpec.ofChange s with cond := some uptoSmall }

/-- 'scriptinglaw42.UpvaluePlays', WHERE WHAT IT READS IS OF BULK AT MOST 1048576: true; the input reads as it did. -/
def upvaluePlaysUptoRow : OpenClaim := { program := "ytjlefkohokcohaa", sum := "96a8d14d94a2a748b6fa249f76c376373b9a25899160dc983c28c0c176c84e09", func := "scripting/scriptinglaw42.UpvaluePlays", spec := "upvaluePlays", apart := false, narrowed := true }
def UpvaluePlaysUptoSaid : Prop := upvaluePlaysUptoRow.holds Try.pinned (OpenSpec.upto upvaluePlaysSpec)

/-- 'scriptinglaw42.UpvalueOpen', WHERE WHAT IT READS IS OF BULK AT MOST 1048576: true; the input reads as it did. -/
def upvalueOpenUptoRow : OpenClaim := { program := "ytjlefkohokcohaa", sum := "96a8d14d94a2a748b6fa249f76c376373b9a25899160dc983c28c0c176c84e09", func := "scripting/scriptinglaw42.UpvalueOpen", spec := "upvalueOpen", apart := false, narrowed := true }
def UpvalueOpenUptoSaid : Prop := upvalueOpenUptoRow.holds Try.pinned (OpenSpec.upto upvalueOpenSpec)

/-- 'scriptinglaw42.UpvalueShares', WHERE WHAT IT READS IS OF BULK AT MOST 1048576: true; the input reads as it did. -/
def upvalueSharesUptoRow : OpenClaim := { program := "ytjlefkohokcohaa", sum := "96a8d14d94a2a748b6fa249f76c376373b9a25899160dc983c28c0c176c84e09", func := "scripting/scriptinglaw42.UpvalueShares", spec := "upvalueShares", apart := false, narrowed := true }
def UpvalueSharesUptoSaid : Prop := upvalueSharesUptoRow.holds Try.pinned (OpenSpec.upto upvalueSharesSpec)

/-- 'scriptinglaw42.UpvalueCloses', WHERE WHAT IT READS IS OF BULK AT MOST 1048576: true; the input reads as it did. -/
def upvalueClosesUptoRow : OpenClaim := { program := "ytjlefkohokcohaa", sum := "96a8d14d94a2a748b6fa249f76c376373b9a25899160dc983c28c0c176c84e09", func := "scripting/scriptinglaw42.UpvalueCloses", spec := "upvalueCloses", apart := false, narrowed := true }
def UpvalueClosesUptoSaid : Prop := upvalueClosesUptoRow.holds Try.pinned (OpenSpec.upto upvalueClosesSpec)

/-- 'scriptinglaw42.UpvalueApart', WHERE WHAT IT READS IS OF BULK AT MOST 1048576: true; the input reads as it did. -/
def upvalueApartUptoRow : OpenClaim := { program := "ytjlefkohokcohaa", sum := "96a8d14d94a2a748b6fa249f76c376373b9a25899160dc983c28c0c176c84e09", func := "scripting/scriptinglaw42.UpvalueApart", spec := "upvalueApart", apart := false, narrowed := true }
def UpvalueApartUptoSaid : Prop := upvalueApartUptoRow.holds Try.pinned (OpenSpec.upto upvalueApartSpec)

/-- 'scriptinglaw42.UpvalueNil', WHERE WHAT IT READS IS OF BULK AT MOST 1048576: true; the input reads as it did. -/
def upvalueNilUptoRow : OpenClaim := { program := "ytjlefkohokcohaa", sum := "96a8d14d94a2a748b6fa249f76c376373b9a25899160dc983c28c0c176c84e09", func := "scripting/scriptinglaw42.UpvalueNil", spec := "upvalueNil", apart := false, narrowed := true }
def UpvalueNilUptoSaid : Prop := upvalueNilUptoRow.holds Try.pinned (OpenSpec.upto upvalueNilSpec)

end Rows
end Go.Proofs.Ytjlefkohokcohaa
