/-
  No cell of these rows narrows 'for every input' (looked for: loops, veiled, ifaces, maps, wideKeys, modest, calm, conditions, laid).
  DERIVED. THE GIVEN ROWS OF THIS SEAT. 4 by the template 'for every input the law returns true; each argument reads behind the call as it read before'; 0 by the template 'total and deterministic' (their statements: YtmidbllmdpjgdaaTotals.lean).
  GIVEN WITH THE SEED: the statements are not yours to turn. If you find one false, say at which input.
  Laid BY PROGRAM, IN A SANDBOX (cutbox-rows.mjs): the forced cells as the released guide's own fill.sh prints them over the translation ee161d20cae89bda… (all of the seat's roots in one cut). By AI agents, Wed Nov 11 2026. No macro, syntax, notation, axiom, sorry.
-/
import Derived.Test.YtmidbllmdpjgdaaChecked
import GoSem.Claim
import GoSem.ClaimJoined
import GoSem.ClaimMapViews
import Derived.JoinedTies
import Derived.KernelRfl
namespace Go.Proofs.Ytmidbllmdpjgdaa
/- THE CELL 'sum', in the pinned program and in every row, IS THE sha256 OF THE DUMP (.gsa) THAT YtmidbllmdpjgdaaProg.lean LOADS. Nothing in Lean hashes anything: it is a label: what it is worth is what the hold of that sum in a sandbox is worth. -/
noncomputable def Try.pinned : Pinned := { name := "ytmidbllmdpjgdaa", sum := "ee161d20cae89bdaf743fb8cb15a07067e43199f8ece236c205fee21f4f014eb", checked := Try.checked }
namespace Rows
def none {H : Type} : Left H := { results := [], args := [] }

/-- 'drystonelaw13.LmapWithin': WHATEVER THE INPUT: true; the input reads as it did. -/
def lmapWithinSpec : ChangeSpec := { name := "lmapWithin", fn := fun _ => fun
  | [d1, d2, d3, d4] => { results := [.lit (.bool true)], args := [d1, d2, d3, d4] }
  | _ => none }
def lmapWithinRow : OpenClaim := { program := "ytmidbllmdpjgdaa", sum := "ee161d20cae89bdaf743fb8cb15a07067e43199f8ece236c205fee21f4f014eb", func := "drystone/drystonelaw13.LmapWithin", spec := "lmapWithin", apart := false }
def LmapWithinSaid : Prop := lmapWithinRow.holds Try.pinned (OpenSpec.ofChange lmapWithinSpec)

/-- ITS FALSE NEIGHBOUR: 'it returns false'. Refute it at one input. -/
def lmapWithinWrong : ChangeSpec := { name := "lmapWithin", fn := fun _ => fun
  | [d1, d2, d3, d4] => { results := [.lit (.bool false)], args := [d1, d2, d3, d4] }
  | _ => none }
def LmapWithinWrongFalsely : Prop := lmapWithinRow.holds Try.pinned (OpenSpec.ofChange lmapWithinWrong)

/-- 'drystonelaw13.LmapApart': WHATEVER THE INPUT: true; the input reads as it did. -/
def lmapApartSpec : ChangeSpec := { name := "lmapApart", fn := fun _ => fun
  | [d1, d2, d3, d4] => { results := [.lit (.bool true)], args := [d1, d2, d3, d4] }
  | _ => none }
def lmapApartRow : OpenClaim := { program := "ytmidbllmdpjgdaa", sum := "ee161d20cae89bdaf743fb8cb15a07067e43199f8ece236c205fee21f4f014eb", func := "drystone/drystonelaw13.LmapApart", spec := "lmapApart", apart := false }
def LmapApartSaid : Prop := lmapApartRow.holds Try.pinned (OpenSpec.ofChange lmapApartSpec)

/-- ITS FALSE NEIGHBOUR: 'it returns false'. Refute it at one input. -/
def lmapApartWrong : ChangeSpec := { name := "lmapApart", fn := fun _ => fun
  | [d1, d2, d3, d4] => { results := [.lit (.bool false)], args := [d1, d2, d3, d4] }
  | _ => none }
def LmapApartWrongFalsely : Prop := lmapApartRow.holds Try.pinned (OpenSpec.ofChange lmapApartWrong)

/-- 'drystonelaw13.LmapOften': WHATEVER THE INPUT: true; the input reads as it did. -/
def lmapOftenSpec : ChangeSpec := { name := "lmapOften", fn := fun _ => fun
  | [d1, d2, d3, d4] => { results := [.lit (.bool true)], args := [d1, d2, d3, d4] }
  | _ => none }
def lmapOftenRow : OpenClaim := { program := "ytmidbllmdpjgdaa", sum := "ee161d20cae89bdaf743fb8cb15a07067e43199f8ece236c205fee21f4f014eb", func := "drystone/drystonelaw13.LmapOften", spec := "lmapOften", apart := false }
def LmapOftenSaid : Prop := lmapOftenRow.holds Try.pinned (OpenSpec.ofChange lmapOftenSpec)

/-- ITS FALSE NEIGHBOUR: 'it returns false'. Refute it at one input. -/
def lmapOftenWrong : ChangeSpec := { name := "lmapOften", fn := fun _ => fun
  | [d1, d2, d3, d4] => { results := [.lit (.bool false)], args := [d1, d2, d3, d4] }
  | _ => none }
def LmapOftenWrongFalsely : Prop := lmapOftenRow.holds Try.pinned (OpenSpec.ofChange lmapOftenWrong)

/-- 'drystonelaw13.LmapPlays': WHATEVER THE INPUT: true; the input reads as it did. -/
def lmapPlaysSpec : ChangeSpec := { name := "lmapPlays", fn := fun _ => fun
  | [d1, d2] => { results := [.lit (.bool true)], args := [d1, d2] }
  | _ => none }
def lmapPlaysRow : OpenClaim := { program := "ytmidbllmdpjgdaa", sum := "ee161d20cae89bdaf743fb8cb15a07067e43199f8ece236c205fee21f4f014eb", func := "drystone/drystonelaw13.LmapPlays", spec := "lmapPlays", apart := false }
def LmapPlaysSaid : Prop := lmapPlaysRow.holds Try.pinned (OpenSpec.ofChange lmapPlaysSpec)

/-- ITS FALSE NEIGHBOUR: 'it returns false'. Refute it at one input. -/
def lmapPlaysWrong : ChangeSpec := { name := "lmapPlays", fn := fun _ => fun
  | [d1, d2] => { results := [.lit (.bool false)], args := [d1, d2] }
  | _ => none }
def LmapPlaysWrongFalsely : Prop := lmapPlaysRow.holds Try.pinned (OpenSpec.ofChange lmapPlaysWrong)

/- THE SECOND FORM. 'bulk': how many values and letters a reading holds, each counted each time it is reached (what is shared counts as often as it is met; a slice's spare places count too). A statement '..UptoSaid' is the law's where the arguments, and the package variables that the reading takes, are together of bulk at most 1048576: NARROWER than '..Said'. Prove '..Said' where nothing that the law and all that it calls make is longer than what came in: it says more and counts as full. Else prove '..UptoSaid'. A law counts once. -/
mutual
def uptoBulk {H : Type} : DataW H → Nat
  | .lit (.string bytes) => bytes.length + 1
  | .lit _ => 1
  | .nil => 1
  | .ptr d => uptoBulk d + 1
  | .slice elems spare => uptoBulkAll elems + uptoBulkAll spare + 1
  | .agg parts => uptoBulkAll parts + 1
  | .iface _ d => uptoBulk d + 1
  | .map entries => uptoBulkEntries entries + 1
  | .held _ => 1
def uptoBulkAll {H : Type} : List (DataW H) → Nat
  | [] => 0
  | d :: r => uptoBulk d + uptoBulkAll r
def uptoBulkEntries {H : Type} : List (Lit × DataW H) → Nat
  | [] => 0
  | x :: r => uptoBulkEntry x + uptoBulkEntries r
def uptoBulkEntry {H : Type} : Lit × DataW H → Nat
  | (.string bytes, d) => bytes.length + uptoBulk d + 1
  | (_, d) => uptoBulk d + 1
 end
def uptoSmall : (H : Type) → List (DataW H) → Bool := fun _ ds => decide (uptoBulkAll ds ≤ 1048576)
def OpenSpec.upto (s : _root_.Go.ChangeSpec) : _root_.Go.OpenSpec := { _root_.Go.OpenSpec.ofChange s with cond := some uptoSmall }

/-- 'drystonelaw13.LmapWithin', WHERE WHAT IT READS IS OF BULK AT MOST 1048576: true; the input reads as it did. -/
def lmapWithinUptoRow : OpenClaim := { program := "ytmidbllmdpjgdaa", sum := "ee161d20cae89bdaf743fb8cb15a07067e43199f8ece236c205fee21f4f014eb", func := "drystone/drystonelaw13.LmapWithin", spec := "lmapWithin", apart := false, narrowed := true }
def LmapWithinUptoSaid : Prop := lmapWithinUptoRow.holds Try.pinned (OpenSpec.upto lmapWithinSpec)

/-- 'drystonelaw13.LmapApart', WHERE WHAT IT READS IS OF BULK AT MOST 1048576: true; the input reads as it did. -/
def lmapApartUptoRow : OpenClaim := { program := "ytmidbllmdpjgdaa", sum := "ee161d20cae89bdaf743fb8cb15a07067e43199f8ece236c205fee21f4f014eb", func := "drystone/drystonelaw13.LmapApart", spec := "lmapApart", apart := false, narrowed := true }
def LmapApartUptoSaid : Prop := lmapApartUptoRow.holds Try.pinned (OpenSpec.upto lmapApartSpec)

/-- 'drystonelaw13.LmapOften', WHERE WHAT IT READS IS OF BULK AT MOST 1048576: true; the input reads as it did. -/
def lmapOftenUptoRow : OpenClaim := { program := "ytmidbllmdpjgdaa", sum := "ee161d20cae89bdaf743fb8cb15a07067e43199f8ece236c205fee21f4f014eb", func := "drystone/drystonelaw13.LmapOften", spec := "lmapOften", apart := false, narrowed := true }
def LmapOftenUptoSaid : Prop := lmapOftenUptoRow.holds Try.pinned (OpenSpec.upto lmapOftenSpec)

/-- 'drystonelaw13.LmapPlays', WHERE WHAT IT READS IS OF BULK AT MOST 1048576: true; the input reads as it did. -/
def lmapPlaysUptoRow : OpenClaim := { program := "ytmidbllmdpjgdaa", sum := "ee161d20cae89bdaf743fb8cb15a07067e43199f8ece236c205fee21f4f014eb", func := "drystone/drystonelaw13.LmapPlays", spec := "lmapPlays", apart := false, narrowed := true }
def LmapPlaysUptoSaid : Prop := lmapPlaysUptoRow.holds Try.pinned (OpenSpec.upto lmapPlaysSpec)

end Rows
end Go.Proofs.Ytmidbllmdpjgdaa
