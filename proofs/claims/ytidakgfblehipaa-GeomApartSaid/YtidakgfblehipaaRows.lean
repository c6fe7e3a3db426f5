/-
  No cell of these rows narrows 'for every input' (looked for: loops, veiled, ifaces, maps, wideKeys, modest, calm, conditions, laid).
  DERIVED. THE GIVEN ROWS OF THIS SEAT. 7 by the template 'for every input the law returns true; each argument reads behind the call as it read before'; 0 by the template 'total and deterministic' (their statements: YtidakgfblehipaaTotals.lean).
  GIVEN WITH THE SEED: the statements are not yours to turn. If you find one false, say at which input.
  Laid BY PROGRAM, IN A SANDBOX (cutbox-rows.mjs): the forced cells as the released guide's own fill.sh prints them over the translation 2a7ec70d2a599782… (all of the seat's roots in one cut). By AI agents, Wed Nov 11 2026. No macro, syntax, notation, axiom, sorry.
-/
import Derived.Test.YtidakgfblehipaaChecked
import GoSem.Claim
import GoSem.ClaimJoined
import GoSem.ClaimMapViews
import Derived.JoinedTies
import Derived.KernelRfl
namespace Go.Proofs.Ytidakgfblehipaa
/- THE CELL 'sum', in the pinned program and in every row, IS THE sha256 OF THE DUMP (.gsa) THAT YtidakgfblehipaaProg.lean LOADS. Nothing in Lean hashes anything: it is a label: what it is worth is what the hold of that sum in a sandbox is worth. -/
noncomputable def Try.pinned : Pinned := { name := "ytidakgfblehipaa", sum := "2a7ec70d2a5997824f30c740c447ffd7dbd6ae4e9e55d1a50f945c0e7dda3c20", checked := Try.checked }
namespace Rows
def none {H : Type} : Left H := { results := [], args := [] }

/-- 'drystonelaw05.GeomChecks': WHATEVER THE INPUT: true; the input reads as it did. -/
def geomChecksSpec : ChangeSpec := { name := "geomChecks", fn := fun _ => fun
  | [d] => { results := [.lit (.bool true)], args := [d] }
  | _ => none }
def geomChecksRow : OpenClaim := { program := "ytidakgfblehipaa", sum := "2a7ec70d2a5997824f30c740c447ffd7dbd6ae4e9e55d1a50f945c0e7dda3c20", func := "drystone/drystonelaw05.GeomChecks", spec := "geomChecks", apart := false }
def GeomChecksSaid : Prop := geomChecksRow.holds Try.pinned (OpenSpec.ofChange geomChecksSpec)

/-- ITS FALSE NEIGHBOUR: 'it returns false'. Refute it at one input. -/
def geomChecksWrong : ChangeSpec := { name := "geomChecks", fn := fun _ => fun
  | [d] => { results := [.lit (.bool false)], args := [d] }
  | _ => none }
def GeomChecksWrongFalsely : Prop := geomChecksRow.holds Try.pinned (OpenSpec.ofChange geomChecksWrong)

/-- 'drystonelaw05.GeomSpoilt': WHATEVER THE INPUT: true; the input reads as it did. -/
def geomSpoiltSpec : ChangeSpec := { name := "geomSpoilt", fn := fun _ => fun
  | [d1, d2, d3] => { results := [.lit (.bool true)], args := [d1, d2, d3] }
  | _ => none }
def geomSpoiltRow : OpenClaim := { program := "ytidakgfblehipaa", sum := "2a7ec70d2a5997824f30c740c447ffd7dbd6ae4e9e55d1a50f945c0e7dda3c20", func := "drystone/drystonelaw05.GeomSpoilt", spec := "geomSpoilt", apart := false }
def GeomSpoiltSaid : Prop := geomSpoiltRow.holds Try.pinned (OpenSpec.ofChange geomSpoiltSpec)

/-- ITS FALSE NEIGHBOUR: 'it returns false'. Refute it at one input. -/
def geomSpoiltWrong : ChangeSpec := { name := "geomSpoilt", fn := fun _ => fun
  | [d1, d2, d3] => { results := [.lit (.bool false)], args := [d1, d2, d3] }
  | _ => none }
def GeomSpoiltWrongFalsely : Prop := geomSpoiltRow.holds Try.pinned (OpenSpec.ofChange geomSpoiltWrong)

/-- 'drystonelaw05.GeomTurns': WHATEVER THE INPUT: true; the input reads as it did. -/
def geomTurnsSpec : ChangeSpec := { name := "geomTurns", fn := fun _ => fun
  | [d1, d2] => { results := [.lit (.bool true)], args := [d1, d2] }
  | _ => none }
def geomTurnsRow : OpenClaim := { program := "ytidakgfblehipaa", sum := "2a7ec70d2a5997824f30c740c447ffd7dbd6ae4e9e55d1a50f945c0e7dda3c20", func := "drystone/drystonelaw05.GeomTurns", spec := "geomTurns", apart := false }
def GeomTurnsSaid : Prop := geomTurnsRow.holds Try.pinned (OpenSpec.ofChange geomTurnsSpec)

/-- ITS FALSE NEIGHBOUR: 'it returns false'. Refute it at one input. -/
def geomTurnsWrong : ChangeSpec := { name := "geomTurns", fn := fun _ => fun
  | [d1, d2] => { results := [.lit (.bool false)], args := [d1, d2] }
  | _ => none }
def GeomTurnsWrongFalsely : Prop := geomTurnsRow.holds Try.pinned (OpenSpec.ofChange geomTurnsWrong)

/-- 'drystonelaw05.GeomPlaces': WHATEVER THE INPUT: true; the input reads as it did. -/
def geomPlacesSpec : ChangeSpec := { name := "geomPlaces", fn := fun _ => fun
  | [d1, d2] => { results := [.lit (.bool true)], args := [d1, d2] }
  | _ => none }
def geomPlacesRow : OpenClaim := { program := "ytidakgfblehipaa", sum := "2a7ec70d2a5997824f30c740c447ffd7dbd6ae4e9e55d1a50f945c0e7dda3c20", func := "drystone/drystonelaw05.GeomPlaces", spec := "geomPlaces", apart := false }
def GeomPlacesSaid : Prop := geomPlacesRow.holds Try.pinned (OpenSpec.ofChange geomPlacesSpec)

/-- ITS FALSE NEIGHBOUR: 'it returns false'. Refute it at one input. -/
def geomPlacesWrong : ChangeSpec := { name := "geomPlaces", fn := fun _ => fun
  | [d1, d2] => { results := [.lit (.bool false)], args := [d1, d2] }
  | _ => none }
def GeomPlacesWrongFalsely : Prop := geomPlacesRow.holds Try.pinned (OpenSpec.ofChange geomPlacesWrong)

/-- 'drystonelaw05.GeomSpare': WHATEVER THE INPUT: true; the input reads as it did. -/
def geomSpareSpec : ChangeSpec := { name := "geomSpare", fn := fun _ => fun
  | [d] => { results := [.lit (.bool true)], args := [d] }
  | _ => none }
def geomSpareRow : OpenClaim := { program := "ytidakgfblehipaa", sum := "2a7ec70d2a5997824f30c740c447ffd7dbd6ae4e9e55d1a50f945c0e7dda3c20", func := "drystone/drystonelaw05.GeomSpare", spec := "geomSpare", apart := false }
def GeomSpareSaid : Prop := geomSpareRow.holds Try.pinned (OpenSpec.ofChange geomSpareSpec)

/-- ITS FALSE NEIGHBOUR: 'it returns false'. Refute it at one input. -/
def geomSpareWrong : ChangeSpec := { name := "geomSpare", fn := fun _ => fun
  | [d] => { results := [.lit (.bool false)], args := [d] }
  | _ => none }
def GeomSpareWrongFalsely : Prop := geomSpareRow.holds Try.pinned (OpenSpec.ofChange geomSpareWrong)

/-- 'drystonelaw05.GeomSizes': WHATEVER THE INPUT: true; the input reads as it did. -/
def geomSizesSpec : ChangeSpec := { name := "geomSizes", fn := fun _ => fun
  | [d1, d2, d3] => { results := [.lit (.bool true)], args := [d1, d2, d3] }
  | _ => none }
def geomSizesRow : OpenClaim := { program := "ytidakgfblehipaa", sum := "2a7ec70d2a5997824f30c740c447ffd7dbd6ae4e9e55d1a50f945c0e7dda3c20", func := "drystone/drystonelaw05.GeomSizes", spec := "geomSizes", apart := false }
def GeomSizesSaid : Prop := geomSizesRow.holds Try.pinned (OpenSpec.ofChange geomSizesSpec)

/-- ITS FALSE NEIGHBOUR: 'it returns false'. Refute it at one input. -/
def geomSizesWrong : ChangeSpec := { name := "geomSizes", fn := fun _ => fun
  | [d1, d2, d3] => { results := [.lit (.bool false)], args := [d1, d2, d3] }
  | _ => none }
def GeomSizesWrongFalsely : Prop := geomSizesRow.holds Try.pinned (OpenSpec.ofChange geomSizesWrong)

/-- 'drystonelaw05.GeomApart': WHATEVER THE INPUT: true; the input reads as it did. -/
def geomApartSpec : ChangeSpec := { name := "geomApart", fn := fun _ => fun
  | [d] => { results := [.lit (.bool true)], args := [d] }
  | _ => none }
def geomApartRow : OpenClaim := { program := "ytidakgfblehipaa", sum := "2a7ec70d2a5997824f30c740c447ffd7dbd6ae4e9e55d1a50f945c0e7dda3c20", func := "drystone/drystonelaw05.GeomApart", spec := "geomApart", apart := false }
def GeomApartSaid : Prop := geomApartRow.holds Try.pinned (OpenSpec.ofChange geomApartSpec)

/-- ITS FALSE NEIGHBOUR: 'it returns false'. Refute it at one input. -/
def geomApartWrong : ChangeSpec := { name := "geomApart", fn := fun _ => fun
  | [d] => { results := [.lit (.bool false)], args := [d] }
  | _ => none }
def GeomApartWrongFalsely : Prop := geomApartRow.holds Try.pinned (OpenSpec.ofChange geomApartWrong)

/- THE SECOND FORM. 'bulk': how many values and letters a reading holds, each counted each time it is reached (what is shared counts as often as it is met; a slice's spare places count too). A statement '..UptoSaid' is the law's where the arguments, and the package variables that the reading takes, are together of bulk at most 1048576: NARROWER than '..Said'. Prove '..Said' where nothing that the law and all that it calls make is longer than what came in: it says more and counts as full. Else prove '..UptoSaid'. A law counts once. -/
mutual
def uptoBulk {H : Type} : DataW H → Nat
  | .lit (.string bytes) => bytes.length + 1
  | .lit _ => 1
  | .nil => 1
  | .ptr d => uptoBulk d + 1
  | .slice elems spare => uptoBulkAll elems + uptoBulkAll spare + 1
  | .agg parts => uptoBulkAll parts + 1
  | .iface _ d => uptoBulk d + 1
  | .map entries => uptoBulkEntries entries + 1
  | .held _ => 1
def uptoBulkAll {H : Type} : List (DataW H) → Nat
  | [] => 0
  | d :: r => uptoBulk d + uptoBulkAll r
def uptoBulkEntries {H : Type} : List (Lit × DataW H) → Nat
  | [] => 0
  | x :: r => uptoBulkEntry x + uptoBulkEntries r
def uptoBulkEntry {H : Type} : Lit × DataW H → Nat
  | (.string bytes, d) => bytes.length + uptoBulk d + 1
  | (_, d) => uptoBulk d + 1
 end
def uptoSmall : (H : Type) → List (DataW H) → Bool := fun _ ds => decide (uptoBulkAll ds ≤ 1048576)
def OpenSpec.upto (s : _root_.Go.ChangeSpec) : _root_.Go.OpenSpec := { _root_.Go.OpenSpec.ofChange s with cond := some uptoSmall }

/-- 'drystonelaw05.GeomChecks', WHERE WHAT IT READS IS OF BULK AT MOST 1048576: true; the input reads as it did. -/
def geomChecksUptoRow : OpenClaim := { program := "ytidakgfblehipaa", sum := "2a7ec70d2a5997824f30c740c447ffd7dbd6ae4e9e55d1a50f945c0e7dda3c20", func := "drystone/drystonelaw05.GeomChecks", spec := "geomChecks", apart := false, narrowed := true }
def GeomChecksUptoSaid : Prop := geomChecksUptoRow.holds Try.pinned (OpenSpec.upto geomChecksSpec)

/-- 'drystonelaw05.GeomSpoilt', WHERE WHAT IT READS IS OF BULK AT MOST 1048576: true; the input reads as it did. -/
def geomSpoiltUptoRow : OpenClaim := { program := "ytidakgfblehipaa", sum := "2a7ec70d2a5997824f30c740c447ffd7dbd6ae4e9e55d1a50f945c0e7dda3c20", func := "drystone/drystonelaw05.GeomSpoilt", spec := "geomSpoilt", apart := false, narrowed := true }
def GeomSpoiltUptoSaid : Prop := geomSpoiltUptoRow.holds Try.pinned (OpenSpec.upto geomSpoiltSpec)

/-- 'drystonelaw05.GeomTurns', WHERE WHAT IT READS IS OF BULK AT MOST 1048576: true; the input reads as it did. -/
def geomTurnsUptoRow : OpenClaim := { program := "ytidakgfblehipaa", sum := "2a7ec70d2a5997824f30c740c447ffd7dbd6ae4e9e55d1a50f945c0e7dda3c20", func := "drystone/drystonelaw05.GeomTurns", spec := "geomTurns", apart := false, narrowed := true }
def GeomTurnsUptoSaid : Prop := geomTurnsUptoRow.holds Try.pinned (OpenSpec.upto geomTurnsSpec)

/-- 'drystonelaw05.GeomPlaces', WHERE WHAT IT READS IS OF BULK AT MOST 1048576: true; the input reads as it did. -/
def geomPlacesUptoRow : OpenClaim := { program := "ytidakgfblehipaa", sum := "2a7ec70d2a5997824f30c740c447ffd7dbd6ae4e9e55d1a50f945c0e7dda3c20", func := "drystone/drystonelaw05.GeomPlaces", spec := "geomPlaces", apart := false, narrowed := true }
def GeomPlacesUptoSaid : Prop := geomPlacesUptoRow.holds Try.pinned (OpenSpec.upto geomPlacesSpec)

/-- 'drystonelaw05.GeomSpare', WHERE WHAT IT READS IS OF BULK AT MOST 1048576: true; the input reads as it did. -/
def geomSpareUptoRow : OpenClaim := { program := "ytidakgfblehipaa", sum := "2a7ec70d2a5997824f30c740c447ffd7dbd6ae4e9e55d1a50f945c0e7dda3c20", func := "drystone/drystonelaw05.GeomSpare", spec := "geomSpare", apart := false, narrowed := true }
def GeomSpareUptoSaid : Prop := geomSpareUptoRow.holds Try.pinned (OpenSpec.upto geomSpareSpec)

/-- 'drystonelaw05.GeomSizes', WHERE WHAT IT READS IS OF BULK AT MOST 1048576: true; the input reads as it did. -/
def geomSizesUptoRow : OpenClaim := { program := "ytidakgfblehipaa", sum := "2a7ec70d2a5997824f30c740c447ffd7dbd6ae4e9e55d1a50f945c0e7dda3c20", func := "drystone/drystonelaw05.GeomSizes", spec := "geomSizes", apart := false, narrowed := true }
def GeomSizesUptoSaid : Prop := geomSizesUptoRow.holds Try.pinned (OpenSpec.upto geomSizesSpec)

/-- 'drystonelaw05.GeomApart', WHERE WHAT IT READS IS OF BULK AT MOST 1048576: true; the input reads as it did. -/
def geomApartUptoRow : OpenClaim := { program := "ytidakgfblehipaa", sum := "2a7ec70d2a5997824f30c740c447ffd7dbd6ae4e9e55d1a50f945c0e7dda3c20", func := "drystone/drystonelaw05.GeomApart", spec := "geomApart", apart := false, narrowed := true }
def GeomApartUptoSaid : Prop := geomApartUptoRow.holds Try.pinned (OpenSpec.upto geomApartSpec)

end Rows
end Go.Proofs.Ytidakgfblehipaa
