/-
  No cell of these rows narrows 'for every input' (looked for: loops, veiled, ifaces, maps, wideKeys, modest, calm, conditions, laid).
  DERIVED. THE GIVEN ROWS OF THIS SEAT. 4 by the template 'for every input the law returns true; each argument reads behind the call as it read before'; 0 by the template 'total and deterministic' (their statements: YtcgodkahkgpojaaTotals.lean).
  GIVEN WITH THE SEED: the statements are not yours to turn. If you find one false, say at which input.
  Laid BY PROGRAM, IN A SANDBOX (cutbox-rows.mjs): the forced cells as the released guide's own fill.sh prints them over the translation 91e33670f5e8142c… (all of the seat's roots in one cut). By AI agents, Wed Nov 11 2026. No macro, syntax, notation, axiom, sorry.
-/
import Derived.Test.YtcgodkahkgpojaaChecked
import GoSem.Claim
import GoSem.ClaimJoined
import GoSem.ClaimMapViews
import Derived.JoinedTies
import Derived.KernelRfl
namespace Go.Proofs.Ytcgodkahkgpojaa
/- THE CELL 'sum', in the pinned program and in every row, IS THE sha256 OF THE DUMP (.gsa) THAT YtcgodkahkgpojaaProg.lean LOADS. Nothing in Lean hashes anything: it is a label: what it is worth is what the hold of that sum in a sandbox is worth. -/
noncomputable def Try.pinned : Pinned := { name := "ytcgodkahkgpojaa", sum := "91e33670f5e8142c3a22e5037da0cfe62c69d7dbb06d2d3cb4089614c695409f", checked := Try.checked }
namespace Rows
def none {H : Type} : Left H := { results := [], args := [] }

/-- 'drystonelaw08.SuperApart': WHATEVER THE INPUT: true; the input reads as it did. -/
def superApartSpec : ChangeSpec := { name := "superApart", fn := fun _ => fun
  | [d1, d2, d3, d4] => { results := [.lit (.bool true)], args := [d1, d2, d3, d4] }
  | _ => none }
def superApartRow : OpenClaim := { program := "ytcgodkahkgpojaa", sum := "91e33670f5e8142c3a22e5037da0cfe62c69d7dbb06d2d3cb4089614c695409f", func := "drystone/drystonelaw08.SuperApart", spec := "superApart", apart := false }
def SuperApartSaid : Prop := superApartRow.holds Try.pinned (OpenSpec.ofChange superApartSpec)

/-- ITS FALSE NEIGHBOUR: 'it returns false'. Refute it at one input. -/
def superApartWrong : ChangeSpec := { name := "superApart", fn := fun _ => fun
  | [d1, d2, d3, d4] => { results := [.lit (.bool false)], args := [d1, d2, d3, d4] }
  | _ => none }
def SuperApartWrongFalsely : Prop := superApartRow.holds Try.pinned (OpenSpec.ofChange superApartWrong)

/-- 'drystonelaw08.SuperEncodes': WHATEVER THE INPUT: true; the input reads as it did. -/
def superEncodesSpec : ChangeSpec := { name := "superEncodes", fn := fun _ => fun
  | [d1, d2] => { results := [.lit (.bool true)], args := [d1, d2] }
  | _ => none }
def superEncodesRow : OpenClaim := { program := "ytcgodkahkgpojaa", sum := "91e33670f5e8142c3a22e5037da0cfe62c69d7dbb06d2d3cb4089614c695409f", func := "drystone/drystonelaw08.SuperEncodes", spec := "superEncodes", apart := false }
def SuperEncodesSaid : Prop := superEncodesRow.holds Try.pinned (OpenSpec.ofChange superEncodesSpec)

/-- ITS FALSE NEIGHBOUR: 'it returns false'. Refute it at one input. -/
def superEncodesWrong : ChangeSpec := { name := "superEncodes", fn := fun _ => fun
  | [d1, d2] => { results := [.lit (.bool false)], args := [d1, d2] }
  | _ => none }
def SuperEncodesWrongFalsely : Prop := superEncodesRow.holds Try.pinned (OpenSpec.ofChange superEncodesWrong)

/-- 'drystonelaw08.SuperDecodes': WHATEVER THE INPUT: true; the input reads as it did. -/
def superDecodesSpec : ChangeSpec := { name := "superDecodes", fn := fun _ => fun
  | [d1, d2] => { results := [.lit (.bool true)], args := [d1, d2] }
  | _ => none }
def superDecodesRow : OpenClaim := { program := "ytcgodkahkgpojaa", sum := "91e33670f5e8142c3a22e5037da0cfe62c69d7dbb06d2d3cb4089614c695409f", func := "drystone/drystonelaw08.SuperDecodes", spec := "superDecodes", unfollowed := true, recurses := true, apart := false }
def SuperDecodesSaid : Prop := superDecodesRow.holds Try.pinned (OpenSpec.ofChange superDecodesSpec)

/-- ITS FALSE NEIGHBOUR: 'it returns false'. Refute it at one input. -/
def superDecodesWrong : ChangeSpec := { name := "superDecodes", fn := fun _ => fun
  | [d1, d2] => { results := [.lit (.bool false)], args := [d1, d2] }
  | _ => none }
def SuperDecodesWrongFalsely : Prop := superDecodesRow.holds Try.pinned (OpenSpec.ofChange superDecodesWrong)

/-- 'drystonelaw08.SuperSpoilt': WHATEVER THE INPUT: true; the input reads as it did. -/
def superSpoiltSpec : ChangeSpec := { name := "superSpoilt", fn := fun _ => fun
  | [d1, d2, d3, d4, d5, d6] => { results := [.lit (.bool true)], args := [d1, d2, d3, d4, d5, d6] }
  | _ => none }
def superSpoiltRow : OpenClaim := { program := "ytcgodkahkgpojaa", sum := "91e33670f5e8142c3a22e5037da0cfe62c69d7dbb06d2d3cb4089614c695409f", func := "drystone/drystonelaw08.SuperSpoilt", spec := "superSpoilt", unfollowed := true, recurses := true, apart := false }
def SuperSpoiltSaid : Prop := superSpoiltRow.holds Try.pinned (OpenSpec.ofChange superSpoiltSpec)

/-- ITS FALSE NEIGHBOUR: 'it returns false'. Refute it at one input. -/
def superSpoiltWrong : ChangeSpec := { name := "superSpoilt", fn := fun _ => fun
  | [d1, d2, d3, d4, d5, d6] => { results := [.lit (.bool false)], args := [d1, d2, d3, d4, d5, d6] }
  | _ => none }
def SuperSpoiltWrongFalsely : Prop := superSpoiltRow.holds Try.pinned (OpenSpec.ofChange superSpoiltWrong)

/- THE SECOND FORM. 'bulk': how many values and letters a reading holds, each counted each time it is reached (what is shared counts as often as it is met; a slice's spare places count too). A statement '..UptoSaid' is the law's where the arguments, and the package variables that the reading takes, are together of bulk at most 1048576: NARROWER than '..Said'. Prove '..Said' where nothing that the law and all that it calls make is longer than what came in: it says more and counts as full. Else prove '..UptoSaid'. A law counts once. -/
mutual
def uptoBulk {H : Type} : DataW H → Nat
  | .lit (.string bytes) => bytes.length + 1
  | .lit _ => 1
  | .nil => 1
  | .ptr d => uptoBulk d + 1
  | .slice elems spare => uptoBulkAll elems + uptoBulkAll spare + 1
  | .agg parts => uptoBulkAll parts + 1
  | .iface _ d => uptoBulk d + 1
  | .map entries => uptoBulkEntries entries + 1
  | .held _ => 1
def uptoBulkAll {H : Type} : List (DataW H) → Nat
  | [] => 0
  | d :: r => uptoBulk d + uptoBulkAll r
def uptoBulkEntries {H : Type} : List (Lit × DataW H) → Nat
  | [] => 0
  | x :: r => uptoBulkEntry x + uptoBulkEntries r
def uptoBulkEntry {H : Type} : Lit × DataW H → Nat
  | (.string bytes, d) => bytes.length + uptoBulk d + 1
  | (_, d) => uptoBulk d + 1
 end
def uptoSmall : (H : Type) → List (DataW H) → Bool := fun _ ds => decide (uptoBulkAll ds ≤ 1048576)
def OpenSpec.upto (s : _root_.Go.ChangeSpec) : _root_.Go.OpenSpec := { _root_.Go.OpenSpec.ofChange s with cond := some uptoSmall }

/-- 'drystonelaw08.SuperApart', WHERE WHAT IT READS IS OF BULK AT MOST 1048576: true; the input reads as it did. -/
def superApartUptoRow : OpenClaim := { program := "ytcgodkahkgpojaa", sum := "91e33670f5e8142c3a22e5037da0cfe62c69d7dbb06d2d3cb4089614c695409f", func := "drystone/drystonelaw08.SuperApart", spec := "superApart", apart := false, narrowed := true }
def SuperApartUptoSaid : Prop := superApartUptoRow.holds Try.pinned (OpenSpec.upto superApartSpec)

/-- 'drystonelaw08.SuperEncodes', WHERE WHAT IT READS IS OF BULK AT MOST 1048576: true; the input reads as it did. -/
def superEncodesUptoRow : OpenClaim := { program := "ytcgodkahkgpojaa", sum := "91e33670f5e8142c3a22e5037da0cfe62c69d7dbb06d2d3cb4089614c695409f", func := "drystone/drystonelaw08.SuperEncodes", spec := "superEncodes", apart := false, narrowed := true }
def SuperEncodesUptoSaid : Prop := superEncodesUptoRow.holds Try.pinned (OpenSpec.upto superEncodesSpec)

/-- 'drystonelaw08.SuperDecodes', WHERE WHAT IT READS IS OF BULK AT MOST 1048576: true; the input reads as it did. -/
def superDecodesUptoRow : OpenClaim := { program := "ytcgodkahkgpojaa", sum := "91e33670f5e8142c3a22e5037da0cfe62c69d7dbb06d2d3cb4089614c695409f", func := "drystone/drystonelaw08.SuperDecodes", spec := "superDecodes", unfollowed := true, recurses := true, apart := false, narrowed := true }
def SuperDecodesUptoSaid : Prop := superDecodesUptoRow.holds Try.pinned (OpenSpec.upto superDecodesSpec)

/-- 'drystonelaw08.SuperSpoilt', WHERE WHAT IT READS IS OF BULK AT MOST 1048576: true; the input reads as it did. -/
def superSpoiltUptoRow : OpenClaim := { program := "ytcgodkahkgpojaa", sum := "91e33670f5e8142c3a22e5037da0cfe62c69d7dbb06d2d3cb4089614c695409f", func := "drystone/drystonelaw08.SuperSpoilt", spec := "superSpoilt", unfollowed := true, recurses := true, apart := false, narrowed := true }
def SuperSpoiltUptoSaid : Prop := superSpoiltUptoRow.holds Try.pinned (OpenSpec.upto superSpoiltSpec)

end Rows
end Go.Proofs.Ytcgodkahkgpojaa
