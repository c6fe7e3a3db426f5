/-
  No cell of these rows narrows 'for every input' (looked for: loops, veiled, ifaces, maps, wideKeys, modest, calm, conditions, laid).
  DERIVED. THE GIVEN ROWS OF THIS SEAT. 4 by the template 'for every input the law returns true; each argument reads behind the call as it read before'; 0 by the template 'total and deterministic' (their statements: YtbokddacobohnaaTotals.lean).
  GIVEN WITH THE SEED: the statements are not yours to turn. If you find one false, say at which input.
  Laid BY PROGRAM, IN A SANDBOX (cutbox-rows.mjs): the forced cells as the released guide's own fill.sh prints them over the translation 5a8390ddf4b5887c… (all of the seat's roots in one cut). By AI agents, Wed Nov 11 2026. No macro, syntax, notation, axiom, sorry.
-/
import Derived.Test.YtbokddacobohnaaChecked
import GoSem.Claim
import GoSem.ClaimJoined
import GoSem.ClaimMapViews
import Derived.JoinedTies
import Derived.KernelRfl
namespace Go.Proofs.Ytbokddacobohnaa
/- THE CELL 'sum', in the pinned program and in every row, IS THE sha256 OF THE DUMP (.gsa) THAT YtbokddacobohnaaProg.lean LOADS. Nothing in Lean hashes anything: it is a label: what it is worth is what the hold of that sum in a sandbox is worth. -/
noncomputable def Try.pinned : Pinned := { name := "ytbokddacobohnaa", sum := "5a8390ddf4b5887c23d0ea7d1ca4a8fe54d799c24988c97865711255cd2cf162", checked := Try.checked }
namespace Rows
def none {H : Type} : Left H := { results := [], args := [] }

/-- 'drystonelaw09.NoteApart': WHATEVER THE INPUT: true; the input reads as it did. -/
def noteApartSpec : ChangeSpec := { name := "noteApart", fn := fun _ => fun
  | [d1, d2, d3, d4, d5, d6] => { results := [.lit (.bool true)], args := [d1, d2, d3, d4, d5, d6] }
  | _ => none }
def noteApartRow : OpenClaim := { program := "ytbokddacobohnaa", sum := "5a8390ddf4b5887c23d0ea7d1ca4a8fe54d799c24988c97865711255cd2cf162", func := "drystone/drystonelaw09.NoteApart", spec := "noteApart", apart := false }
def NoteApartSaid : Prop := noteApartRow.holds Try.pinned (OpenSpec.ofChange noteApartSpec)

/-- ITS FALSE NEIGHBOUR: 'it returns false'. Refute it at one input. -/
def noteApartWrong : ChangeSpec := { name := "noteApart", fn := fun _ => fun
  | [d1, d2, d3, d4, d5, d6] => { results := [.lit (.bool false)], args := [d1, d2, d3, d4, d5, d6] }
  | _ => none }
def NoteApartWrongFalsely : Prop := noteApartRow.holds Try.pinned (OpenSpec.ofChange noteApartWrong)

/-- 'drystonelaw09.NoteBack': WHATEVER THE INPUT: true; the input reads as it did. -/
def noteBackSpec : ChangeSpec := { name := "noteBack", fn := fun _ => fun
  | [d1, d2, d3, d4] => { results := [.lit (.bool true)], args := [d1, d2, d3, d4] }
  | _ => none }
def noteBackRow : OpenClaim := { program := "ytbokddacobohnaa", sum := "5a8390ddf4b5887c23d0ea7d1ca4a8fe54d799c24988c97865711255cd2cf162", func := "drystone/drystonelaw09.NoteBack", spec := "noteBack", apart := false }
def NoteBackSaid : Prop := noteBackRow.holds Try.pinned (OpenSpec.ofChange noteBackSpec)

/-- ITS FALSE NEIGHBOUR: 'it returns false'. Refute it at one input. -/
def noteBackWrong : ChangeSpec := { name := "noteBack", fn := fun _ => fun
  | [d1, d2, d3, d4] => { results := [.lit (.bool false)], args := [d1, d2, d3, d4] }
  | _ => none }
def NoteBackWrongFalsely : Prop := noteBackRow.holds Try.pinned (OpenSpec.ofChange noteBackWrong)

/-- 'drystonelaw09.NoteDecodes': WHATEVER THE INPUT: true; the input reads as it did. -/
def noteDecodesSpec : ChangeSpec := { name := "noteDecodes", fn := fun _ => fun
  | [d1, d2, d3] => { results := [.lit (.bool true)], args := [d1, d2, d3] }
  | _ => none }
def noteDecodesRow : OpenClaim := { program := "ytbokddacobohnaa", sum := "5a8390ddf4b5887c23d0ea7d1ca4a8fe54d799c24988c97865711255cd2cf162", func := "drystone/drystonelaw09.NoteDecodes", spec := "noteDecodes", unfollowed := true, recurses := true, apart := false }
def NoteDecodesSaid : Prop := noteDecodesRow.holds Try.pinned (OpenSpec.ofChange noteDecodesSpec)

/-- ITS FALSE NEIGHBOUR: 'it returns false'. Refute it at one input. -/
def noteDecodesWrong : ChangeSpec := { name := "noteDecodes", fn := fun _ => fun
  | [d1, d2, d3] => { results := [.lit (.bool false)], args := [d1, d2, d3] }
  | _ => none }
def NoteDecodesWrongFalsely : Prop := noteDecodesRow.holds Try.pinned (OpenSpec.ofChange noteDecodesWrong)

/-- 'drystonelaw09.NoteSpoilt': WHATEVER THE INPUT: true; the input reads as it did. -/
def noteSpoiltSpec : ChangeSpec := { name := "noteSpoilt", fn := fun _ => fun
  | [d1, d2, d3, d4, d5, d6, d7] => { results := [.lit (.bool true)], args := [d1, d2, d3, d4, d5, d6, d7] }
  | _ => none }
def noteSpoiltRow : OpenClaim := { program := "ytbokddacobohnaa", sum := "5a8390ddf4b5887c23d0ea7d1ca4a8fe54d799c24988c97865711255cd2cf162", func := "drystone/drystonelaw09.NoteSpoilt", spec := "noteSpoilt", unfollowed := true, recurses := true, apart := false }
def NoteSpoiltSaid : Prop := noteSpoiltRow.holds Try.pinned (OpenSpec.ofChange noteSpoiltSpec)

/-- ITS FALSE NEIGHBOUR: 'it returns false'. Refute it at one input. -/
def noteSpoiltWrong : ChangeSpec := { name := "noteSpoilt", fn := fun _ => fun
  | [d1, d2, d3, d4, d5, d6, d7] => { results := [.lit (.bool false)], args := [d1, d2, d3, d4, d5, d6, d7] }
  | _ => none }
def NoteSpoiltWrongFalsely : Prop := noteSpoiltRow.holds Try.pinned (OpenSpec.ofChange noteSpoiltWrong)

/- THE SECOND FORM. 'bulk': how many values and letters a reading holds, each counted each time it is reached (what is shared counts as often as it is met; a slice's spare places count too). A statement '..UptoSaid' is the law's where the arguments, and the package variables that the reading takes, are together of bulk at most 1048576: NARROWER than '..Said'. Prove '..Said' where nothing that the law and all that it calls make is longer than what came in: it says more and counts as full. Else prove '..UptoSaid'. A law counts once. -/
mutual
def uptoBulk {H : Type} : DataW H → Nat
  | .lit (.string bytes) => bytes.length + 1
  | .lit _ => 1
  | .nil => 1
  | .ptr d => uptoBulk d + 1
  | .slice elems spare => uptoBulkAll elems + uptoBulkAll spare + 1
  | .agg parts => uptoBulkAll parts + 1
  | .iface _ d => uptoBulk d + 1
  | .map entries => uptoBulkEntries entries + 1
  | .held _ => 1
def uptoBulkAll {H : Type} : List (DataW H) → Nat
  | [] => 0
  | d :: r => uptoBulk d + uptoBulkAll r
def uptoBulkEntries {H : Type} : List (Lit × DataW H) → Nat
  | [] => 0
  | x :: r => uptoBulkEntry x + uptoBulkEntries r
def uptoBulkEntry {H : Type} : Lit × DataW H → Nat
  | (.string bytes, d) => bytes.length + uptoBulk d + 1
  | (_, d) => uptoBulk d + 1
 end
def uptoSmall : (H : Type) → List (DataW H) → Bool := fun _ ds => decide (uptoBulkAll ds ≤ 1048576)
def OpenSpec.upto (s : _root_.Go.ChangeSpec) : _root_.Go.OpenSpec := { _root_.Go.OpenSpec.ofChange s with cond := some uptoSmall }

/-- 'drystonelaw09.NoteApart', WHERE WHAT IT READS IS OF BULK AT MOST 1048576: true; the input reads as it did. -/
def noteApartUptoRow : OpenClaim := { program := "ytbokddacobohnaa", sum := "5a8390ddf4b5887c23d0ea7d1ca4a8fe54d799c24988c97865711255cd2cf162", func := "drystone/drystonelaw09.NoteApart", spec := "noteApart", apart := false, narrowed := true }
def NoteApartUptoSaid : Prop := noteApartUptoRow.holds Try.pinned (OpenSpec.upto noteApartSpec)

/-- 'drystonelaw09.NoteBack', WHERE WHAT IT READS IS OF BULK AT MOST 1048576: true; the input reads as it did. -/
def noteBackUptoRow : OpenClaim := { program := "ytbokddacobohnaa", sum := "5a8390ddf4b5887c23d0ea7d1ca4a8fe54d799c24988c97865711255cd2cf162", func := "drystone/drystonelaw09.NoteBack", spec := "noteBack", apart := false, narrowed := true }
def NoteBackUptoSaid : Prop := noteBackUptoRow.holds Try.pinned (OpenSpec.upto noteBackSpec)

/-- 'drystonelaw09.NoteDecodes', WHERE WHAT IT READS IS OF BULK AT MOST 1048576: true; the input reads as it did. -/
def noteDecodesUptoRow : OpenClaim := { program := "ytbokddacobohnaa", sum := "5a8390ddf4b5887c23d0ea7d1ca4a8fe54d799c24988c97865711255cd2cf162", func := "drystone/drystonelaw09.NoteDecodes", spec := "noteDecodes", unfollowed := true, recurses := true, apart := false, narrowed := true }
def NoteDecodesUptoSaid : Prop := noteDecodesUptoRow.holds Try.pinned (OpenSpec.upto noteDecodesSpec)

/-- 'drystonelaw09.NoteSpoilt', WHERE WHAT IT READS IS OF BULK AT MOST 1048576: true; the input reads as it did. -/
def noteSpoiltUptoRow : OpenClaim := { program := "ytbokddacobohnaa", sum := "5a8390ddf4b5887c23d0ea7d1ca4a8fe54d799c24988c97865711255cd2cf162", func := "drystone/drystonelaw09.NoteSpoilt", spec := "noteSpoilt", unfollowed := true, recurses := true, apart := false, narrowed := true }
def NoteSpoiltUptoSaid : Prop := noteSpoiltUptoRow.holds Try.pinned (OpenSpec.upto noteSpoiltSpec)

end Rows
end Go.Proofs.Ytbokddacobohnaa
