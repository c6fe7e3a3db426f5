/-
  No cell of these rows narrows 'for every input' (looked for: loops, veiled, ifaces, maps, wideKeys, modest, calm, conditions, laid).
  DERIVED. THE GIVEN ROWS OF THIS SEAT. 5 by the template 'for every input the law returns true; each argument reads behind the call as it read before'; 0 by the template 'total and deterministic' (their statements: YtnahblhjjpjnbaaTotals.lean).
  GIVEN WITH THE SEED: the statements are not yours to turn. If you find one false, say at which input.
  Laid BY PROGRAM, IN A SANDBOX (cutbox-rows.mjs): the forced cells as the released guide's own fill.sh prints them over the translation eff0bb1ce0a7a760… (all of the seat's roots in one cut). By AI agents, Wed Nov 11 2026. No macro, syntax, notation, axiom, sorry.
-/
import Derived.Test.YtnahblhjjpjnbaaChecked
import GoSem.Claim
import GoSem.ClaimJoined
import GoSem.ClaimMapViews
import Derived.JoinedTies
import Derived.KernelRfl
namespace Go.Proofs.Ytnahblhjjpjnbaa
/- THE CELL 'sum', in the pinned program and in every row, IS THE sha256 OF THE DUMP (.gsa) THAT YtnahblhjjpjnbaaProg.lean LOADS. Nothing in Lean hashes anything: it is a label: what it is worth is what the hold of that sum in a sandbox is worth. -/
noncomputable def Try.pinned : Pinned := { name := "ytnahblhjjpjnbaa", sum := "eff0bb1ce0a7a760b65071ed63443c39ec42ae3e2dc85782e5cf17c4b8714a50", checked := Try.checked }
namespace Rows
def none {H : Type} : Left H := { results := [], args := [] }

/-- 'drystonelaw06.XorOf': WHATEVER THE INPUT: true; the input reads as it did. -/
def xorOfSpec : ChangeSpec := { name := "xorOf", fn := fun _ => fun
  | [d] => { results := [.lit (.bool true)], args := [d] }
  | _ => none }
def xorOfRow : OpenClaim := { program := "ytnahblhjjpjnbaa", sum := "eff0bb1ce0a7a760b65071ed63443c39ec42ae3e2dc85782e5cf17c4b8714a50", func := "drystone/drystonelaw06.XorOf", spec := "xorOf", apart := false }
def XorOfSaid : Prop := xorOfRow.holds Try.pinned (OpenSpec.ofChange xorOfSpec)

/-- ITS FALSE NEIGHBOUR: 'it returns false'. Refute it at one input. -/
def xorOfWrong : ChangeSpec := { name := "xorOf", fn := fun _ => fun
  | [d] => { results := [.lit (.bool false)], args := [d] }
  | _ => none }
def XorOfWrongFalsely : Prop := xorOfRow.holds Try.pinned (OpenSpec.ofChange xorOfWrong)

/-- 'drystonelaw06.XorNone': WHATEVER THE INPUT: true; the input reads as it did. -/
def xorNoneSpec : ChangeSpec := { name := "xorNone", fn := fun _ => fun
  | [d1, d2] => { results := [.lit (.bool true)], args := [d1, d2] }
  | _ => none }
def xorNoneRow : OpenClaim := { program := "ytnahblhjjpjnbaa", sum := "eff0bb1ce0a7a760b65071ed63443c39ec42ae3e2dc85782e5cf17c4b8714a50", func := "drystone/drystonelaw06.XorNone", spec := "xorNone", apart := false }
def XorNoneSaid : Prop := xorNoneRow.holds Try.pinned (OpenSpec.ofChange xorNoneSpec)

/-- ITS FALSE NEIGHBOUR: 'it returns false'. Refute it at one input. -/
def xorNoneWrong : ChangeSpec := { name := "xorNone", fn := fun _ => fun
  | [d1, d2] => { results := [.lit (.bool false)], args := [d1, d2] }
  | _ => none }
def XorNoneWrongFalsely : Prop := xorNoneRow.holds Try.pinned (OpenSpec.ofChange xorNoneWrong)

/-- 'drystonelaw06.XorBut': WHATEVER THE INPUT: true; the input reads as it did. -/
def xorButSpec : ChangeSpec := { name := "xorBut", fn := fun _ => fun
  | [d1, d2] => { results := [.lit (.bool true)], args := [d1, d2] }
  | _ => none }
def xorButRow : OpenClaim := { program := "ytnahblhjjpjnbaa", sum := "eff0bb1ce0a7a760b65071ed63443c39ec42ae3e2dc85782e5cf17c4b8714a50", func := "drystone/drystonelaw06.XorBut", spec := "xorBut", apart := false }
def XorButSaid : Prop := xorButRow.holds Try.pinned (OpenSpec.ofChange xorButSpec)

/-- ITS FALSE NEIGHBOUR: 'it returns false'. Refute it at one input. -/
def xorButWrong : ChangeSpec := { name := "xorBut", fn := fun _ => fun
  | [d1, d2] => { results := [.lit (.bool false)], args := [d1, d2] }
  | _ => none }
def XorButWrongFalsely : Prop := xorButRow.holds Try.pinned (OpenSpec.ofChange xorButWrong)

/-- 'drystonelaw06.XorTurns': WHATEVER THE INPUT: true; the input reads as it did. -/
def xorTurnsSpec : ChangeSpec := { name := "xorTurns", fn := fun _ => fun
  | [d1, d2, d3] => { results := [.lit (.bool true)], args := [d1, d2, d3] }
  | _ => none }
def xorTurnsRow : OpenClaim := { program := "ytnahblhjjpjnbaa", sum := "eff0bb1ce0a7a760b65071ed63443c39ec42ae3e2dc85782e5cf17c4b8714a50", func := "drystone/drystonelaw06.XorTurns", spec := "xorTurns", apart := false }
def XorTurnsSaid : Prop := xorTurnsRow.holds Try.pinned (OpenSpec.ofChange xorTurnsSpec)

/-- ITS FALSE NEIGHBOUR: 'it returns false'. Refute it at one input. -/
def xorTurnsWrong : ChangeSpec := { name := "xorTurns", fn := fun _ => fun
  | [d1, d2, d3] => { results := [.lit (.bool false)], args := [d1, d2, d3] }
  | _ => none }
def XorTurnsWrongFalsely : Prop := xorTurnsRow.holds Try.pinned (OpenSpec.ofChange xorTurnsWrong)

/-- 'drystonelaw06.XorBack': WHATEVER THE INPUT: true; the input reads as it did. -/
def xorBackSpec : ChangeSpec := { name := "xorBack", fn := fun _ => fun
  | [d1, d2, d3] => { results := [.lit (.bool true)], args := [d1, d2, d3] }
  | _ => none }
def xorBackRow : OpenClaim := { program := "ytnahblhjjpjnbaa", sum := "eff0bb1ce0a7a760b65071ed63443c39ec42ae3e2dc85782e5cf17c4b8714a50", func := "drystone/drystonelaw06.XorBack", spec := "xorBack", apart := false }
def XorBackSaid : Prop := xorBackRow.holds Try.pinned (OpenSpec.ofChange xorBackSpec)

/-- ITS FALSE NEIGHBOUR: 'it returns false'. Refute it at one input. -/
def xorBackWrong : ChangeSpec := { name := "xorBack", fn := fun _ => fun
  | [d1, d2, d3] => { results := [.lit (.bool false)], args := [d1, d2, d3] }
  | _ => none }
def XorBackWrongFalsely : Prop := xorBackRow.holds Try.pinned (OpenSpec.ofChange xorBackWrong)

/- THE SECOND FORM. 'bulk': how many values and letters a reading holds, each counted each time it is reached (what is shared counts as often as it is met; a slice's spare places count too). A statement '..UptoSaid' is the law's where the arguments, and the package variables that the reading takes, are together of bulk at most 1048576: NARROWER than '..Said'. Prove '..Said' where nothing that the law and all that it calls make is longer than what came in: it says more and counts as full. Else prove '..UptoSaid'. A law counts once. -/
mutual
def uptoBulk {H : Type} : DataW H → Nat
  | .lit (.string bytes) => bytes.length + 1
  | .lit _ => 1
  | .nil => 1
  | .ptr d => uptoBulk d + 1
  | .slice elems spare => uptoBulkAll elems + uptoBulkAll spare + 1
  | .agg parts => uptoBulkAll parts + 1
  | .iface _ d => uptoBulk d + 1
  | .map entries => uptoBulkEntries entries + 1
  | .held _ => 1
def uptoBulkAll {H : Type} : List (DataW H) → Nat
  | [] => 0
  | d :: r => uptoBulk d + uptoBulkAll r
def uptoBulkEntries {H : Type} : List (Lit × DataW H) → Nat
  | [] => 0
  | x :: r => uptoBulkEntry x + uptoBulkEntries r
def uptoBulkEntry {H : Type} : Lit × DataW H → Nat
  | (.string bytes, d) => bytes.length + uptoBulk d + 1
  | (_, d) => uptoBulk d + 1
 end
def uptoSmall : (H : Type) → List (DataW H) → Bool := fun _ ds => decide (uptoBulkAll ds ≤ 1048576)
def OpenSpec.upto (s : _root_.Go.ChangeSpec) : _root_.Go.OpenSpec := { _root_.Go.OpenSpec.ofChange s with cond := some uptoSmall }

/-- 'drystonelaw06.XorOf', WHERE WHAT IT READS IS OF BULK AT MOST 1048576: true; the input reads as it did. -/
def xorOfUptoRow : OpenClaim := { program := "ytnahblhjjpjnbaa", sum := "eff0bb1ce0a7a760b65071ed63443c39ec42ae3e2dc85782e5cf17c4b8714a50", func := "drystone/drystonelaw06.XorOf", spec := "xorOf", apart := false, narrowed := true }
def XorOfUptoSaid : Prop := xorOfUptoRow.holds Try.pinned (OpenSpec.upto xorOfSpec)

/-- 'drystonelaw06.XorNone', WHERE WHAT IT READS IS OF BULK AT MOST 1048576: true; the input reads as it did. -/
def xorNoneUptoRow : OpenClaim := { program := "ytnahblhjjpjnbaa", sum := "eff0bb1ce0a7a760b65071ed63443c39ec42ae3e2dc85782e5cf17c4b8714a50", func := "drystone/drystonelaw06.XorNone", spec := "xorNone", apart := false, narrowed := true }
def XorNoneUptoSaid : Prop := xorNoneUptoRow.holds Try.pinned (OpenSpec.upto xorNoneSpec)

/-- 'drystonelaw06.XorBut', WHERE WHAT IT READS IS OF BULK AT MOST 1048576: true; the input reads as it did. -/
def xorButUptoRow : OpenClaim := { program := "ytnahblhjjpjnbaa", sum := "eff0bb1ce0a7a760b65071ed63443c39ec42ae3e2dc85782e5cf17c4b8714a50", func := "drystone/drystonelaw06.XorBut", spec := "xorBut", apart := false, narrowed := true }
def XorButUptoSaid : Prop := xorButUptoRow.holds Try.pinned (OpenSpec.upto xorButSpec)

/-- 'drystonelaw06.XorTurns', WHERE WHAT IT READS IS OF BULK AT MOST 1048576: true; the input reads as it did. -/
def xorTurnsUptoRow : OpenClaim := { program := "ytnahblhjjpjnbaa", sum := "eff0bb1ce0a7a760b65071ed63443c39ec42ae3e2dc85782e5cf17c4b8714a50", func := "drystone/drystonelaw06.XorTurns", spec := "xorTurns", apart := false, narrowed := true }
def XorTurnsUptoSaid : Prop := xorTurnsUptoRow.holds Try.pinned (OpenSpec.upto xorTurnsSpec)

/-- 'drystonelaw06.XorBack', WHERE WHAT IT READS IS OF BULK AT MOST 1048576: true; the input reads as it did. -/
def xorBackUptoRow : OpenClaim := { program := "ytnahblhjjpjnbaa", sum := "eff0bb1ce0a7a760b65071ed63443c39ec42ae3e2dc85782e5cf17c4b8714a50", func := "drystone/drystonelaw06.XorBack", spec := "xorBack", apart := false, narrowed := true }
def XorBackUptoSaid : Prop := xorBackUptoRow.holds Try.pinned (OpenSpec.upto xorBackSpec)

end Rows
end Go.Proofs.Ytnahblhjjpjnbaa
