/-
  No cell of these rows narrows 'for every input' (looked for: loops, veiled, ifaces, maps, wideKeys, modest, calm, conditions, laid).
  DERIVED. THE GIVEN ROWS OF THIS SEAT. 6 by the template 'for every input the law returns true; each argument reads behind the call as it read before'; 0 by the template 'total and deterministic' (their statements: YtkgeomjbagoomaaTotals.lean).
  GIVEN WITH THE SEED: the statements are not yours to turn. If you find one false, say at which input.
  Laid BY PROGRAM, IN A SANDBOX (cutbox-rows.mjs): the forced cells as the released guide's own fill.sh prints them over the translation 3f644ba6b5cf9668… (all of the seat's roots in one cut). By AI agents, Wed Nov 11 2026. No macro, syntax, notation, axiom, sorry.
-/
import Derived.Test.YtkgeomjbagoomaaChecked
import GoSem.Claim
import GoSem.ClaimJoined
import GoSem.ClaimMapViews
import Derived.JoinedTies
import Derived.KernelRfl
namespace Go.Proofs.Ytkgeomjbagoomaa
/- THE CELL 'sum', in the pinned program and in every row, IS THE sha256 OF THE DUMP (.gsa) THAT YtkgeomjbagoomaaProg.lean LOADS. Nothing in Lean hashes anything: it is a label: what it is worth is what the hold of that sum in a sandbox is worth. -/
noncomputable def Try.pinned : Pinned := { name := "ytkgeomjbagoomaa", sum := "3f644ba6b5cf9668c4df3692e852fb9506a0dd555d535e941120e35fda8871bd", checked := Try.checked }
namespace Rows
def none {H : Type} : Left H := { results := [], args := [] }

/-- 'drystonelaw01.SumOf': WHATEVER THE INPUT: true; the input reads as it did. -/
def sumOfSpec : ChangeSpec := { name := "sumOf", fn := fun _ => fun
  | [d] => { results := [.lit (.bool true)], args := [d] }
  | _ => none }
def sumOfRow : OpenClaim := { program := "ytkgeomjbagoomaa", sum := "3f644ba6b5cf9668c4df3692e852fb9506a0dd555d535e941120e35fda8871bd", func := "drystone/drystonelaw01.SumOf", spec := "sumOf", apart := false }
def SumOfSaid : Prop := sumOfRow.holds Try.pinned (OpenSpec.ofChange sumOfSpec)

/-- ITS FALSE NEIGHBOUR: 'it returns false'. Refute it at one input. -/
def sumOfWrong : ChangeSpec := { name := "sumOf", fn := fun _ => fun
  | [d] => { results := [.lit (.bool false)], args := [d] }
  | _ => none }
def SumOfWrongFalsely : Prop := sumOfRow.holds Try.pinned (OpenSpec.ofChange sumOfWrong)

/-- 'drystonelaw01.SumAdds': WHATEVER THE INPUT: true; the input reads as it did. -/
def sumAddsSpec : ChangeSpec := { name := "sumAdds", fn := fun _ => fun
  | [d1, d2, d3] => { results := [.lit (.bool true)], args := [d1, d2, d3] }
  | _ => none }
def sumAddsRow : OpenClaim := { program := "ytkgeomjbagoomaa", sum := "3f644ba6b5cf9668c4df3692e852fb9506a0dd555d535e941120e35fda8871bd", func := "drystone/drystonelaw01.SumAdds", spec := "sumAdds", apart := false }
def SumAddsSaid : Prop := sumAddsRow.holds Try.pinned (OpenSpec.ofChange sumAddsSpec)

/-- ITS FALSE NEIGHBOUR: 'it returns false'. Refute it at one input. -/
def sumAddsWrong : ChangeSpec := { name := "sumAdds", fn := fun _ => fun
  | [d1, d2, d3] => { results := [.lit (.bool false)], args := [d1, d2, d3] }
  | _ => none }
def SumAddsWrongFalsely : Prop := sumAddsRow.holds Try.pinned (OpenSpec.ofChange sumAddsWrong)

/-- 'drystonelaw01.SumFlips': WHATEVER THE INPUT: true; the input reads as it did. -/
def sumFlipsSpec : ChangeSpec := { name := "sumFlips", fn := fun _ => fun
  | [d1, d2] => { results := [.lit (.bool true)], args := [d1, d2] }
  | _ => none }
def sumFlipsRow : OpenClaim := { program := "ytkgeomjbagoomaa", sum := "3f644ba6b5cf9668c4df3692e852fb9506a0dd555d535e941120e35fda8871bd", func := "drystone/drystonelaw01.SumFlips", spec := "sumFlips", apart := false }
def SumFlipsSaid : Prop := sumFlipsRow.holds Try.pinned (OpenSpec.ofChange sumFlipsSpec)

/-- ITS FALSE NEIGHBOUR: 'it returns false'. Refute it at one input. -/
def sumFlipsWrong : ChangeSpec := { name := "sumFlips", fn := fun _ => fun
  | [d1, d2] => { results := [.lit (.bool false)], args := [d1, d2] }
  | _ => none }
def SumFlipsWrongFalsely : Prop := sumFlipsRow.holds Try.pinned (OpenSpec.ofChange sumFlipsWrong)

/-- 'drystonelaw01.SumOpens': WHATEVER THE INPUT: true; the input reads as it did. -/
def sumOpensSpec : ChangeSpec := { name := "sumOpens", fn := fun _ => fun
  | [d] => { results := [.lit (.bool true)], args := [d] }
  | _ => none }
def sumOpensRow : OpenClaim := { program := "ytkgeomjbagoomaa", sum := "3f644ba6b5cf9668c4df3692e852fb9506a0dd555d535e941120e35fda8871bd", func := "drystone/drystonelaw01.SumOpens", spec := "sumOpens", apart := false }
def SumOpensSaid : Prop := sumOpensRow.holds Try.pinned (OpenSpec.ofChange sumOpensSpec)

/-- ITS FALSE NEIGHBOUR: 'it returns false'. Refute it at one input. -/
def sumOpensWrong : ChangeSpec := { name := "sumOpens", fn := fun _ => fun
  | [d] => { results := [.lit (.bool false)], args := [d] }
  | _ => none }
def SumOpensWrongFalsely : Prop := sumOpensRow.holds Try.pinned (OpenSpec.ofChange sumOpensWrong)

/-- 'drystonelaw01.SumEnds': WHATEVER THE INPUT: true; the input reads as it did. -/
def sumEndsSpec : ChangeSpec := { name := "sumEnds", fn := fun _ => fun
  | [d1, d2] => { results := [.lit (.bool true)], args := [d1, d2] }
  | _ => none }
def sumEndsRow : OpenClaim := { program := "ytkgeomjbagoomaa", sum := "3f644ba6b5cf9668c4df3692e852fb9506a0dd555d535e941120e35fda8871bd", func := "drystone/drystonelaw01.SumEnds", spec := "sumEnds", apart := false }
def SumEndsSaid : Prop := sumEndsRow.holds Try.pinned (OpenSpec.ofChange sumEndsSpec)

/-- ITS FALSE NEIGHBOUR: 'it returns false'. Refute it at one input. -/
def sumEndsWrong : ChangeSpec := { name := "sumEnds", fn := fun _ => fun
  | [d1, d2] => { results := [.lit (.bool false)], args := [d1, d2] }
  | _ => none }
def SumEndsWrongFalsely : Prop := sumEndsRow.holds Try.pinned (OpenSpec.ofChange sumEndsWrong)

/-- 'drystonelaw01.SumSeals': WHATEVER THE INPUT: true; the input reads as it did. -/
def sumSealsSpec : ChangeSpec := { name := "sumSeals", fn := fun _ => fun
  | [d] => { results := [.lit (.bool true)], args := [d] }
  | _ => none }
def sumSealsRow : OpenClaim := { program := "ytkgeomjbagoomaa", sum := "3f644ba6b5cf9668c4df3692e852fb9506a0dd555d535e941120e35fda8871bd", func := "drystone/drystonelaw01.SumSeals", spec := "sumSeals", apart := false }
def SumSealsSaid : Prop := sumSealsRow.holds Try.pinned (OpenSpec.ofChange sumSealsSpec)

/-- ITS FALSE NEIGHBOUR: 'it returns false'. Refute it at one input. -/
def sumSealsWrong : ChangeSpec := { name := "sumSeals", fn := fun _ => fun
  | [d] => { results := [.lit (.bool false)], args := [d] }
  | _ => none }
def SumSealsWrongFalsely : Prop := sumSealsRow.holds Try.pinned (OpenSpec.ofChange sumSealsWrong)

/- THE SECOND FORM. 'bulk': how many values and letters a reading holds, each counted each time it is reached (what is shared counts as often as it is met; a slice's spare places count too). A statement '..UptoSaid' is the law's where the arguments, and the package variables that the reading takes, are together of bulk at most 1048576: NARROWER than '..Said'. Prove '..Said' where nothing that the law and all that it calls make is longer than what came in: it says more and counts as full. Else prove '..UptoSaid'. A law counts once. -/
mutual
def uptoBulk {H : Type} : DataW H → Nat
  | .lit (.string bytes) => bytes.length + 1
  | .lit _ => 1
  | .nil => 1
  | .ptr d => uptoBulk d + 1
  | .slice elems spare => uptoBulkAll elems + uptoBulkAll spare + 1
  | .agg parts => uptoBulkAll parts + 1
  | .iface _ d => uptoBulk d + 1
  | .map entries => uptoBulkEntries entries + 1
  | .held _ => 1
def uptoBulkAll {H : Type} : List (DataW H) → Nat
  | [] => 0
  | d :: r => uptoBulk d + uptoBulkAll r
def uptoBulkEntries {H : Type} : List (Lit × DataW H) → Nat
  | [] => 0
  | x :: r => uptoBulkEntry x + uptoBulkEntries r
def uptoBulkEntry {H : Type} : Lit × DataW H → Nat
  | (.string bytes, d) => bytes.length + uptoBulk d + 1
  | (_, d) => uptoBulk d + 1
 end
def uptoSmall : (H : Type) → List (DataW H) → Bool := fun _ ds => decide (uptoBulkAll ds ≤ 1048576)
def OpenSpec.upto (s : _root_.Go.ChangeSpec) : _root_.Go.OpenSpec := { _root_.Go.OpenSpec.ofChange s with cond := some uptoSmall }

/-- 'drystonelaw01.SumOf', WHERE WHAT IT READS IS OF BULK AT MOST 1048576: true; the input reads as it did. -/
def sumOfUptoRow : OpenClaim := { program := "ytkgeomjbagoomaa", sum := "3f644ba6b5cf9668c4df3692e852fb9506a0dd555d535e941120e35fda8871bd", func := "drystone/drystonelaw01.SumOf", spec := "sumOf", apart := false, narrowed := true }
def SumOfUptoSaid : Prop := sumOfUptoRow.holds Try.pinned (OpenSpec.upto sumOfSpec)

/-- 'drystonelaw01.SumAdds', WHERE WHAT IT READS IS OF BULK AT MOST 1048576: true; the input reads as it did. -/
def sumAddsUptoRow : OpenClaim := { program := "ytkgeomjbagoomaa", sum := "3f644ba6b5cf9668c4df3692e852fb9506a0dd555d535e941120e35fda8871bd", func := "drystone/drystonelaw01.SumAdds", spec := "sumAdds", apart := false, narrowed := true }
def SumAddsUptoSaid : Prop := sumAddsUptoRow.holds Try.pinned (OpenSpec.upto sumAddsSpec)

/-- 'drystonelaw01.SumFlips', WHERE WHAT IT READS IS OF BULK AT MOST 1048576: true; the input reads as it did. -/
def sumFlipsUptoRow : OpenClaim := { program := "ytkgeomjbagoomaa", sum := "3f644ba6b5cf9668c4df3692e852fb9506a0dd555d535e941120e35fda8871bd", func := "drystone/drystonelaw01.SumFlips", spec := "sumFlips", apart := false, narrowed := true }
def SumFlipsUptoSaid : Prop := sumFlipsUptoRow.holds Try.pinned (OpenSpec.upto sumFlipsSpec)

/-- 'drystonelaw01.SumOpens', WHERE WHAT IT READS IS OF BULK AT MOST 1048576: true; the input reads as it did. -/
def sumOpensUptoRow : OpenClaim := { program := "ytkgeomjbagoomaa", sum := "3f644ba6b5cf9668c4df3692e852fb9506a0dd555d535e941120e35fda8871bd", func := "drystone/drystonelaw01.SumOpens", spec := "sumOpens", apart := false, narrowed := true }
def SumOpensUptoSaid : Prop := sumOpensUptoRow.holds Try.pinned (OpenSpec.upto sumOpensSpec)

/-- 'drystonelaw01.SumEnds', WHERE WHAT IT READS IS OF BULK AT MOST 1048576: true; the input reads as it did. -/
def sumEndsUptoRow : OpenClaim := { program := "ytkgeomjbagoomaa", sum := "3f644ba6b5cf9668c4df3692e852fb9506a0dd555d535e941120e35fda8871bd", func := "drystone/drystonelaw01.SumEnds", spec := "sumEnds", apart := false, narrowed := true }
def SumEndsUptoSaid : Prop := sumEndsUptoRow.holds Try.pinned (OpenSpec.upto sumEndsSpec)

/-- 'drystonelaw01.SumSeals', WHERE WHAT IT READS IS OF BULK AT MOST 1048576: true; the input reads as it did. -/
def sumSealsUptoRow : OpenClaim := { program := "ytkgeomjbagoomaa", sum := "3f644ba6b5cf9668c4df3692e852fb9506a0dd555d535e941120e35fda8871bd", func := "drystone/drystonelaw01.SumSeals", spec := "sumSeals", apart := false, narrowed := true }
def SumSealsUptoSaid : Prop := sumSealsUptoRow.holds Try.pinned (OpenSpec.upto sumSealsSpec)

end Rows
end Go.Proofs.Ytkgeomjbagoomaa
