/-
  No cell of these rows narrows 'for every input' (looked for: loops, veiled, ifaces, maps, wideKeys, modest, calm, conditions, laid).
  DERIVED. THE GIVEN ROWS OF THIS SEAT. 5 by the template 'for every input the law returns true; each argument reads behind the call as it read before'; 0 by the template 'total and deterministic' (their statements: YtlkfinkgekkcfaaTotals.lean).
  GIVEN WITH THE SEED: the statements are not yours to turn. If you find one false, say at which input.
  Laid BY PROGRAM, IN A SANDBOX (cutbox-rows.mjs): the forced cells as the released guide's own fill.sh prints them over the translation 30ce27665f89446c… (all of the seat's roots in one cut). By AI agents, Wed Nov 11 2026. No macro, syntax, notation, axiom, sorry.
-/
import Derived.Test.YtlkfinkgekkcfaaChecked
import GoSem.Claim
import GoSem.ClaimJoined
import GoSem.ClaimMapViews
import Derived.JoinedTies
import Derived.KernelRfl
namespace Go.Proofs.Ytlkfinkgekkcfaa
/- THE CELL 'sum', in the pinned program and in every row, IS THE sha256 OF THE DUMP (.gsa) THAT YtlkfinkgekkcfaaProg.lean LOADS. Nothing in Lean hashes anything: it is a label: what it is worth is what the hold of that sum in a sandbox is worth. -/
noncomputable def Try.pinned : Pinned := { name := "ytlkfinkgekkcfaa", sum := "30ce27665f89446c3c540c8f833016a14c11743ab0c7b238baf529966b09f064", checked := Try.checked }
namespace Rows
def none {H : Type} : Left H := { results := [], args := [] }

/-- 'drystonelaw18.VictimOrder': WHATEVER THE INPUT: true; the input reads as it did. -/
def victimOrderSpec : ChangeSpec := { name := "victimOrder", fn := fun _ => fun
  | [d1, d2, d3, d4] => { results := [.lit (.bool true)], args := [d1, d2, d3, d4] }
  | _ => none }
def victimOrderRow : OpenClaim := { program := "ytlkfinkgekkcfaa", sum := "30ce27665f89446c3c540c8f833016a14c11743ab0c7b238baf529966b09f064", func := "drystone/drystonelaw18.VictimOrder", spec := "victimOrder", unfollowed := true, recurses := true, apart := false }
def VictimOrderSaid : Prop := victimOrderRow.holds Try.pinned (OpenSpec.ofChange victimOrderSpec)

/-- ITS FALSE NEIGHBOUR: 'it returns false'. Refute it at one input. -/
def victimOrderWrong : ChangeSpec := { name := "victimOrder", fn := fun _ => fun
  | [d1, d2, d3, d4] => { results := [.lit (.bool false)], args := [d1, d2, d3, d4] }
  | _ => none }
def VictimOrderWrongFalsely : Prop := victimOrderRow.holds Try.pinned (OpenSpec.ofChange victimOrderWrong)

/-- 'drystonelaw18.VictimEmpty': WHATEVER THE INPUT: true; the input reads as it did. -/
def victimEmptySpec : ChangeSpec := { name := "victimEmpty", fn := fun _ => fun
  | [d1, d2, d3, d4] => { results := [.lit (.bool true)], args := [d1, d2, d3, d4] }
  | _ => none }
def victimEmptyRow : OpenClaim := { program := "ytlkfinkgekkcfaa", sum := "30ce27665f89446c3c540c8f833016a14c11743ab0c7b238baf529966b09f064", func := "drystone/drystonelaw18.VictimEmpty", spec := "victimEmpty", apart := false }
def VictimEmptySaid : Prop := victimEmptyRow.holds Try.pinned (OpenSpec.ofChange victimEmptySpec)

/-- ITS FALSE NEIGHBOUR: 'it returns false'. Refute it at one input. -/
def victimEmptyWrong : ChangeSpec := { name := "victimEmpty", fn := fun _ => fun
  | [d1, d2, d3, d4] => { results := [.lit (.bool false)], args := [d1, d2, d3, d4] }
  | _ => none }
def VictimEmptyWrongFalsely : Prop := victimEmptyRow.holds Try.pinned (OpenSpec.ofChange victimEmptyWrong)

/-- 'drystonelaw18.VictimTies': WHATEVER THE INPUT: true; the input reads as it did. -/
def victimTiesSpec : ChangeSpec := { name := "victimTies", fn := fun _ => fun
  | [d1, d2, d3, d4, d5] => { results := [.lit (.bool true)], args := [d1, d2, d3, d4, d5] }
  | _ => none }
def victimTiesRow : OpenClaim := { program := "ytlkfinkgekkcfaa", sum := "30ce27665f89446c3c540c8f833016a14c11743ab0c7b238baf529966b09f064", func := "drystone/drystonelaw18.VictimTies", spec := "victimTies", apart := false }
def VictimTiesSaid : Prop := victimTiesRow.holds Try.pinned (OpenSpec.ofChange victimTiesSpec)

/-- ITS FALSE NEIGHBOUR: 'it returns false'. Refute it at one input. -/
def victimTiesWrong : ChangeSpec := { name := "victimTies", fn := fun _ => fun
  | [d1, d2, d3, d4, d5] => { results := [.lit (.bool false)], args := [d1, d2, d3, d4, d5] }
  | _ => none }
def VictimTiesWrongFalsely : Prop := victimTiesRow.holds Try.pinned (OpenSpec.ofChange victimTiesWrong)

/-- 'drystonelaw18.VictimBetter': WHATEVER THE INPUT: true; the input reads as it did. -/
def victimBetterSpec : ChangeSpec := { name := "victimBetter", fn := fun _ => fun
  | [d1, d2, d3, d4, d5] => { results := [.lit (.bool true)], args := [d1, d2, d3, d4, d5] }
  | _ => none }
def victimBetterRow : OpenClaim := { program := "ytlkfinkgekkcfaa", sum := "30ce27665f89446c3c540c8f833016a14c11743ab0c7b238baf529966b09f064", func := "drystone/drystonelaw18.VictimBetter", spec := "victimBetter", apart := false }
def VictimBetterSaid : Prop := victimBetterRow.holds Try.pinned (OpenSpec.ofChange victimBetterSpec)

/-- ITS FALSE NEIGHBOUR: 'it returns false'. Refute it at one input. -/
def victimBetterWrong : ChangeSpec := { name := "victimBetter", fn := fun _ => fun
  | [d1, d2, d3, d4, d5] => { results := [.lit (.bool false)], args := [d1, d2, d3, d4, d5] }
  | _ => none }
def VictimBetterWrongFalsely : Prop := victimBetterRow.holds Try.pinned (OpenSpec.ofChange victimBetterWrong)

/-- 'drystonelaw18.VictimChooses': WHATEVER THE INPUT: true; the input reads as it did. -/
def victimChoosesSpec : ChangeSpec := { name := "victimChooses", fn := fun _ => fun
  | [d1, d2, d3, d4, d5] => { results := [.lit (.bool true)], args := [d1, d2, d3, d4, d5] }
  | _ => none }
def victimChoosesRow : OpenClaim := { program := "ytlkfinkgekkcfaa", sum := "30ce27665f89446c3c540c8f833016a14c11743ab0c7b238baf529966b09f064", func := "drystone/drystonelaw18.VictimChooses", spec := "victimChooses", apart := false }
def VictimChoosesSaid : Prop := victimChoosesRow.holds Try.pinned (OpenSpec.ofChange victimChoosesSpec)

/-- ITS FALSE NEIGHBOUR: 'it returns false'. Refute it at one input. -/
def victimChoosesWrong : ChangeSpec := { name := "victimChooses", fn := fun _ => fun
  | [d1, d2, d3, d4, d5] => { results := [.lit (.bool false)], args := [d1, d2, d3, d4, d5] }
  | _ => none }
def VictimChoosesWrongFalsely : Prop := victimChoosesRow.holds Try.pinned (OpenSpec.ofChange victimChoosesWrong)

/- THE SECOND FORM. 'bulk': how many values and letters a reading holds, each counted each time it is reached (what is shared counts as often as it is met; a slice's spare places count too). A statement '..UptoSaid' is the law's where the arguments, and the package variables that the reading takes, are together of bulk at most 1048576: NARROWER than '..Said'. Prove '..Said' where nothing that the law and all that it calls make is longer than what came in: it says more and counts as full. Else prove '..UptoSaid'. A law counts once. -/
mutual
def uptoBulk {H : Type} : DataW H → Nat
  | .lit (.string bytes) => bytes.length + 1
  | .lit _ => 1
  | .nil => 1
  | .ptr d => uptoBulk d + 1
  | .slice elems spare => uptoBulkAll elems + uptoBulkAll spare + 1
  | .agg parts => uptoBulkAll parts + 1
  | .iface _ d => uptoBulk d + 1
  | .map entries => uptoBulkEntries entries + 1
  | .held _ => 1
def uptoBulkAll {H : Type} : List (DataW H) → Nat
  | [] => 0
  | d :: r => uptoBulk d + uptoBulkAll r
def uptoBulkEntries {H : Type} : List (Lit × DataW H) → Nat
  | [] => 0
  | x :: r => uptoBulkEntry x + uptoBulkEntries r
def uptoBulkEntry {H : Type} : Lit × DataW H → Nat
  | (.string bytes, d) => bytes.length + uptoBulk d + 1
  | (_, d) => uptoBulk d + 1
 end
def uptoSmall : (H : Type) → List (DataW H) → Bool := fun _ ds => decide (uptoBulkAll ds ≤ 1048576)
def OpenSpec.upto (s : _root_.Go.ChangeSpec) : _root_.Go.OpenSpec := { _root_.Go.OpenSpec.ofChange s with cond := some uptoSmall }

/-- 'drystonelaw18.VictimOrder', WHERE WHAT IT READS IS OF BULK AT MOST 1048576: true; the input reads as it did. -/
def victimOrderUptoRow : OpenClaim := { program := "ytlkfinkgekkcfaa", sum := "30ce27665f89446c3c540c8f833016a14c11743ab0c7b238baf529966b09f064", func := "drystone/drystonelaw18.VictimOrder", spec := "victimOrder", unfollowed := true, recurses := true, apart := false, narrowed := true }
def VictimOrderUptoSaid : Prop := victimOrderUptoRow.holds Try.pinned (OpenSpec.upto victimOrderSpec)

/-- 'drystonelaw18.VictimEmpty', WHERE WHAT IT READS IS OF BULK AT MOST 1048576: true; the input reads as it did. -/
def victimEmptyUptoRow : OpenClaim := { program := "ytlkfinkgekkcfaa", sum := "30ce27665f89446c3c540c8f833016a14c11743ab0c7b238baf529966b09f064", func := "drystone/drystonelaw18.VictimEmpty", spec := "victimEmpty", apart := false, narrowed := true }
def VictimEmptyUptoSaid : Prop := victimEmptyUptoRow.holds Try.pinned (OpenSpec.upto victimEmptySpec)

/-- 'drystonelaw18.VictimTies', WHERE WHAT IT READS IS OF BULK AT MOST 1048576: true; the input reads as it did. -/
def victimTiesUptoRow : OpenClaim := { program := "ytlkfinkgekkcfaa", sum := "30ce27665f89446c3c540c8f833016a14c11743ab0c7b238baf529966b09f064", func := "drystone/drystonelaw18.VictimTies", spec := "victimTies", apart := false, narrowed := true }
def VictimTiesUptoSaid : Prop := victimTiesUptoRow.holds Try.pinned (OpenSpec.upto victimTiesSpec)

/-- 'drystonelaw18.VictimBetter', WHERE WHAT IT READS IS OF BULK AT MOST 1048576: true; the input reads as it did. -/
def victimBetterUptoRow : OpenClaim := { program := "ytlkfinkgekkcfaa", sum := "30ce27665f89446c3c540c8f833016a14c11743ab0c7b238baf529966b09f064", func := "drystone/drystonelaw18.VictimBetter", spec := "victimBetter", apart := false, narrowed := true }
def VictimBetterUptoSaid : Prop := victimBetterUptoRow.holds Try.pinned (OpenSpec.upto victimBetterSpec)

/-- 'drystonelaw18.VictimChooses', WHERE WHAT IT READS IS OF BULK AT MOST 1048576: true; the input reads as it did. -/
def victimChoosesUptoRow : OpenClaim := { program := "ytlkfinkgekkcfaa", sum := "30ce27665f89446c3c540c8f833016a14c11743ab0c7b238baf529966b09f064", func := "drystone/drystonelaw18.VictimChooses", spec := "victimChooses", apart := false, narrowed := true }
def VictimChoosesUptoSaid : Prop := victimChoosesUptoRow.holds Try.pinned (OpenSpec.upto victimChoosesSpec)

end Rows
end Go.Proofs.Ytlkfinkgekkcfaa
