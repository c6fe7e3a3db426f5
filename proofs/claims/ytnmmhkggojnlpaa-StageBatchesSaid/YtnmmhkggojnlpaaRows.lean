/-
  No cell of these rows narrows 'for every input' (looked for: loops, veiled, ifaces, maps, wideKeys, modest, calm, conditions, laid).
  DERIVED. THE GIVEN ROWS OF THIS SEAT. 5 by the template 'for every input the law returns true; each argument reads behind the call as it read before'; 0 by the template 'total and deterministic' (their statements: YtnmmhkggojnlpaaTotals.lean).
  GIVEN WITH THE SEED: the statements are not yours to turn. If you find one false, say at which input.
  Laid BY PROGRAM, IN A SANDBOX (cutbox-rows.mjs): the forced cells as the released guide's own fill.sh prints them over the translation 0a577eb6d030fe53… (all of the seat's roots in one cut). By AI agents, Wed Nov 11 2026. No macro, syntax, notation, axiom, sorry.
-/
import Derived.Test.YtnmmhkggojnlpaaChecked
import GoSem.Claim
import GoSem.ClaimJoined
import GoSem.ClaimMapViews
import Derived.JoinedTies
import Derived.KernelRfl
namespace Go.Proofs.Ytnmmhkggojnlpaa
/- THE CELL 'sum', in the pinned program and in every row, IS THE sha256 OF THE DUMP (.gsa) THAT YtnmmhkggojnlpaaProg.lean LOADS. Nothing in Lean hashes anything: it is a label: what it is worth is what the hold of that sum in a sandbox is worth. -/
noncomputable def Try.pinned : Pinned := { name := "ytnmmhkggojnlpaa", sum := "0a577eb6d030fe53355c3679aad2a36e3ef743db53f53d0261d584e9c7a7c2f2", checked := Try.checked }
namespace Rows
def none {H : Type} : Left H := { results := [], args := [] }

/-- 'drystonelaw14.StageViews': WHATEVER THE INPUT: true; the input reads as it did. -/
def stageViewsSpec : ChangeSpec := { name := "stageViews", fn := fun _ => fun
  | [d1, d2] => { results := [.lit (.bool true)], args := [d1, d2] }
  | _ => none }
def stageViewsRow : OpenClaim := { program := "ytnmmhkggojnlpaa", sum := "0a577eb6d030fe53355c3679aad2a36e3ef743db53f53d0261d584e9c7a7c2f2", func := "drystone/drystonelaw14.StageViews", spec := "stageViews", apart := false }
def StageViewsSaid : Prop := stageViewsRow.holds Try.pinned (OpenSpec.ofChange stageViewsSpec)

/-- ITS FALSE NEIGHBOUR: 'it returns false'. Refute it at one input. -/
def stageViewsWrong : ChangeSpec := { name := "stageViews", fn := fun _ => fun
  | [d1, d2] => { results := [.lit (.bool false)], args := [d1, d2] }
  | _ => none }
def StageViewsWrongFalsely : Prop := stageViewsRow.holds Try.pinned (OpenSpec.ofChange stageViewsWrong)

/-- 'drystonelaw14.StageFinds': WHATEVER THE INPUT: true; the input reads as it did. -/
def stageFindsSpec : ChangeSpec := { name := "stageFinds", fn := fun _ => fun
  | [d1, d2] => { results := [.lit (.bool true)], args := [d1, d2] }
  | _ => none }
def stageFindsRow : OpenClaim := { program := "ytnmmhkggojnlpaa", sum := "0a577eb6d030fe53355c3679aad2a36e3ef743db53f53d0261d584e9c7a7c2f2", func := "drystone/drystonelaw14.StageFinds", spec := "stageFinds", apart := false }
def StageFindsSaid : Prop := stageFindsRow.holds Try.pinned (OpenSpec.ofChange stageFindsSpec)

/-- ITS FALSE NEIGHBOUR: 'it returns false'. Refute it at one input. -/
def stageFindsWrong : ChangeSpec := { name := "stageFinds", fn := fun _ => fun
  | [d1, d2] => { results := [.lit (.bool false)], args := [d1, d2] }
  | _ => none }
def StageFindsWrongFalsely : Prop := stageFindsRow.holds Try.pinned (OpenSpec.ofChange stageFindsWrong)

/-- 'drystonelaw14.StageAgain': WHATEVER THE INPUT: true; the input reads as it did. -/
def stageAgainSpec : ChangeSpec := { name := "stageAgain", fn := fun _ => fun
  | [d1, d2] => { results := [.lit (.bool true)], args := [d1, d2] }
  | _ => none }
def stageAgainRow : OpenClaim := { program := "ytnmmhkggojnlpaa", sum := "0a577eb6d030fe53355c3679aad2a36e3ef743db53f53d0261d584e9c7a7c2f2", func := "drystone/drystonelaw14.StageAgain", spec := "stageAgain", apart := false }
def StageAgainSaid : Prop := stageAgainRow.holds Try.pinned (OpenSpec.ofChange stageAgainSpec)

/-- ITS FALSE NEIGHBOUR: 'it returns false'. Refute it at one input. -/
def stageAgainWrong : ChangeSpec := { name := "stageAgain", fn := fun _ => fun
  | [d1, d2] => { results := [.lit (.bool false)], args := [d1, d2] }
  | _ => none }
def StageAgainWrongFalsely : Prop := stageAgainRow.holds Try.pinned (OpenSpec.ofChange stageAgainWrong)

/-- 'drystonelaw14.StageAll': WHATEVER THE INPUT: true; the input reads as it did. -/
def stageAllSpec : ChangeSpec := { name := "stageAll", fn := fun _ => fun
  | [d1, d2] => { results := [.lit (.bool true)], args := [d1, d2] }
  | _ => none }
def stageAllRow : OpenClaim := { program := "ytnmmhkggojnlpaa", sum := "0a577eb6d030fe53355c3679aad2a36e3ef743db53f53d0261d584e9c7a7c2f2", func := "drystone/drystonelaw14.StageAll", spec := "stageAll", apart := false }
def StageAllSaid : Prop := stageAllRow.holds Try.pinned (OpenSpec.ofChange stageAllSpec)

/-- ITS FALSE NEIGHBOUR: 'it returns false'. Refute it at one input. -/
def stageAllWrong : ChangeSpec := { name := "stageAll", fn := fun _ => fun
  | [d1, d2] => { results := [.lit (.bool false)], args := [d1, d2] }
  | _ => none }
def StageAllWrongFalsely : Prop := stageAllRow.holds Try.pinned (OpenSpec.ofChange stageAllWrong)

/-- 'drystonelaw14.StageBatches': WHATEVER THE INPUT: true; the input reads as it did. -/
def stageBatchesSpec : ChangeSpec := { name := "stageBatches", fn := fun _ => fun
  | [d1, d2, d3] => { results := [.lit (.bool true)], args := [d1, d2, d3] }
  | _ => none }
def stageBatchesRow : OpenClaim := { program := "ytnmmhkggojnlpaa", sum := "0a577eb6d030fe53355c3679aad2a36e3ef743db53f53d0261d584e9c7a7c2f2", func := "drystone/drystonelaw14.StageBatches", spec := "stageBatches", unfollowed := true, recurses := true, apart := false }
def StageBatchesSaid : Prop := stageBatchesRow.holds Try.pinned (OpenSpec.ofChange stageBatchesSpec)

/-- ITS FALSE NEIGHBOUR: 'it returns false'. Refute it at one input. -/
def stageBatchesWrong : ChangeSpec := { name := "stageBatches", fn := fun _ => fun
  | [d1, d2, d3] => { results := [.lit (.bool false)], args := [d1, d2, d3] }
  | _ => none }
def StageBatchesWrongFalsely : Prop := stageBatchesRow.holds Try.pinned (OpenSpec.ofChange stageBatchesWrong)

/- THE SECOND FORM. 'bulk': how many values and letters a reading holds, each counted each time it is reached (what is shared counts as often as it is met; a slice's spare places count too). A statement '..UptoSaid' is the law's where the arguments, and the package variables that the reading takes, are together of bulk at most 1048576: NARROWER than '..Said'. Prove '..Said' where nothing that the law and all that it calls make is longer than what came in: it says more and counts as full. Else prove '..UptoSaid'. A law counts once. -/
mutual
def uptoBulk {H : Type} : DataW H → Nat
  | .lit (.string bytes) => bytes.length + 1
  | .lit _ => 1
  | .nil => 1
  | .ptr d => uptoBulk d + 1
  | .slice elems spare => uptoBulkAll elems + uptoBulkAll spare + 1
  | .agg parts => uptoBulkAll parts + 1
  | .iface _ d => uptoBulk d + 1
  | .map entries => uptoBulkEntries entries + 1
  | .held _ => 1
def uptoBulkAll {H : Type} : List (DataW H) → Nat
  | [] => 0
  | d :: r => uptoBulk d + uptoBulkAll r
def uptoBulkEntries {H : Type} : List (Lit × DataW H) → Nat
  | [] => 0
  | x :: r => uptoBulkEntry x + uptoBulkEntries r
def uptoBulkEntry {H : Type} : Lit × DataW H → Nat
  | (.string bytes, d) => bytes.length + uptoBulk d + 1
  | (_, d) => uptoBulk d + 1
 end
def uptoSmall : (H : Type) → List (DataW H) → Bool := fun _ ds => decide (uptoBulkAll ds ≤ 1048576)
def OpenSpec.upto (s : _root_.Go.ChangeSpec) : _root_.Go.OpenSpec := { _root_.Go.OpenSpec.ofChange s with cond := some uptoSmall }

/-- 'drystonelaw14.StageViews', WHERE WHAT IT READS IS OF BULK AT MOST 1048576: true; the input reads as it did. -/
def stageViewsUptoRow : OpenClaim := { program := "ytnmmhkggojnlpaa", sum := "0a577eb6d030fe53355c3679aad2a36e3ef743db53f53d0261d584e9c7a7c2f2", func := "drystone/drystonelaw14.StageViews", spec := "stageViews", apart := false, narrowed := true }
def StageViewsUptoSaid : Prop := stageViewsUptoRow.holds Try.pinned (OpenSpec.upto stageViewsSpec)

/-- 'drystonelaw14.StageFinds', WHERE WHAT IT READS IS OF BULK AT MOST 1048576: true; the input reads as it did. -/
def stageFindsUptoRow : OpenClaim := { program := "ytnmmhkggojnlpaa", sum := "0a577eb6d030fe53355c3679aad2a36e3ef743db53f53d0261d584e9c7a7c2f2", func := "drystone/drystonelaw14.StageFinds", spec := "stageFinds", apart := false, narrowed := true }
def StageFindsUptoSaid : Prop := stageFindsUptoRow.holds Try.pinned (OpenSpec.upto stageFindsSpec)

/-- 'drystonelaw14.StageAgain', WHERE WHAT IT READS IS OF BULK AT MOST 1048576: true; the input reads as it did. -/
def stageAgainUptoRow : OpenClaim := { program := "ytnmmhkggojnlpaa", sum := "0a577eb6d030fe53355c3679aad2a36e3ef743db53f53d0261d584e9c7a7c2f2", func := "drystone/drystonelaw14.StageAgain", spec := "stageAgain", apart := false, narrowed := true }
def StageAgainUptoSaid : Prop := stageAgainUptoRow.holds Try.pinned (OpenSpec.upto stageAgainSpec)

/-- 'drystonelaw14.StageAll', WHERE WHAT IT READS IS OF BULK AT MOST 1048576: true; the input reads as it did. -/
def stageAllUptoRow : OpenClaim := { program := "ytnmmhkggojnlpaa", sum := "0a577eb6d030fe53355c3679aad2a36e3ef743db53f53d0261d584e9c7a7c2f2", func := "drystone/drystonelaw14.StageAll", spec := "stageAll", apart := false, narrowed := true }
def StageAllUptoSaid : Prop := stageAllUptoRow.holds Try.pinned (OpenSpec.upto stageAllSpec)

/-- 'drystonelaw14.StageBatches', WHERE WHAT IT READS IS OF BULK AT MOST 1048576: true; the input reads as it did. -/
def stageBatchesUptoRow : OpenClaim := { program := "ytnmmhkggojnlpaa", sum := "0a577eb6d030fe53355c3679aad2a36e3ef743db53f53d0261d584e9c7a7c2f2", func := "drystone/drystonelaw14.StageBatches", spec := "stageBatches", unfollowed := true, recurses := true, apart := false, narrowed := true }
def StageBatchesUptoSaid : Prop := stageBatchesUptoRow.holds Try.pinned (OpenSpec.upto stageBatchesSpec)

end Rows
end Go.Proofs.Ytnmmhkggojnlpaa
