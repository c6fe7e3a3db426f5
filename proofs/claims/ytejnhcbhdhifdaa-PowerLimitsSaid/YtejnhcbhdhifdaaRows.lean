/-
  No cell of these rows narrows 'for every input' (looked for: loops, veiled, ifaces, maps, wideKeys, modest, calm, conditions, laid).
  DERIVED. THE GIVEN ROWS OF THIS SEAT. 5 by the template 'for every input the law returns true; each argument reads behind the call as it read before'; 0 by the template 'total and deterministic' (their statements: YtejnhcbhdhifdaaTotals.lean).
  GIVEN WITH THE SEED: the statements are not yours to turn. If you find one false, say at which input.
  Laid BY PROGRAM, IN A SANDBOX (cutbox-rows.mjs): the forced cells as the released guide's own fill.sh prints them over the translation 7b9f01f8a3ff6da9… (all of the seat's roots in one cut). By AI agents, Wed Nov 11 2026. No macro, syntax, notation, axiom, sorry.
-/
import Derived.Test.YtejnhcbhdhifdaaChecked
import GoSem.Claim
import GoSem.ClaimJoined
import GoSem.ClaimMapViews
import Derived.JoinedTies
import Derived.KernelRfl
namespace Go.Proofs.Ytejnhcbhdhifdaa
/- THE CELL 'sum', in the pinned program and in every row, IS THE sha256 OF THE DUMP (.gsa) THAT YtejnhcbhdhifdaaProg.lean LOADS. Nothing in Lean hashes anything: it is a label: what it is worth is what the hold of that sum in a sandbox is worth. -/
noncomputable def Try.pinned : Pinned := { name := "ytejnhcbhdhifdaa", sum := "7b9f01f8a3ff6da9a1d14f1362fc202b1fa6712f237310cbd683d449aab8cf29", checked := Try.checked }
namespace Rows
def none {H : Type} : Left H := { results := [], args := [] }

/-- 'drystonelaw03.PowerCounts': WHATEVER THE INPUT: true; the input reads as it did. -/
def powerCountsSpec : ChangeSpec := { name := "powerCounts", fn := fun _ => fun
  | [d1, d2] => { results := [.lit (.bool true)], args := [d1, d2] }
  | _ => none }
def powerCountsRow : OpenClaim := { program := "ytejnhcbhdhifdaa", sum := "7b9f01f8a3ff6da9a1d14f1362fc202b1fa6712f237310cbd683d449aab8cf29", func := "drystone/drystonelaw03.PowerCounts", spec := "powerCounts", unfollowed := true, recurses := true, apart := false }
def PowerCountsSaid : Prop := powerCountsRow.holds Try.pinned (OpenSpec.ofChange powerCountsSpec)

/-- ITS FALSE NEIGHBOUR: 'it returns false'. Refute it at one input. -/
def powerCountsWrong : ChangeSpec := { name := "powerCounts", fn := fun _ => fun
  | [d1, d2] => { results := [.lit (.bool false)], args := [d1, d2] }
  | _ => none }
def PowerCountsWrongFalsely : Prop := powerCountsRow.holds Try.pinned (OpenSpec.ofChange powerCountsWrong)

/-- 'drystonelaw03.PowerThrows': WHATEVER THE INPUT: true; the input reads as it did. -/
def powerThrowsSpec : ChangeSpec := { name := "powerThrows", fn := fun _ => fun
  | [d] => { results := [.lit (.bool true)], args := [d] }
  | _ => none }
def powerThrowsRow : OpenClaim := { program := "ytejnhcbhdhifdaa", sum := "7b9f01f8a3ff6da9a1d14f1362fc202b1fa6712f237310cbd683d449aab8cf29", func := "drystone/drystonelaw03.PowerThrows", spec := "powerThrows", unfollowed := true, recurses := true, apart := false }
def PowerThrowsSaid : Prop := powerThrowsRow.holds Try.pinned (OpenSpec.ofChange powerThrowsSpec)

/-- ITS FALSE NEIGHBOUR: 'it returns false'. Refute it at one input. -/
def powerThrowsWrong : ChangeSpec := { name := "powerThrows", fn := fun _ => fun
  | [d] => { results := [.lit (.bool false)], args := [d] }
  | _ => none }
def PowerThrowsWrongFalsely : Prop := powerThrowsRow.holds Try.pinned (OpenSpec.ofChange powerThrowsWrong)

/-- 'drystonelaw03.PowerWithin': WHATEVER THE INPUT: true; the input reads as it did. -/
def powerWithinSpec : ChangeSpec := { name := "powerWithin", fn := fun _ => fun
  | [d1, d2, d3] => { results := [.lit (.bool true)], args := [d1, d2, d3] }
  | _ => none }
def powerWithinRow : OpenClaim := { program := "ytejnhcbhdhifdaa", sum := "7b9f01f8a3ff6da9a1d14f1362fc202b1fa6712f237310cbd683d449aab8cf29", func := "drystone/drystonelaw03.PowerWithin", spec := "powerWithin", unfollowed := true, recurses := true, apart := false }
def PowerWithinSaid : Prop := powerWithinRow.holds Try.pinned (OpenSpec.ofChange powerWithinSpec)

/-- ITS FALSE NEIGHBOUR: 'it returns false'. Refute it at one input. -/
def powerWithinWrong : ChangeSpec := { name := "powerWithin", fn := fun _ => fun
  | [d1, d2, d3] => { results := [.lit (.bool false)], args := [d1, d2, d3] }
  | _ => none }
def PowerWithinWrongFalsely : Prop := powerWithinRow.holds Try.pinned (OpenSpec.ofChange powerWithinWrong)

/-- 'drystonelaw03.PowerLimits': WHATEVER THE INPUT: true; the input reads as it did. -/
def powerLimitsSpec : ChangeSpec := { name := "powerLimits", fn := fun _ => fun
  | [d1, d2] => { results := [.lit (.bool true)], args := [d1, d2] }
  | _ => none }
def powerLimitsRow : OpenClaim := { program := "ytejnhcbhdhifdaa", sum := "7b9f01f8a3ff6da9a1d14f1362fc202b1fa6712f237310cbd683d449aab8cf29", func := "drystone/drystonelaw03.PowerLimits", spec := "powerLimits", unfollowed := true, recurses := true, apart := false }
def PowerLimitsSaid : Prop := powerLimitsRow.holds Try.pinned (OpenSpec.ofChange powerLimitsSpec)

/-- ITS FALSE NEIGHBOUR: 'it returns false'. Refute it at one input. -/
def powerLimitsWrong : ChangeSpec := { name := "powerLimits", fn := fun _ => fun
  | [d1, d2] => { results := [.lit (.bool false)], args := [d1, d2] }
  | _ => none }
def PowerLimitsWrongFalsely : Prop := powerLimitsRow.holds Try.pinned (OpenSpec.ofChange powerLimitsWrong)

/-- 'drystonelaw03.PowerAgain': WHATEVER THE INPUT: true; the input reads as it did. -/
def powerAgainSpec : ChangeSpec := { name := "powerAgain", fn := fun _ => fun
  | [d1, d2, d3] => { results := [.lit (.bool true)], args := [d1, d2, d3] }
  | _ => none }
def powerAgainRow : OpenClaim := { program := "ytejnhcbhdhifdaa", sum := "7b9f01f8a3ff6da9a1d14f1362fc202b1fa6712f237310cbd683d449aab8cf29", func := "drystone/drystonelaw03.PowerAgain", spec := "powerAgain", unfollowed := true, recurses := true, apart := false }
def PowerAgainSaid : Prop := powerAgainRow.holds Try.pinned (OpenSpec.ofChange powerAgainSpec)

/-- ITS FALSE NEIGHBOUR: 'it returns false'. Refute it at one input. -/
def powerAgainWrong : ChangeSpec := { name := "powerAgain", fn := fun _ => fun
  | [d1, d2, d3] => { results := [.lit (.bool false)], args := [d1, d2, d3] }
  | _ => none }
def PowerAgainWrongFalsely : Prop := powerAgainRow.holds Try.pinned (OpenSpec.ofChange powerAgainWrong)

/- THE SECOND FORM. 'bulk': how many values and letters a reading holds, each counted each time it is reached (what is shared counts as often as it is met; a slice's spare places count too). A statement '..UptoSaid' is the law's where the arguments, and the package variables that the reading takes, are together of bulk at most 1048576: NARROWER than '..Said'. Prove '..Said' where nothing that the law and all that it calls make is longer than what came in: it says more and counts as full. Else prove '..UptoSaid'. A law counts once. -/
mutual
def uptoBulk {H : Type} : DataW H → Nat
  | .lit (.string bytes) => bytes.length + 1
  | .lit _ => 1
  | .nil => 1
  | .ptr d => uptoBulk d + 1
  | .slice elems spare => uptoBulkAll elems + uptoBulkAll spare + 1
  | .agg parts => uptoBulkAll parts + 1
  | .iface _ d => uptoBulk d + 1
  | .map entries => uptoBulkEntries entries + 1
  | .held _ => 1
def uptoBulkAll {H : Type} : List (DataW H) → Nat
  | [] => 0
  | d :: r => uptoBulk d + uptoBulkAll r
def uptoBulkEntries {H : Type} : List (Lit × DataW H) → Nat
  | [] => 0
  | x :: r => uptoBulkEntry x + uptoBulkEntries r
def uptoBulkEntry {H : Type} : Lit × DataW H → Nat
  | (.string bytes, d) => bytes.length + uptoBulk d + 1
  | (_, d) => uptoBulk d + 1
 end
def uptoSmall : (H : Type) → List (DataW H) → Bool := fun _ ds => decide (uptoBulkAll ds ≤ 1048576)
def OpenSpec.upto (s : _root_.Go.ChangeSpec) : _root_.Go.OpenSpec := { _root_.Go.OpenSpec.ofChange s with cond := some uptoSmall }

/-- 'drystonelaw03.PowerCounts', WHERE WHAT IT READS IS OF BULK AT MOST 1048576: true; the input reads as it did. -/
def powerCountsUptoRow : OpenClaim := { program := "ytejnhcbhdhifdaa", sum := "7b9f01f8a3ff6da9a1d14f1362fc202b1fa6712f237310cbd683d449aab8cf29", func := "drystone/drystonelaw03.PowerCounts", spec := "powerCounts", unfollowed := true, recurses := true, apart := false, narrowed := true }
def PowerCountsUptoSaid : Prop := powerCountsUptoRow.holds Try.pinned (OpenSpec.upto powerCountsSpec)

/-- 'drystonelaw03.PowerThrows', WHERE WHAT IT READS IS OF BULK AT MOST 1048576: true; the input reads as it did. -/
def powerThrowsUptoRow : OpenClaim := { program := "ytejnhcbhdhifdaa", sum := "7b9f01f8a3ff6da9a1d14f1362fc202b1fa6712f237310cbd683d449aab8cf29", func := "drystone/drystonelaw03.PowerThrows", spec := "powerThrows", unfollowed := true, recurses := true, apart := false, narrowed := true }
def PowerThrowsUptoSaid : Prop := powerThrowsUptoRow.holds Try.pinned (OpenSpec.upto powerThrowsSpec)

/-- 'drystonelaw03.PowerWithin', WHERE WHAT IT READS IS OF BULK AT MOST 1048576: true; the input reads as it did. -/
def powerWithinUptoRow : OpenClaim := { program := "ytejnhcbhdhifdaa", sum := "7b9f01f8a3ff6da9a1d14f1362fc202b1fa6712f237310cbd683d449aab8cf29", func := "drystone/drystonelaw03.PowerWithin", spec := "powerWithin", unfollowed := true, recurses := true, apart := false, narrowed := true }
def PowerWithinUptoSaid : Prop := powerWithinUptoRow.holds Try.pinned (OpenSpec.upto powerWithinSpec)

/-- 'drystonelaw03.PowerLimits', WHERE WHAT IT READS IS OF BULK AT MOST 1048576: true; the input reads as it did. -/
def powerLimitsUptoRow : OpenClaim := { program := "ytejnhcbhdhifdaa", sum := "7b9f01f8a3ff6da9a1d14f1362fc202b1fa6712f237310cbd683d449aab8cf29", func := "drystone/drystonelaw03.PowerLimits", spec := "powerLimits", unfollowed := true, recurses := true, apart := false, narrowed := true }
def PowerLimitsUptoSaid : Prop := powerLimitsUptoRow.holds Try.pinned (OpenSpec.upto powerLimitsSpec)

/-- 'drystonelaw03.PowerAgain', WHERE WHAT IT READS IS OF BULK AT MOST 1048576: true; the input reads as it did. -/
def powerAgainUptoRow : OpenClaim := { program := "ytejnhcbhdhifdaa", sum := "7b9f01f8a3ff6da9a1d14f1362fc202b1fa6712f237310cbd683d449aab8cf29", func := "drystone/drystonelaw03.PowerAgain", spec := "powerAgain", unfollowed := true, recurses := true, apart := false, narrowed := true }
def PowerAgainUptoSaid : Prop := powerAgainUptoRow.holds Try.pinned (OpenSpec.upto powerAgainSpec)

end Rows
end Go.Proofs.Ytejnhcbhdhifdaa
