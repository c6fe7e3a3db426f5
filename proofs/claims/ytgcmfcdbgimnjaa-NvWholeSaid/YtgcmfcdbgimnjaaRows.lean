/-
  No cell of these rows narrows 'for every input' (looked for: loops, veiled, ifaces, maps, wideKeys, modest, calm, conditions, laid).
  DERIVED. THE GIVEN ROWS OF THIS SEAT. 4 by the template 'for every input the law returns true; each argument reads behind the call as it read before'; 0 by the template 'total and deterministic' (their statements: YtgcmfcdbgimnjaaTotals.lean).
  GIVEN WITH THE SEED: the statements are not yours to turn. If you find one false, say at which input.
  Laid BY PROGRAM, IN A SANDBOX (cutbox-rows.mjs): the forced cells as the released guide's own fill.sh prints them over the translation e0bb7b7054480766… (all of the seat's roots in one cut). By AI agents, Wed Nov 11 2026. No macro, syntax, notation, axiom, sorry.
-/
import Derived.Test.YtgcmfcdbgimnjaaChecked
import GoSem.Claim
import GoSem.ClaimJoined
import GoSem.ClaimMapViews
import Derived.JoinedTies
import Derived.KernelRfl
namespace Go.Proofs.Ytgcmfcdbgimnjaa
/- THE CELL 'sum', in the pinned program and in every row, IS THE sha256 OF THE DUMP (.gsa) THAT YtgcmfcdbgimnjaaProg.lean LOADS. Nothing in Lean hashes anything: it is a label: what it is worth is what the hold of that sum in a sandbox is worth. -/
noncomputable def Try.pinned : Pinned := { name := "ytgcmfcdbgimnjaa", sum := "e0bb7b7054480766160509ad9e9e3ffb2baa0678882bb77aa177e3fdeb7eb307", checked := Try.checked }
namespace Rows
def none {H : Type} : Left H := { results := [], args := [] }

/-- 'drystonelaw07.NvRises': WHATEVER THE INPUT: true; the input reads as it did. -/
def nvRisesSpec : ChangeSpec := { name := "nvRises", fn := fun _ => fun
  | [d] => { results := [.lit (.bool true)], args := [d] }
  | _ => none }
def nvRisesRow : OpenClaim := { program := "ytgcmfcdbgimnjaa", sum := "e0bb7b7054480766160509ad9e9e3ffb2baa0678882bb77aa177e3fdeb7eb307", func := "drystone/drystonelaw07.NvRises", spec := "nvRises", unfollowed := true, recurses := true, apart := false }
def NvRisesSaid : Prop := nvRisesRow.holds Try.pinned (OpenSpec.ofChange nvRisesSpec)

/-- ITS FALSE NEIGHBOUR: 'it returns false'. Refute it at one input. -/
def nvRisesWrong : ChangeSpec := { name := "nvRises", fn := fun _ => fun
  | [d] => { results := [.lit (.bool false)], args := [d] }
  | _ => none }
def NvRisesWrongFalsely : Prop := nvRisesRow.holds Try.pinned (OpenSpec.ofChange nvRisesWrong)

/-- 'drystonelaw07.NvOwn': WHATEVER THE INPUT: true; the input reads as it did. -/
def nvOwnSpec : ChangeSpec := { name := "nvOwn", fn := fun _ => fun
  | [d1, d2] => { results := [.lit (.bool true)], args := [d1, d2] }
  | _ => none }
def nvOwnRow : OpenClaim := { program := "ytgcmfcdbgimnjaa", sum := "e0bb7b7054480766160509ad9e9e3ffb2baa0678882bb77aa177e3fdeb7eb307", func := "drystone/drystonelaw07.NvOwn", spec := "nvOwn", unfollowed := true, recurses := true, apart := false }
def NvOwnSaid : Prop := nvOwnRow.holds Try.pinned (OpenSpec.ofChange nvOwnSpec)

/-- ITS FALSE NEIGHBOUR: 'it returns false'. Refute it at one input. -/
def nvOwnWrong : ChangeSpec := { name := "nvOwn", fn := fun _ => fun
  | [d1, d2] => { results := [.lit (.bool false)], args := [d1, d2] }
  | _ => none }
def NvOwnWrongFalsely : Prop := nvOwnRow.holds Try.pinned (OpenSpec.ofChange nvOwnWrong)

/-- 'drystonelaw07.NvPlays': WHATEVER THE INPUT: true; the input reads as it did. -/
def nvPlaysSpec : ChangeSpec := { name := "nvPlays", fn := fun _ => fun
  | [d] => { results := [.lit (.bool true)], args := [d] }
  | _ => none }
def nvPlaysRow : OpenClaim := { program := "ytgcmfcdbgimnjaa", sum := "e0bb7b7054480766160509ad9e9e3ffb2baa0678882bb77aa177e3fdeb7eb307", func := "drystone/drystonelaw07.NvPlays", spec := "nvPlays", unfollowed := true, recurses := true, apart := false }
def NvPlaysSaid : Prop := nvPlaysRow.holds Try.pinned (OpenSpec.ofChange nvPlaysSpec)

/-- ITS FALSE NEIGHBOUR: 'it returns false'. Refute it at one input. -/
def nvPlaysWrong : ChangeSpec := { name := "nvPlays", fn := fun _ => fun
  | [d] => { results := [.lit (.bool false)], args := [d] }
  | _ => none }
def NvPlaysWrongFalsely : Prop := nvPlaysRow.holds Try.pinned (OpenSpec.ofChange nvPlaysWrong)

/-- 'drystonelaw07.NvWhole': WHATEVER THE INPUT: true; the input reads as it did. -/
def nvWholeSpec : ChangeSpec := { name := "nvWhole", fn := fun _ => fun
  | [d1, d2] => { results := [.lit (.bool true)], args := [d1, d2] }
  | _ => none }
def nvWholeRow : OpenClaim := { program := "ytgcmfcdbgimnjaa", sum := "e0bb7b7054480766160509ad9e9e3ffb2baa0678882bb77aa177e3fdeb7eb307", func := "drystone/drystonelaw07.NvWhole", spec := "nvWhole", unfollowed := true, recurses := true, apart := false }
def NvWholeSaid : Prop := nvWholeRow.holds Try.pinned (OpenSpec.ofChange nvWholeSpec)

/-- ITS FALSE NEIGHBOUR: 'it returns false'. Refute it at one input. -/
def nvWholeWrong : ChangeSpec := { name := "nvWhole", fn := fun _ => fun
  | [d1, d2] => { results := [.lit (.bool false)], args := [d1, d2] }
  | _ => none }
def NvWholeWrongFalsely : Prop := nvWholeRow.holds Try.pinned (OpenSpec.ofChange nvWholeWrong)

/- THE SECOND FORM. 'bulk': how many values and letters a reading holds, each counted each time it is reached (what is shared counts as often as it is met; a slice's spare places count too). A statement '..UptoSaid' is the law's where the arguments, and the package variables that the reading takes, are together of bulk at most 1048576: NARROWER than '..Said'. Prove '..Said' where nothing that the law and all that it calls make is longer than what came in: it says more and counts as full. Else prove '..UptoSaid'. A law counts once. -/
mutual
def uptoBulk {H : Type} : DataW H → Nat
  | .lit (.string bytes) => bytes.length + 1
  | .lit _ => 1
  | .nil => 1
  | .ptr d => uptoBulk d + 1
  | .slice elems spare => uptoBulkAll elems + uptoBulkAll spare + 1
  | .agg parts => uptoBulkAll parts + 1
  | .iface _ d => uptoBulk d + 1
  | .map entries => uptoBulkEntries entries + 1
  | .held _ => 1
def uptoBulkAll {H : Type} : List (DataW H) → Nat
  | [] => 0
  | d :: r => uptoBulk d + uptoBulkAll r
def uptoBulkEntries {H : Type} : List (Lit × DataW H) → Nat
  | [] => 0
  | x :: r => uptoBulkEntry x + uptoBulkEntries r
def uptoBulkEntry {H : Type} : Lit × DataW H → Nat
  | (.string bytes, d) => bytes.length + uptoBulk d + 1
  | (_, d) => uptoBulk d + 1
 end
def uptoSmall : (H : Type) → List (DataW H) → Bool := fun _ ds => decide (uptoBulkAll ds ≤ 1048576)
def OpenSpec.upto (s : _root_.Go.ChangeSpec) : _root_.Go.OpenSpec := { _root_.Go.OpenSpec.ofChange s with cond := some uptoSmall }

/-- 'drystonelaw07.NvRises', WHERE WHAT IT READS IS OF BULK AT MOST 1048576: true; the input reads as it did. -/
def nvRisesUptoRow : OpenClaim := { program := "ytgcmfcdbgimnjaa", sum := "e0bb7b7054480766160509ad9e9e3ffb2baa0678882bb77aa177e3fdeb7eb307", func := "drystone/drystonelaw07.NvRises", spec := "nvRises", unfollowed := true, recurses := true, apart := false, narrowed := true }
def NvRisesUptoSaid : Prop := nvRisesUptoRow.holds Try.pinned (OpenSpec.upto nvRisesSpec)

/-- 'drystonelaw07.NvOwn', WHERE WHAT IT READS IS OF BULK AT MOST 1048576: true; the input reads as it did. -/
def nvOwnUptoRow : OpenClaim := { program := "ytgcmfcdbgimnjaa", sum := "e0bb7b7054480766160509ad9e9e3ffb2baa0678882bb77aa177e3fdeb7eb307", func := "drystone/drystonelaw07.NvOwn", spec := "nvOwn", unfollowed := true, recurses := true, apart := false, narrowed := true }
def NvOwnUptoSaid : Prop := nvOwnUptoRow.holds Try.pinned (OpenSpec.upto nvOwnSpec)

/-- 'drystonelaw07.NvPlays', WHERE WHAT IT READS IS OF BULK AT MOST 1048576: true; the input reads as it did. -/
def nvPlaysUptoRow : OpenClaim := { program := "ytgcmfcdbgimnjaa", sum := "e0bb7b7054480766160509ad9e9e3ffb2baa0678882bb77aa177e3fdeb7eb307", func := "drystone/drystonelaw07.NvPlays", spec := "nvPlays", unfollowed := true, recurses := true, apart := false, narrowed := true }
def NvPlaysUptoSaid : Prop := nvPlaysUptoRow.holds Try.pinned (OpenSpec.upto nvPlaysSpec)

/-- 'drystonelaw07.NvWhole', WHERE WHAT IT READS IS OF BULK AT MOST 1048576: true; the input reads as it did. -/
def nvWholeUptoRow : OpenClaim := { program := "ytgcmfcdbgimnjaa", sum := "e0bb7b7054480766160509ad9e9e3ffb2baa0678882bb77aa177e3fdeb7eb307", func := "drystone/drystonelaw07.NvWhole", spec := "nvWhole", unfollowed := true, recurses := true, apart := false, narrowed := true }
def NvWholeUptoSaid : Prop := nvWholeUptoRow.holds Try.pinned (OpenSpec.upto nvWholeSpec)

end Rows
end Go.Proofs.Ytgcmfcdbgimnjaa
