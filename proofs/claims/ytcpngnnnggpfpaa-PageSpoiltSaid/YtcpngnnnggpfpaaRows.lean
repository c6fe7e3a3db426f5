/-
  No cell of these rows narrows 'for every input' (looked for: loops, veiled, ifaces, maps, wideKeys, modest, calm, conditions, laid).
  DERIVED. THE GIVEN ROWS OF THIS SEAT. 4 by the template 'for every input the law returns true; each argument reads behind the call as it read before'; 0 by the template 'total and deterministic' (their statements: YtcpngnnnggpfpaaTotals.lean).
  GIVEN WITH THE SEED: the statements are not yours to turn. If you find one false, say at which input.
  Laid BY PROGRAM, IN A SANDBOX (cutbox-rows.mjs): the forced cells as the released guide's own fill.sh prints them over the translation cb89f24cf429525f… (all of the seat's roots in one cut). By AI agents, Wed Nov 11 2026. No macro, syntax, notation, axiom, sorry.
-/
import Derived.Test.YtcpngnnnggpfpaaChecked
import GoSem.Claim
import GoSem.ClaimJoined
import GoSem.ClaimMapViews
import Derived.JoinedTies
import Derived.KernelRfl
namespace Go.Proofs.Ytcpngnnnggpfpaa
/- THE CELL 'sum', in the pinned program and in every row, IS THE sha256 OF THE DUMP (.gsa) THAT YtcpngnnnggpfpaaProg.lean LOADS. Nothing in Lean hashes anything: it is a label: what it is worth is what the hold of that sum in a sandbox is worth. -/
noncomputable def Try.pinned : Pinned := { name := "ytcpngnnnggpfpaa", sum := "cb89f24cf429525f2c7cccc485127e4ff5e9c1d38fdc04ec5ee9f249623bd757", checked := Try.checked }
namespace Rows
def none {H : Type} : Left H := { results := [], args := [] }

/-- 'drystonelaw10.PageNone': WHATEVER THE INPUT: true; the input reads as it did. -/
def pageNoneSpec : ChangeSpec := { name := "pageNone", fn := fun _ => fun
  | [d1, d2, d3, d4] => { results := [.lit (.bool true)], args := [d1, d2, d3, d4] }
  | _ => none }
def pageNoneRow : OpenClaim := { program := "ytcpngnnnggpfpaa", sum := "cb89f24cf429525f2c7cccc485127e4ff5e9c1d38fdc04ec5ee9f249623bd757", func := "drystone/drystonelaw10.PageNone", spec := "pageNone", apart := false }
def PageNoneSaid : Prop := pageNoneRow.holds Try.pinned (OpenSpec.ofChange pageNoneSpec)

/-- ITS FALSE NEIGHBOUR: 'it returns false'. Refute it at one input. -/
def pageNoneWrong : ChangeSpec := { name := "pageNone", fn := fun _ => fun
  | [d1, d2, d3, d4] => { results := [.lit (.bool false)], args := [d1, d2, d3, d4] }
  | _ => none }
def PageNoneWrongFalsely : Prop := pageNoneRow.holds Try.pinned (OpenSpec.ofChange pageNoneWrong)

/-- 'drystonelaw10.PageGens': WHATEVER THE INPUT: true; the input reads as it did. -/
def pageGensSpec : ChangeSpec := { name := "pageGens", fn := fun _ => fun
  | [d1, d2, d3, d4, d5] => { results := [.lit (.bool true)], args := [d1, d2, d3, d4, d5] }
  | _ => none }
def pageGensRow : OpenClaim := { program := "ytcpngnnnggpfpaa", sum := "cb89f24cf429525f2c7cccc485127e4ff5e9c1d38fdc04ec5ee9f249623bd757", func := "drystone/drystonelaw10.PageGens", spec := "pageGens", apart := false }
def PageGensSaid : Prop := pageGensRow.holds Try.pinned (OpenSpec.ofChange pageGensSpec)

/-- ITS FALSE NEIGHBOUR: 'it returns false'. Refute it at one input. -/
def pageGensWrong : ChangeSpec := { name := "pageGens", fn := fun _ => fun
  | [d1, d2, d3, d4, d5] => { results := [.lit (.bool false)], args := [d1, d2, d3, d4, d5] }
  | _ => none }
def PageGensWrongFalsely : Prop := pageGensRow.holds Try.pinned (OpenSpec.ofChange pageGensWrong)

/-- 'drystonelaw10.PageBack': WHATEVER THE INPUT: true; the input reads as it did. -/
def pageBackSpec : ChangeSpec := { name := "pageBack", fn := fun _ => fun
  | [d1, d2, d3] => { results := [.lit (.bool true)], args := [d1, d2, d3] }
  | _ => none }
def pageBackRow : OpenClaim := { program := "ytcpngnnnggpfpaa", sum := "cb89f24cf429525f2c7cccc485127e4ff5e9c1d38fdc04ec5ee9f249623bd757", func := "drystone/drystonelaw10.PageBack", spec := "pageBack", apart := false }
def PageBackSaid : Prop := pageBackRow.holds Try.pinned (OpenSpec.ofChange pageBackSpec)

/-- ITS FALSE NEIGHBOUR: 'it returns false'. Refute it at one input. -/
def pageBackWrong : ChangeSpec := { name := "pageBack", fn := fun _ => fun
  | [d1, d2, d3] => { results := [.lit (.bool false)], args := [d1, d2, d3] }
  | _ => none }
def PageBackWrongFalsely : Prop := pageBackRow.holds Try.pinned (OpenSpec.ofChange pageBackWrong)

/-- 'drystonelaw10.PageSpoilt': WHATEVER THE INPUT: true; the input reads as it did. -/
def pageSpoiltSpec : ChangeSpec := { name := "pageSpoilt", fn := fun _ => fun
  | [d1, d2, d3, d4] => { results := [.lit (.bool true)], args := [d1, d2, d3, d4] }
  | _ => none }
def pageSpoiltRow : OpenClaim := { program := "ytcpngnnnggpfpaa", sum := "cb89f24cf429525f2c7cccc485127e4ff5e9c1d38fdc04ec5ee9f249623bd757", func := "drystone/drystonelaw10.PageSpoilt", spec := "pageSpoilt", unfollowed := true, recurses := true, apart := false }
def PageSpoiltSaid : Prop := pageSpoiltRow.holds Try.pinned (OpenSpec.ofChange pageSpoiltSpec)

/-- ITS FALSE NEIGHBOUR: 'it returns false'. Refute it at one input. -/
def pageSpoiltWrong : ChangeSpec := { name := "pageSpoilt", fn := fun _ => fun
  | [d1, d2, d3, d4] => { results := [.lit (.bool false)], args := [d1, d2, d3, d4] }
  | _ => none }
def PageSpoiltWrongFalsely : Prop := pageSpoiltRow.holds Try.pinned (OpenSpec.ofChange pageSpoiltWrong)

/- THE SECOND FORM. 'bulk': how many values and letters a reading holds, each counted each time it is reached (what is shared counts as often as it is met; a slice's spare places count too). A statement '..UptoSaid' is the law's where the arguments, and the package variables that the reading takes, are together of bulk at most 1048576: NARROWER than '..Said'. Prove '..Said' where nothing that the law and all that it calls make is longer than what came in: it says more and counts as full. Else prove '..UptoSaid'. A law counts once. -/
mutual
def uptoBulk {H : Type} : DataW H → Nat
  | .lit (.string bytes) => bytes.length + 1
  | .lit _ => 1
  | .nil => 1
  | .ptr d => uptoBulk d + 1
  | .slice elems spare => uptoBulkAll elems + uptoBulkAll spare + 1
  | .agg parts => uptoBulkAll parts + 1
  | .iface _ d => uptoBulk d + 1
  | .map entries => uptoBulkEntries entries + 1
  | .held _ => 1
def uptoBulkAll {H : Type} : List (DataW H) → Nat
  | [] => 0
  | d :: r => uptoBulk d + uptoBulkAll r
def uptoBulkEntries {H : Type} : List (Lit × DataW H) → Nat
  | [] => 0
  | x :: r => uptoBulkEntry x + uptoBulkEntries r
def uptoBulkEntry {H : Type} : Lit × DataW H → Nat
  | (.string bytes, d) => bytes.length + uptoBulk d + 1
  | (_, d) => uptoBulk d + 1
 end
def uptoSmall : (H : Type) → List (DataW H) → Bool := fun _ ds => decide (uptoBulkAll ds ≤ 1048576)
def OpenSpec.upto (s : _root_.Go.ChangeSpec) : _root_.Go.OpenSpec := { _root_.Go.OpenSpec.ofChange s with cond := some uptoSmall }

/-- 'drystonelaw10.PageNone', WHERE WHAT IT READS IS OF BULK AT MOST 1048576: true; the input reads as it did. -/
def pageNoneUptoRow : OpenClaim := { program := "ytcpngnnnggpfpaa", sum := "cb89f24cf429525f2c7cccc485127e4ff5e9c1d38fdc04ec5ee9f249623bd757", func := "drystone/drystonelaw10.PageNone", spec := "pageNone", apart := false, narrowed := true }
def PageNoneUptoSaid : Prop := pageNoneUptoRow.holds Try.pinned (OpenSpec.upto pageNoneSpec)

/-- 'drystonelaw10.PageGens', WHERE WHAT IT READS IS OF BULK AT MOST 1048576: true; the input reads as it did. -/
def pageGensUptoRow : OpenClaim := { program := "ytcpngnnnggpfpaa", sum := "cb89f24cf429525f2c7cccc485127e4ff5e9c1d38fdc04ec5ee9f249623bd757", func := "drystone/drystonelaw10.PageGens", spec := "pageGens", apart := false, narrowed := true }
def PageGensUptoSaid : Prop := pageGensUptoRow.holds Try.pinned (OpenSpec.upto pageGensSpec)

/-- 'drystonelaw10.PageBack', WHERE WHAT IT READS IS OF BULK AT MOST 1048576: true; the input reads as it did. -/
def pageBackUptoRow : OpenClaim := { program := "ytcpngnnnggpfpaa", sum := "cb89f24cf429525f2c7cccc485127e4ff5e9c1d38fdc04ec5ee9f249623bd757", func := "drystone/drystonelaw10.PageBack", spec := "pageBack", apart := false, narrowed := true }
def PageBackUptoSaid : Prop := pageBackUptoRow.holds Try.pinned (OpenSpec.upto pageBackSpec)

/-- 'drystonelaw10.PageSpoilt', WHERE WHAT IT READS IS OF BULK AT MOST 1048576: true; the input reads as it did. -/
def pageSpoiltUptoRow : OpenClaim := { program := "ytcpngnnnggpfpaa", sum := "cb89f24cf429525f2c7cccc485127e4ff5e9c1d38fdc04ec5ee9f249623bd757", func := "drystone/drystonelaw10.PageSpoilt", spec := "pageSpoilt", unfollowed := true, recurses := true, apart := false, narrowed := true }
def PageSpoiltUptoSaid : Prop := pageSpoiltUptoRow.holds Try.pinned (OpenSpec.upto pageSpoiltSpec)

end Rows
end Go.Proofs.Ytcpngnnnggpfpaa
