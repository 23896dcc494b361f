/-
  No cell of these rows narrows 'for every input' (looked for: loops, veiled, ifaces, maps, wideKeys, modest, calm, conditions, laid).
  DERIVED. THE GIVEN ROWS OF THIS SEAT. 3 by the template 'for every input the law returns true; each argument reads behind the call as it read before'; 0 by the template 'total and deterministic' (their statements: YtejeehcmcadmcaaTotals.lean).
  GIVEN WITH THE SEED: the statements are not yours to turn. If you find one false, say at which input.
  Laid BY PROGRAM, IN A SANDBOX (cutbox-rows.mjs): the forced cells as the released guide's own fill.sh prints them over the translation 780c1a02821cffcc… (all of the seat's roots in one cut). By AI agents, Wed Nov 11 2026. No macro, syntax, notation, axiom, sorry.
-/
import Derived.Test.YtejeehcmcadmcaaChecked
import GoSem.Claim
import GoSem.ClaimJoined
import GoSem.ClaimMapViews
import Derived.JoinedTies
import Derived.KernelRfl
namespace Go.Proofs.Ytejeehcmcadmcaa
/- THE CELL 'sum', in the pinned program and in every row, IS THE sha256 OF THE DUMP (.gsa) THAT YtejeehcmcadmcaaProg.lean LOADS. Nothing in Lean hashes anything: it is a label: what it is worth is what the hold of that sum in a sandbox is worth. -/
noncomputable def Try.pinned : Pinned := { name := "ytejeehcmcadmcaa", sum := "780c1a02821cffcc837bff23512cc60ba18016ca1b6d34c32642f5e00db5ab0f", checked := Try.checked }
namespace Rows
def none {H : Type} : Left H := { results := [], args := [] }

/-- 'gunnylaw16.ZspagePieces': WHATEVER THE INPUT: true; the input reads as it did. -/
def zspagePiecesSpec : ChangeSpec := { name := "zspagePieces", fn := fun _ => fun
  | [d1, d2, d3] => { results := [.lit (.bool true)], args := [d1, d2, d3] }
  | _ => none }
def zspagePiecesRow : OpenClaim := { program := "ytejeehcmcadmcaa", sum := "780c1a02821cffcc837bff23512cc60ba18016ca1b6d34c32642f5e00db5ab0f", func := "gunny/gunnylaw16.ZspagePieces", spec := "zspagePieces", unfollowed := true, recurses := true, apart := false }
def ZspagePiecesSaid : Prop := zspagePiecesRow.holds Try.pinned (OpenSpec.ofChange zspagePiecesSpec)

/-- ITS FALSE NEIGHBOUR: 'it returns false'. Refute it at one input. -/
def zspagePiecesWrong : ChangeSpec := { name := "zspagePieces", fn := fun _ => fun
  | [d1, d2, d3] => { results := [.lit (.bool false)], args := [d1, d2, d3] }
  | _ => none }
def ZspagePiecesWrongFalsely : Prop := zspagePiecesRow.holds Try.pinned (OpenSpec.ofChange zspagePiecesWrong)

/-- 'gunnylaw16.ZspageReads': WHATEVER THE INPUT: true; the input reads as it did. -/
def zspageReadsSpec : ChangeSpec := { name := "zspageReads", fn := fun _ => fun
  | [d1, d2, d3] => { results := [.lit (.bool true)], args := [d1, d2, d3] }
  | _ => none }
def zspageReadsRow : OpenClaim := { program := "ytejeehcmcadmcaa", sum := "780c1a02821cffcc837bff23512cc60ba18016ca1b6d34c32642f5e00db5ab0f", func := "gunny/gunnylaw16.ZspageReads", spec := "zspageReads", unfollowed := true, recurses := true, apart := false }
def ZspageReadsSaid : Prop := zspageReadsRow.holds Try.pinned (OpenSpec.ofChange zspageReadsSpec)

/-- ITS FALSE NEIGHBOUR: 'it returns false'. Refute it at one input. -/
def zspageReadsWrong : ChangeSpec := { name := "zspageReads", fn := fun _ => fun
  | [d1, d2, d3] => { results := [.lit (.bool false)], args := [d1, d2, d3] }
  | _ => none }
def ZspageReadsWrongFalsely : Prop := zspageReadsRow.holds Try.pinned (OpenSpec.ofChange zspageReadsWrong)

/-- 'gunnylaw16.ZspageWrites': WHATEVER THE INPUT: true; the input reads as it did. -/
def zspageWritesSpec : ChangeSpec := { name := "zspageWrites", fn := fun _ => fun
  | [d1, d2, d3] => { results := [.lit (.bool true)], args := [d1, d2, d3] }
  | _ => none }
def zspageWritesRow : OpenClaim := { program := "ytejeehcmcadmcaa", sum := "780c1a02821cffcc837bff23512cc60ba18016ca1b6d34c32642f5e00db5ab0f", func := "gunny/gunnylaw16.ZspageWrites", spec := "zspageWrites", unfollowed := true, recurses := true, apart := false }
def ZspageWritesSaid : Prop := zspageWritesRow.holds Try.pinned (OpenSpec.ofChange zspageWritesSpec)

/-- ITS FALSE NEIGHBOUR: 'it returns false'. Refute it at one input. -/
def zspageWritesWrong : ChangeSpec := { name := "zspageWrites", fn := fun _ => fun
  | [d1, d2, d3] => { results := [.lit (.bool false)], args := [d1, d2, d3] }
  | _ => none }
def ZspageWritesWrongFalsely : Prop := zspageWritesRow.holds Try.pinned (OpenSpec.ofChange zspageWritesWrong)

/- THE SECOND FORM. 'bulk': how many values and letters a reading holds, each counted each time it is reached (what is shared counts as often as it is met; a slice's spare places count too). A statement '..UptoSaid' is the law's where the arguments, and the package variables that the reading takes, are together of bulk at most 1048576: NARROWER than '..Said'. Prove '..Said' where nothing that the law and all that it calls make is longer than what came in: it says more and counts as full. Else prove '..UptoSaid'. A law counts once. -/
mutual
def uptoBulk {H : Type} : DataW H → Nat
  | .lit (.string bytes) => bytes.length + 1
  | .lit _ => 1
  | .nil => 1
  | .ptr d => uptoBulk d + 1
  | .slice elems spare => uptoBulkAll elems + uptoBulkAll spare + 1
  | .agg parts => uptoBulkAll parts + 1
  | .iface _ d => uptoBulk d + 1
  | .map entries => uptoBulkEntries entries + 1
  | .held _ => 1
def uptoBulkAll {H : Type} : List (DataW H) → Nat
  | [] => 0
  | d :: r => uptoBulk d + uptoBulkAll r
def uptoBulkEntries {H : Type} : List (Lit × DataW H) → Nat
  | [] => 0
  | x :: r => uptoBulkEntry x + uptoBulkEntries r
def uptoBulkEntry {H : Type} : Lit × DataW H → Nat
  | (.string bytes, d) => bytes.length + uptoBulk d + 1
  | (_, d) => uptoBulk d + 1
 end
def uptoSmall : (H : Type) → List (DataW H) → Bool := fun _ ds => decide (uptoBulkAll ds ≤ 1048576)
def OpenSpec.upto (s : _root_.Go.ChangeSpec) : _root_.Go.OpenSpec := { _root_.Go.OpenSpec.ofChange s with cond := some uptoSmall }

/-- 'gunnylaw16.ZspagePieces', WHERE WHAT IT READS IS OF BULK AT MOST 1048576: true; the input reads as it did. -/
def zspagePiecesUptoRow : OpenClaim := { program := "ytejeehcmcadmcaa", sum := "780c1a02821cffcc837bff23512cc60ba18016ca1b6d34c32642f5e00db5ab0f", func := "gunny/gunnylaw16.ZspagePieces", spec := "zspagePieces", unfollowed := true, recurses := true, apart := false, narrowed := true }
def ZspagePiecesUptoSaid : Prop := zspagePiecesUptoRow.holds Try.pinned (OpenSpec.upto zspagePiecesSpec)

/-- 'gunnylaw16.ZspageReads', WHERE WHAT IT READS IS OF BULK AT MOST 1048576: true; the input reads as it did. -/
def zspageReadsUptoRow : OpenClaim := { program := "ytejeehcmcadmcaa", sum := "780c1a02821cffcc837bff23512cc60ba18016ca1b6d34c32642f5e00db5ab0f", func := "gunny/gunnylaw16.ZspageReads", spec := "zspageReads", unfollowed := true, recurses := true, apart := false, narrowed := true }
def ZspageReadsUptoSaid : Prop := zspageReadsUptoRow.holds Try.pinned (OpenSpec.upto zspageReadsSpec)

/-- 'gunnylaw16.ZspageWrites', WHERE WHAT IT READS IS OF BULK AT MOST 1048576: true; the input reads as it did. -/
def zspageWritesUptoRow : OpenClaim := { program := "ytejeehcmcadmcaa", sum := "780c1a02821cffcc837bff23512cc60ba18016ca1b6d34c32642f5e00db5ab0f", func := "gunny/gunnylaw16.ZspageWrites", spec := "zspageWrites", unfollowed := true, recurses := true, apart := false, narrowed := true }
def ZspageWritesUptoSaid : Prop := zspageWritesUptoRow.holds Try.pinned (OpenSpec.upto zspageWritesSpec)

end Rows
end Go.Proofs.Ytejeehcmcadmcaa
