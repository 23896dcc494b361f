/-
  No cell of these rows narrows 'for every input' (looked for: loops, veiled, ifaces, maps, wideKeys, modest, calm, conditions, laid).
  DERIVED. THE GIVEN ROWS OF THIS SEAT. 4 by the template 'for every input the law returns true; each argument reads behind the call as it read before'; 0 by the template 'total and deterministic' (their statements: YtioabejegjhapaaTotals.lean).
  GIVEN WITH THE SEED: the statements are not yours to turn. If you find one false, say at which input.
  Laid BY PROGRAM, IN A SANDBOX (cutbox-rows.mjs): the forced cells as the released guide's own fill.sh prints them over the translation 2558f78e6656bc94… (all of the seat's roots in one cut). By AI agents, Wed Nov 11 2026. No macro, syntax, notation, axiom, sorry.
-/
import Derived.Test.YtioabejegjhapaaChecked
import GoSem.Claim
import GoSem.ClaimJoined
import GoSem.ClaimMapViews
import Derived.JoinedTies
import Derived.KernelRfl
namespace Go.Proofs.Ytioabejegjhapaa
/- THE CELL 'sum', in the pinned program and in every row, IS THE sha256 OF THE DUMP (.gsa) THAT YtioabejegjhapaaProg.lean LOADS. Nothing in Lean hashes anything: it is a label: what it is worth is what the hold of that sum in a sandbox is worth. -/
noncomputable def Try.pinned : Pinned := { name := "ytioabejegjhapaa", sum := "2558f78e6656bc941d8fe529eeccb9da3b9c4a72694c9736bb72dacba97181bb", checked := Try.checked }
namespace Rows
def none {H : Type} : Left H := { results := [], args := [] }

/-- 'gunnylaw01.NumUp': WHATEVER THE INPUT: true; the input reads as it did. -/
def numUpSpec : ChangeSpec := { name := "numUp", fn := fun _ => fun
  | [d1, d2] => { results := [.lit (.bool true)], args := [d1, d2] }
  | _ => none }
def numUpRow : OpenClaim := { program := "ytioabejegjhapaa", sum := "2558f78e6656bc941d8fe529eeccb9da3b9c4a72694c9736bb72dacba97181bb", func := "gunny/gunnylaw01.NumUp", spec := "numUp", apart := false }
def NumUpSaid : Prop := numUpRow.holds Try.pinned (OpenSpec.ofChange numUpSpec)

/-- ITS FALSE NEIGHBOUR: 'it returns false'. Refute it at one input. -/
def numUpWrong : ChangeSpec := { name := "numUp", fn := fun _ => fun
  | [d1, d2] => { results := [.lit (.bool false)], args := [d1, d2] }
  | _ => none }
def NumUpWrongFalsely : Prop := numUpRow.holds Try.pinned (OpenSpec.ofChange numUpWrong)

/-- 'gunnylaw01.NumParts': WHATEVER THE INPUT: true; the input reads as it did. -/
def numPartsSpec : ChangeSpec := { name := "numParts", fn := fun _ => fun
  | [d1, d2, d3] => { results := [.lit (.bool true)], args := [d1, d2, d3] }
  | _ => none }
def numPartsRow : OpenClaim := { program := "ytioabejegjhapaa", sum := "2558f78e6656bc941d8fe529eeccb9da3b9c4a72694c9736bb72dacba97181bb", func := "gunny/gunnylaw01.NumParts", spec := "numParts", apart := false }
def NumPartsSaid : Prop := numPartsRow.holds Try.pinned (OpenSpec.ofChange numPartsSpec)

/-- ITS FALSE NEIGHBOUR: 'it returns false'. Refute it at one input. -/
def numPartsWrong : ChangeSpec := { name := "numParts", fn := fun _ => fun
  | [d1, d2, d3] => { results := [.lit (.bool false)], args := [d1, d2, d3] }
  | _ => none }
def NumPartsWrongFalsely : Prop := numPartsRow.holds Try.pinned (OpenSpec.ofChange numPartsWrong)

/-- 'gunnylaw01.NumBytes': WHATEVER THE INPUT: true; the input reads as it did. -/
def numBytesSpec : ChangeSpec := { name := "numBytes", fn := fun _ => fun
  | [d1, d2, d3] => { results := [.lit (.bool true)], args := [d1, d2, d3] }
  | _ => none }
def numBytesRow : OpenClaim := { program := "ytioabejegjhapaa", sum := "2558f78e6656bc941d8fe529eeccb9da3b9c4a72694c9736bb72dacba97181bb", func := "gunny/gunnylaw01.NumBytes", spec := "numBytes", apart := false }
def NumBytesSaid : Prop := numBytesRow.holds Try.pinned (OpenSpec.ofChange numBytesSpec)

/-- ITS FALSE NEIGHBOUR: 'it returns false'. Refute it at one input. -/
def numBytesWrong : ChangeSpec := { name := "numBytes", fn := fun _ => fun
  | [d1, d2, d3] => { results := [.lit (.bool false)], args := [d1, d2, d3] }
  | _ => none }
def NumBytesWrongFalsely : Prop := numBytesRow.holds Try.pinned (OpenSpec.ofChange numBytesWrong)

/-- 'gunnylaw01.NumKeeps': WHATEVER THE INPUT: true; the input reads as it did. -/
def numKeepsSpec : ChangeSpec := { name := "numKeeps", fn := fun _ => fun
  | [d1, d2, d3] => { results := [.lit (.bool true)], args := [d1, d2, d3] }
  | _ => none }
def numKeepsRow : OpenClaim := { program := "ytioabejegjhapaa", sum := "2558f78e6656bc941d8fe529eeccb9da3b9c4a72694c9736bb72dacba97181bb", func := "gunny/gunnylaw01.NumKeeps", spec := "numKeeps", apart := false }
def NumKeepsSaid : Prop := numKeepsRow.holds Try.pinned (OpenSpec.ofChange numKeepsSpec)

/-- ITS FALSE NEIGHBOUR: 'it returns false'. Refute it at one input. -/
def numKeepsWrong : ChangeSpec := { name := "numKeeps", fn := fun _ => fun
  | [d1, d2, d3] => { results := [.lit (.bool false)], args := [d1, d2, d3] }
  | _ => none }
def NumKeepsWrongFalsely : Prop := numKeepsRow.holds Try.pinned (OpenSpec.ofChange numKeepsWrong)

/- THE SECOND FORM. 'bulk': how many values and letters a reading holds, each counted each time it is reached (what is shared counts as often as it is met; a slice's spare places count too). A statement '..UptoSaid' is the law's where the arguments, and the package variables that the reading takes, are together of bulk at most 1048576: NARROWER than '..Said'. Prove '..Said' where nothing that the law and all that it calls make is longer than what came in: it says more and counts as full. Else prove '..UptoSaid'. A law counts once. -/
mutual
def uptoBulk {H : Type} : DataW H → Nat
  | .lit (.string bytes) => bytes.length + 1
  | .lit _ => 1
  | .nil => 1
  | .ptr d => uptoBulk d + 1
  | .slice elems spare => uptoBulkAll elems + uptoBulkAll spare + 1
  | .agg parts => uptoBulkAll parts + 1
  | .iface _ d => uptoBulk d + 1
  | .map entries => uptoBulkEntries entries + 1
  | .held _ => 1
def uptoBulkAll {H : Type} : List (DataW H) → Nat
  | [] => 0
  | d :: r => uptoBulk d + uptoBulkAll r
def uptoBulkEntries {H : Type} : List (Lit × DataW H) → Nat
  | [] => 0
  | x :: r => uptoBulkEntry x + uptoBulkEntries r
def uptoBulkEntry {H : Type} : Lit × DataW H → Nat
  | (.string bytes, d) => bytes.length + uptoBulk d + 1
  | (_, d) => uptoBulk d + 1
 end
def uptoSmall : (H : Type) → List (DataW H) → Bool := fun _ ds => decide (uptoBulkAll ds ≤ 1048576)
def OpenSpec.upto (s : _root_.Go.ChangeSpec) : _root_.Go.OpenSpec := { _root_.Go.OpenSpec.ofChange s with cond := some uptoSmall }

/-- 'gunnylaw01.NumUp', WHERE WHAT IT READS IS OF BULK AT MOST 1048576: true; the input reads as it did. -/
def numUpUptoRow : OpenClaim := { program := "ytioabejegjhapaa", sum := "2558f78e6656bc941d8fe529eeccb9da3b9c4a72694c9736bb72dacba97181bb", func := "gunny/gunnylaw01.NumUp", spec := "numUp", apart := false, narrowed := true }
def NumUpUptoSaid : Prop := numUpUptoRow.holds Try.pinned (OpenSpec.upto numUpSpec)

/-- 'gunnylaw01.NumParts', WHERE WHAT IT READS IS OF BULK AT MOST 1048576: true; the input reads as it did. -/
def numPartsUptoRow : OpenClaim := { program := "ytioabejegjhapaa", sum := "2558f78e6656bc941d8fe529eeccb9da3b9c4a72694c9736bb72dacba97181bb", func := "gunny/gunnylaw01.NumParts", spec := "numParts", apart := false, narrowed := true }
def NumPartsUptoSaid : Prop := numPartsUptoRow.holds Try.pinned (OpenSpec.upto numPartsSpec)

/-- 'gunnylaw01.NumBytes', WHERE WHAT IT READS IS OF BULK AT MOST 1048576: true; the input reads as it did. -/
def numBytesUptoRow : OpenClaim := { program := "ytioabejegjhapaa", sum := "2558f78e6656bc941d8fe529eeccb9da3b9c4a72694c9736bb72dacba97181bb", func := "gunny/gunnylaw01.NumBytes", spec := "numBytes", apart := false, narrowed := true }
def NumBytesUptoSaid : Prop := numBytesUptoRow.holds Try.pinned (OpenSpec.upto numBytesSpec)

/-- 'gunnylaw01.NumKeeps', WHERE WHAT IT READS IS OF BULK AT MOST 1048576: true; the input reads as it did. -/
def numKeepsUptoRow : OpenClaim := { program := "ytioabejegjhapaa", sum := "2558f78e6656bc941d8fe529eeccb9da3b9c4a72694c9736bb72dacba97181bb", func := "gunny/gunnylaw01.NumKeeps", spec := "numKeeps", apart := false, narrowed := true }
def NumKeepsUptoSaid : Prop := numKeepsUptoRow.holds Try.pinned (OpenSpec.upto numKeepsSpec)

end Rows
end Go.Proofs.Ytioabejegjhapaa
