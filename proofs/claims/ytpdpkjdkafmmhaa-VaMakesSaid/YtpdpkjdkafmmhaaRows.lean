/-
  No cell of these rows narrows 'for every input' (looked for: loops, veiled, ifaces, maps, wideKeys, modest, calm, conditions, laid).
  DERIVED. THE GIVEN ROWS OF THIS SEAT. 4 by the template 'for every input the law returns true; each argument reads behind the call as it read before'; 0 by the template 'total and deterministic' (their statements: YtpdpkjdkafmmhaaTotals.lean).
  GIVEN WITH THE SEED: the statements are not yours to turn. If you find one false, say at which input.
  Laid BY PROGRAM, IN A SANDBOX (cutbox-rows.mjs): the forced cells as the released guide's own fill.sh prints them over the translation d4b46f2ff45398ba… (all of the seat's roots in one cut). By AI agents, Wed Nov 11 2026. No macro, syntax, notation, axiom, sorry.
-/
import Derived.Test.YtpdpkjdkafmmhaaChecked
import GoSem.Claim
import GoSem.ClaimJoined
import GoSem.ClaimMapViews
import Derived.JoinedTies
import Derived.KernelRfl
namespace Go.Proofs.Ytpdpkjdkafmmhaa
/- THE CELL 'sum', in the pinned program and in every row, IS THE sha256 OF THE DUMP (.gsa) THAT YtpdpkjdkafmmhaaProg.lean LOADS. Nothing in Lean hashes anything: it is a label: what it is worth is what the hold of that sum in a sandbox is worth. -/
noncomputable def Try.pinned : Pinned := { name := "ytpdpkjdkafmmhaa", sum := "d4b46f2ff45398ba087118c957d9493901105ed7c79b850a8d74e288aa7ed5ee", checked := Try.checked }
namespace Rows
def none {H : Type} : Left H := { results := [], args := [] }

/-- 'gunnylaw30.VaMakes': WHATEVER THE INPUT: true; the input reads as it did. -/
def vaMakesSpec : ChangeSpec := { name := "vaMakes", fn := fun _ => fun
  | [d1, d2] => { results := [.lit (.bool true)], args := [d1, d2] }
  | _ => none }
def vaMakesRow : OpenClaim := { program := "ytpdpkjdkafmmhaa", sum := "d4b46f2ff45398ba087118c957d9493901105ed7c79b850a8d74e288aa7ed5ee", func := "gunny/gunnylaw30.VaMakes", spec := "vaMakes", apart := false }
def VaMakesSaid : Prop := vaMakesRow.holds Try.pinned (OpenSpec.ofChange vaMakesSpec)

/-- ITS FALSE NEIGHBOUR: 'it returns false'. Refute it at one input. -/
def vaMakesWrong : ChangeSpec := { name := "vaMakes", fn := fun _ => fun
  | [d1, d2] => { results := [.lit (.bool false)], args := [d1, d2] }
  | _ => none }
def VaMakesWrongFalsely : Prop := vaMakesRow.holds Try.pinned (OpenSpec.ofChange vaMakesWrong)

/-- 'gunnylaw30.VaParts': WHATEVER THE INPUT: true; the input reads as it did. -/
def vaPartsSpec : ChangeSpec := { name := "vaParts", fn := fun _ => fun
  | [d1, d2, d3] => { results := [.lit (.bool true)], args := [d1, d2, d3] }
  | _ => none }
def vaPartsRow : OpenClaim := { program := "ytpdpkjdkafmmhaa", sum := "d4b46f2ff45398ba087118c957d9493901105ed7c79b850a8d74e288aa7ed5ee", func := "gunny/gunnylaw30.VaParts", spec := "vaParts", apart := false }
def VaPartsSaid : Prop := vaPartsRow.holds Try.pinned (OpenSpec.ofChange vaPartsSpec)

/-- ITS FALSE NEIGHBOUR: 'it returns false'. Refute it at one input. -/
def vaPartsWrong : ChangeSpec := { name := "vaParts", fn := fun _ => fun
  | [d1, d2, d3] => { results := [.lit (.bool false)], args := [d1, d2, d3] }
  | _ => none }
def VaPartsWrongFalsely : Prop := vaPartsRow.holds Try.pinned (OpenSpec.ofChange vaPartsWrong)

/-- 'gunnylaw30.VaBack': WHATEVER THE INPUT: true; the input reads as it did. -/
def vaBackSpec : ChangeSpec := { name := "vaBack", fn := fun _ => fun
  | [d] => { results := [.lit (.bool true)], args := [d] }
  | _ => none }
def vaBackRow : OpenClaim := { program := "ytpdpkjdkafmmhaa", sum := "d4b46f2ff45398ba087118c957d9493901105ed7c79b850a8d74e288aa7ed5ee", func := "gunny/gunnylaw30.VaBack", spec := "vaBack", apart := false }
def VaBackSaid : Prop := vaBackRow.holds Try.pinned (OpenSpec.ofChange vaBackSpec)

/-- ITS FALSE NEIGHBOUR: 'it returns false'. Refute it at one input. -/
def vaBackWrong : ChangeSpec := { name := "vaBack", fn := fun _ => fun
  | [d] => { results := [.lit (.bool false)], args := [d] }
  | _ => none }
def VaBackWrongFalsely : Prop := vaBackRow.holds Try.pinned (OpenSpec.ofChange vaBackWrong)

/-- 'gunnylaw30.VaCross': WHATEVER THE INPUT: true; the input reads as it did. -/
def vaCrossSpec : ChangeSpec := { name := "vaCross", fn := fun _ => fun
  | [d1, d2] => { results := [.lit (.bool true)], args := [d1, d2] }
  | _ => none }
def vaCrossRow : OpenClaim := { program := "ytpdpkjdkafmmhaa", sum := "d4b46f2ff45398ba087118c957d9493901105ed7c79b850a8d74e288aa7ed5ee", func := "gunny/gunnylaw30.VaCross", spec := "vaCross", apart := false }
def VaCrossSaid : Prop := vaCrossRow.holds Try.pinned (OpenSpec.ofChange vaCrossSpec)

/-- ITS FALSE NEIGHBOUR: 'it returns false'. Refute it at one input. -/
def vaCrossWrong : ChangeSpec := { name := "vaCross", fn := fun _ => fun
  | [d1, d2] => { results := [.lit (.bool false)], args := [d1, d2] }
  | _ => none }
def VaCrossWrongFalsely : Prop := vaCrossRow.holds Try.pinned (OpenSpec.ofChange vaCrossWrong)

/- THE SECOND FORM. 'bulk': how many values and letters a reading holds, each counted each time it is reached (what is shared counts as often as it is met; a slice's spare places count too). A statement '..UptoSaid' is the law's where the arguments, and the package variables that the reading takes, are together of bulk at most 1048576: NARROWER than '..Said'. Prove '..Said' where nothing that the law and all that it calls make is longer than what came in: it says more and counts as full. Else prove '..UptoSaid'. A law counts once. -/
mutual
def uptoBulk {H : Type} : DataW H → Nat
  | .lit (.string bytes) => bytes.length + 1
  | .lit _ => 1
  | .nil => 1
  | .ptr d => uptoBulk d + 1
  | .slice elems spare => uptoBulkAll elems + uptoBulkAll spare + 1
  | .agg parts => uptoBulkAll parts + 1
  | .iface _ d => uptoBulk d + 1
  | .map entries => uptoBulkEntries entries + 1
  | .held _ => 1
def uptoBulkAll {H : Type} : List (DataW H) → Nat
  | [] => 0
  | d :: r => uptoBulk d + uptoBulkAll r
def uptoBulkEntries {H : Type} : List (Lit × DataW H) → Nat
  | [] => 0
  | x :: r => uptoBulkEntry x + uptoBulkEntries r
def uptoBulkEntry {H : Type} : Lit × DataW H → Nat
  | (.string bytes, d) => bytes.length + uptoBulk d + 1
  | (_, d) => uptoBulk d + 1
 end
def uptoSmall : (H : Type) → List (DataW H) → Bool := fun _ ds => decide (uptoBulkAll ds ≤ 1048576)
def OpenSpec.upto (s : _root_.Go.ChangeSpec) : _root_.Go.OpenSpec := { _root_.Go.OpenSpec.ofChange s with cond := some uptoSmall }

/-- 'gunnylaw30.VaMakes', WHERE WHAT IT READS IS OF BULK AT MOST 1048576: true; the input reads as it did. -/
def vaMakesUptoRow : OpenClaim := { program := "ytpdpkjdkafmmhaa", sum := "d4b46f2ff45398ba087118c957d9493901105ed7c79b850a8d74e288aa7ed5ee", func := "gunny/gunnylaw30.VaMakes", spec := "vaMakes", apart := false, narrowed := true }
def VaMakesUptoSaid : Prop := vaMakesUptoRow.holds Try.pinned (OpenSpec.upto vaMakesSpec)

/-- 'gunnylaw30.VaParts', WHERE WHAT IT READS IS OF BULK AT MOST 1048576: true; the input reads as it did. -/
def vaPartsUptoRow : OpenClaim := { program := "ytpdpkjdkafmmhaa", sum := "d4b46f2ff45398ba087118c957d9493901105ed7c79b850a8d74e288aa7ed5ee", func := "gunny/gunnylaw30.VaParts", spec := "vaParts", apart := false, narrowed := true }
def VaPartsUptoSaid : Prop := vaPartsUptoRow.holds Try.pinned (OpenSpec.upto vaPartsSpec)

/-- 'gunnylaw30.VaBack', WHERE WHAT IT READS IS OF BULK AT MOST 1048576: true; the input reads as it did. -/
def vaBackUptoRow : OpenClaim := { program := "ytpdpkjdkafmmhaa", sum := "d4b46f2ff45398ba087118c957d9493901105ed7c79b850a8d74e288aa7ed5ee", func := "gunny/gunnylaw30.VaBack", spec := "vaBack", apart := false, narrowed := true }
def VaBackUptoSaid : Prop := vaBackUptoRow.holds Try.pinned (OpenSpec.upto vaBackSpec)

/-- 'gunnylaw30.VaCross', WHERE WHAT IT READS IS OF BULK AT MOST 1048576: true; the input reads as it did. -/
def vaCrossUptoRow : OpenClaim := { program := "ytpdpkjdkafmmhaa", sum := "d4b46f2ff45398ba087118c957d9493901105ed7c79b850a8d74e288aa7ed5ee", func := "gunny/gunnylaw30.VaCross", spec := "vaCross", apart := false, narrowed := true }
def VaCrossUptoSaid : Prop := vaCrossUptoRow.holds Try.pinned (OpenSpec.upto vaCrossSpec)

end Rows
end Go.Proofs.Ytpdpkjdkafmmhaa
