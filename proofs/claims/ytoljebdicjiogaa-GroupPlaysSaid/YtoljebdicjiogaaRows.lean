/-
  No cell of these rows narrows 'for every input' (looked for: loops, veiled, ifaces, maps, wideKeys, modest, calm, conditions, laid).
  DERIVED. THE GIVEN ROWS OF THIS SEAT. 3 by the template 'for every input the law returns true; each argument reads behind the call as it read before'; 0 by the template 'total and deterministic' (their statements: YtoljebdicjiogaaTotals.lean).
  GIVEN WITH THE SEED: the statements are not yours to turn. If you find one false, say at which input.
  Laid BY PROGRAM, IN A SANDBOX (cutbox-rows.mjs): the forced cells as the released guide's own fill.sh prints them over the translation b250437a96ec3147… (all of the seat's roots in one cut). By AI agents, Wed Nov 11 2026. No macro, syntax, notation, axiom, sorry.
-/
import Derived.Test.YtoljebdicjiogaaChecked
import GoSem.Claim
import GoSem.ClaimJoined
import GoSem.ClaimMapViews
import Derived.JoinedTies
import Derived.KernelRfl
namespace Go.Proofs.Ytoljebdicjiogaa
/- THE CELL 'sum', in the pinned program and in every row, IS THE sha256 OF THE DUMP (.gsa) THAT YtoljebdicjiogaaProg.lean LOADS. Nothing in Lean hashes anything: it is a label: what it is worth is what the hold of that sum in a sandbox is worth. -/
noncomputable def Try.pinned : Pinned := { name := "ytoljebdicjiogaa", sum := "b250437a96ec314726da6b6f1868b558c395da7c1a882ce5fdfa748df40ecf5c", checked := Try.checked }
namespace Rows
def none {H : Type} : Left H := { results := [], args := [] }

/-- 'gunnylaw18.GroupOf': WHATEVER THE INPUT: true; the input reads as it did. -/
def groupOfSpec : ChangeSpec := { name := "groupOf", fn := fun _ => fun
  | [d1, d2] => { results := [.lit (.bool true)], args := [d1, d2] }
  | _ => none }
def groupOfRow : OpenClaim := { program := "ytoljebdicjiogaa", sum := "b250437a96ec314726da6b6f1868b558c395da7c1a882ce5fdfa748df40ecf5c", func := "gunny/gunnylaw18.GroupOf", spec := "groupOf", unfollowed := true, recurses := true, apart := false }
def GroupOfSaid : Prop := groupOfRow.holds Try.pinned (OpenSpec.ofChange groupOfSpec)

/-- ITS FALSE NEIGHBOUR: 'it returns false'. Refute it at one input. -/
def groupOfWrong : ChangeSpec := { name := "groupOf", fn := fun _ => fun
  | [d1, d2] => { results := [.lit (.bool false)], args := [d1, d2] }
  | _ => none }
def GroupOfWrongFalsely : Prop := groupOfRow.holds Try.pinned (OpenSpec.ofChange groupOfWrong)

/-- 'gunnylaw18.GroupHelps': WHATEVER THE INPUT: true; the input reads as it did. -/
def groupHelpsSpec : ChangeSpec := { name := "groupHelps", fn := fun _ => fun
  | [d] => { results := [.lit (.bool true)], args := [d] }
  | _ => none }
def groupHelpsRow : OpenClaim := { program := "ytoljebdicjiogaa", sum := "b250437a96ec314726da6b6f1868b558c395da7c1a882ce5fdfa748df40ecf5c", func := "gunny/gunnylaw18.GroupHelps", spec := "groupHelps", unfollowed := true, recurses := true, apart := false }
def GroupHelpsSaid : Prop := groupHelpsRow.holds Try.pinned (OpenSpec.ofChange groupHelpsSpec)

/-- ITS FALSE NEIGHBOUR: 'it returns false'. Refute it at one input. -/
def groupHelpsWrong : ChangeSpec := { name := "groupHelps", fn := fun _ => fun
  | [d] => { results := [.lit (.bool false)], args := [d] }
  | _ => none }
def GroupHelpsWrongFalsely : Prop := groupHelpsRow.holds Try.pinned (OpenSpec.ofChange groupHelpsWrong)

/-- 'gunnylaw18.GroupPlays': WHATEVER THE INPUT: true; the input reads as it did. -/
def groupPlaysSpec : ChangeSpec := { name := "groupPlays", fn := fun _ => fun
  | [d1, d2] => { results := [.lit (.bool true)], args := [d1, d2] }
  | _ => none }
def groupPlaysRow : OpenClaim := { program := "ytoljebdicjiogaa", sum := "b250437a96ec314726da6b6f1868b558c395da7c1a882ce5fdfa748df40ecf5c", func := "gunny/gunnylaw18.GroupPlays", spec := "groupPlays", unfollowed := true, recurses := true, apart := false }
def GroupPlaysSaid : Prop := groupPlaysRow.holds Try.pinned (OpenSpec.ofChange groupPlaysSpec)

/-- ITS FALSE NEIGHBOUR: 'it returns false'. Refute it at one input. -/
def groupPlaysWrong : ChangeSpec := { name := "groupPlays", fn := fun _ => fun
  | [d1, d2] => { results := [.lit (.bool false)], args := [d1, d2] }
  | _ => none }
def GroupPlaysWrongFalsely : Prop := groupPlaysRow.holds Try.pinned (OpenSpec.ofChange groupPlaysWrong)

/- THE SECOND FORM. 'bulk': how many values and letters a reading holds, each counted each time it is reached (what is shared counts as often as it is met; a slice's spare places count too). A statement '..UptoSaid' is the law's where the arguments, and the package variables that the reading takes, are together of bulk at most 1048576: NARROWER than '..Said'. Prove '..Said' where nothing that the law and all that it calls make is longer than what came in: it says more and counts as full. Else prove '..UptoSaid'. A law counts once. -/
mutual
def uptoBulk {H : Type} : DataW H → Nat
  | .lit (.string bytes) => bytes.length + 1
  | .lit _ => 1
  | .nil => 1
  | .ptr d => uptoBulk d + 1
  | .slice elems spare => uptoBulkAll elems + uptoBulkAll spare + 1
  | .agg parts => uptoBulkAll parts + 1
  | .iface _ d => uptoBulk d + 1
  | .map entries => uptoBulkEntries entries + 1
  | .held _ => 1
def uptoBulkAll {H : Type} : List (DataW H) → Nat
  | [] => 0
  | d :: r => uptoBulk d + uptoBulkAll r
def uptoBulkEntries {H : Type} : List (Lit × DataW H) → Nat
  | [] => 0
  | x :: r => uptoBulkEntry x + uptoBulkEntries r
def uptoBulkEntry {H : Type} : Lit × DataW H → Nat
  | (.string bytes, d) => bytes.length + uptoBulk d + 1
  | (_, d) => uptoBulk d + 1
 end
def uptoSmall : (H : Type) → List (DataW H) → Bool := fun _ ds => decide (uptoBulkAll ds ≤ 1048576)
def OpenSpec.upto (s : _root_.Go.ChangeSpec) : _root_.Go.OpenSpec := { _root_.Go.OpenSpec.ofChange s with cond := some uptoSmall }

/-- 'gunnylaw18.GroupOf', WHERE WHAT IT READS IS OF BULK AT MOST 1048576: true; the input reads as it did. -/
def groupOfUptoRow : OpenClaim := { program := "ytoljebdicjiogaa", sum := "b250437a96ec314726da6b6f1868b558c395da7c1a882ce5fdfa748df40ecf5c", func := "gunny/gunnylaw18.GroupOf", spec := "groupOf", unfollowed := true, recurses := true, apart := false, narrowed := true }
def GroupOfUptoSaid : Prop := groupOfUptoRow.holds Try.pinned (OpenSpec.upto groupOfSpec)

/-- 'gunnylaw18.GroupHelps', WHERE WHAT IT READS IS OF BULK AT MOST 1048576: true; the input reads as it did. -/
def groupHelpsUptoRow : OpenClaim := { program := "ytoljebdicjiogaa", sum := "b250437a96ec314726da6b6f1868b558c395da7c1a882ce5fdfa748df40ecf5c", func := "gunny/gunnylaw18.GroupHelps", spec := "groupHelps", unfollowed := true, recurses := true, apart := false, narrowed := true }
def GroupHelpsUptoSaid : Prop := groupHelpsUptoRow.holds Try.pinned (OpenSpec.upto groupHelpsSpec)

/-- 'gunnylaw18.GroupPlays', WHERE WHAT IT READS IS OF BULK AT MOST 1048576: true; the input reads as it did. -/
def groupPlaysUptoRow : OpenClaim := { program := "ytoljebdicjiogaa", sum := "b250437a96ec314726da6b6f1868b558c395da7c1a882ce5fdfa748df40ecf5c", func := "gunny/gunnylaw18.GroupPlays", spec := "groupPlays", unfollowed := true, recurses := true, apart := false, narrowed := true }
def GroupPlaysUptoSaid : Prop := groupPlaysUptoRow.holds Try.pinned (OpenSpec.upto groupPlaysSpec)

end Rows
end Go.Proofs.Ytoljebdicjiogaa
