/- A book's numbers: the map's keys, sorted, but for some: walked over the library's contracts. -/
import Derived.Test.YtoljebdicjiogaaG1
import Derived.Test.YtoljebdicjiogaaFar
import Derived.Test.YtoljebdicjiogaaRx2
import Derived.Test.YtoljebdicjiogaaShelf
import Derived.Sort.OwnSortedInts
import Derived.Handy
namespace Go.Proofs.Ytoljebdicjiogaa.Hand
set_option linter.unusedVariables false
set_option linter.unusedSimpArgs false
open Go.RowKit Go.Maps Go.Proofs.Ytoljebdicjiogaa.R Go.Proofs.YtoljebdicjiogaaW.PrintWords Go.Proofs.YtoljebdicjiogaaW.PrintLast Go.Proofs.YtoljebdicjiogaaW.PrintMore

/-! an entry of the map -/
def pairD (u m : Int) : DataW Unit := .agg [.lit (.int .i64 u), .lit (.int .i64 m)]
def pairL : List Value → Option (DataW Unit × List MemPlace)
  | [.int .i64 u, .int .i64 m] => some (pairD u m, [])
  | _ => none
def pairR : Value → Option (DataW Unit × List MemPlace)
  | .agg cs => pairL cs.toList
  | _ => none
theorem pairR_mk (u m : Int) : pairR (.agg #[.int .i64 u, .int .i64 m]) = some (pairD u m, []) := rfl
theorem pairR_inv {v : Value} {u m : Int} {ps : List MemPlace} (h : pairR v = some (pairD u m, ps)) : v = .agg #[.int .i64 u, .int .i64 m] := by
  unfold pairR at h
  split at h
  · rename_i cs
    unfold pairL at h
    split at h
    · rename_i a b e
      have h1 := congrArg Prod.fst (Option.some.inj h)
      unfold pairD at h1
      simp only [DataW.agg.injEq, List.cons.injEq, DataW.lit.injEq, Lit.int.injEq, true_and, and_true] at h1
      obtain ⟨rfl, rfl⟩ := h1
      have : cs = #[.int .i64 a, .int .i64 b] := by
        rw [← Array.toArray_toList (xs := cs), e]
      rw [this]
    · cases h
  · cases h
theorem law3 : Keyed Try.prog 3 := int_keyed Try.underlying3

/-- The map tells the list. -/
structure RelD (D : DataW Unit) (l : List S30) : Prop where
  nd : (l.map (·.f0)).Nodup
  has : ∀ n : Int, Maps.has D (.int .i64 n) = l.any (fun h => h.f0 == n)
  at_ : ∀ h ∈ l, ∀ z, D.atKey (.int .i64 h.f0) z = pairD h.f1 h.f2
  ok : ∀ h ∈ l, 0 ≤ h.f0 ∧ h.f0 ≤ 4095 ∧ 0 ≤ h.f1 ∧ h.f1 ≤ h.f2 ∧ h.f2 ≤ 100000000
theorem RelD.keys {D : DataW Unit} {l : List S30} (h : RelD D l) {w : World} {b n : Nat} (ho : w.ownsMap Try.prog 3 pairR b n D) : (l.map (·.f0)).Perm (intKeys D) := by
  have hc : CollectedI D (fun _ => false) (l.map (·.f0)) := ⟨h.nd, fun x => by
    rw [h.has x, List.any_eq_true, List.mem_map]
    constructor
    · rintro ⟨y, hy, e⟩
      exact ⟨⟨y, hy, by simpa using e⟩, rfl⟩
    · rintro ⟨⟨y, hy, e⟩, _⟩
      exact ⟨y, hy, by simpa using e⟩⟩
  exact hc.perm ho law3 Try.underlying3 (fun _ => rfl)
def sortI (l : List Int) : List Int := l.mergeSort fun x y => decide (x ≤ y)
/-- The numbers, rising, but for some. -/
def numL (l : List S30) (but : List Int) : List Int := (sortI (l.map (·.f0))).filter (fun n => !but.contains n)

/-- A book in memory. -/
structure BK (w : World) (bb mb n : Nat) (D : DataW Unit) : Prop where
  blk : w.heap[bb]? = some (.cells #[.map (some mb)] 49 (0, 0))
  own : w.ownsMap Try.prog 3 pairR mb n D
theorem BK.below {w w' : World} {bb mb n : Nat} {D : DataW Unit} (h : BK w bb mb n D) (k : Below w.heap.size w w') : BK w' bb mb n D :=
  ⟨(k.block _ (blk_lt h.blk)).trans h.blk, h.own.kept (grown_of_below k none) (by simp)⟩

/-! the library's contracts at this program -/
theorem sortsA (m : Nat) : AnyZI.SortsIn Try.prog Try.sortedA_ren Fence.wide m :=
  ⟨fun blk off cap ss W hH hblk hsz => callsIn_wide.2 (AnyM.slices_Sort_int Try.sortA blk off cap ss W hH hblk hsz),
   fun p cap W => callsIn_wide.2 (AnyM.slices_Sort_int_none Try.sortA p cap W)⟩
theorem keys_calls (mb : Option Nat) (W : World) : Calls Try.prog 28 #[.map mb] W fun e w' => e = .returned (.func (.func 34) #[] #[.pointer (some ⟨W.heap.size, 0, none⟩)]) ∧ w' = W.alloc (.cells #[.map mb] 47 (0, 0)) :=
  callsIn_wide.1 (AnyZI.keys_in Try.keysA Fence.wide 5 trivial rfl mb W)
set_option maxHeartbeats 1000000 in
theorem sorted_calls (b n : Nat) (D : DataW Unit) (w : World) (hown : w.ownsMap Try.prog 3 pairR b n D) (hn : Maps.size D ≤ 1000000) :
    Calls Try.prog 27 #[.func (.func 34) #[] #[.pointer (some ⟨w.heap.size, 0, none⟩)]] (w.alloc (.cells #[.map (some b)] 47 (0, 0))) fun e w' => ∃ (v : Value) (ss : List Int), e = .returned v ∧ ss.Perm (intKeys D) ∧
      w'.ownsRow (w.alloc (.cells #[.map (some b)] 47 (0, 0))).heap.size 3 1 v ss.length ((sortI ss).map (Value.int .i64)) ∧ (v = .slice none 0 0 ↔ ss = []) ∧ Below (w.alloc (.cells #[.map (some b)] 47 (0, 0))).heap.size (w.alloc (.cells #[.map (some b)] 47 (0, 0))) w' := by
  have hbl := hown.lt
  have hseq : SeqGives Fence.wide 2 Try.prog 34 #[.pointer (some ⟨w.heap.size, 0, none⟩)] encZ (fun ss => ss.Perm (intKeys D)) (Maps.size D) (w.alloc (.cells #[.map (some b)] 47 (0, 0))) :=
    AnyZI.keys_gives (ρ := Try.keysA_ren) { Try.keysA with } Fence.wide _ trivial rfl (by omega) w.heap.size b n D _ (by simp) (by simp) (by
      obtain ⟨es, clock, hb, Ft, hs, hD⟩ := hown
      exact ⟨es, clock, (Below.heap_alloc _ _ b hbl).trans hb, Ft, hs, hD⟩)
  have cS := AnyZI.sorted_in Try.sortedA Fence.wide 5 trivial trivial trivial trivial rfl (by omega) (sortsA _) (enters_of Try.func33 (by kernel_rfl) rfl) 34 #[.pointer (some ⟨w.heap.size, 0, none⟩)] trivial (enters_of Try.func34 (by kernel_rfl) rfl) _ _ (by unfold maxLen; omega) (by omega) _ hseq
  change CallsIn _ _ Try.prog 27 _ _ _ at cS
  exact callsIn_wide.1 cS
end Go.Proofs.Ytoljebdicjiogaa.Hand
