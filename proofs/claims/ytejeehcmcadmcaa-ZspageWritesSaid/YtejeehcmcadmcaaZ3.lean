/- A region that defers nothing is walked in a round as anywhere. No program. -/
import Derived.Test.YtejeehcmcadmcaaZ2
namespace Go.Proofs.Ytejeehcmcadmcaa.Hand
set_option linter.unusedVariables false
open Go.RowKit

theorem rowsIn_wide' {l n : Nat} {P : Program} {row : String} {args : Array Value} {w : World} {R : Value → World → Prop} (h : Rows P row args w R) : RowsIn (Fence.wide.inRound l) n P row args w R :=
  fun c cs _ => let ⟨v, w', r, s⟩ := h c cs; ⟨v, w', r, stepsIn_wide.2 s⟩
theorem upon_round {l n : Nat} {P : Program} {o : Oper} {a : Act} {next next' : Act → World → Prop} {Q : Exit → Act → World → Prop} (hn : ∀ a w, next a w → next' a w) {r : Result Next} (h : o.upon P a next Q r) :
    o.uponIn (Fence.wide.inRound l) n P a next' Q r := by
  unfold Oper.upon at h
  split at h
  · exact hn _ _ h
  · exact hn _ _ h
  · exact hn _ _ h
  · refine ⟨fun h => (by cases h), ?_⟩
    have h2 := (callsIn_wide (n := n - 1)).2 h
    refine CallsIn.mono h2 ?_
    intro e w' hr
    cases e with
    | returned v => exact hn _ _ hr
    | panicked c => exact hr
    | outgrown => exact hr
  · refine ⟨fun h => (by cases h), ?_⟩
    exact RowsIn.mono (rowsIn_wide' h) (fun v w' hr => hn _ _ hr)
  · exact h
  · exact h.elim
theorem list_round {l n : Nat} {P : Program} {ops : Array Oper} {Q : Exit → Act → World → Prop} (hQ : ¬ LetsOut Q) : ∀ {rest : List Oper} {a : Act} {w : World}, (∀ o ∈ rest, ∀ c, o.op ≠ .defer c) → wpList P ops Q rest a w → wpListIn (Fence.wide.inRound l) n P ops Q rest a w := by
  intro rest
  induction rest with
  | nil => exact fun _ h => h
  | cons o rest ih =>
    intro a w hd h
    unfold wpList at h
    unfold wpListIn
    have hd' : ∀ o ∈ rest, ∀ c, o.op ≠ .defer c := fun o' ho => hd o' (List.mem_cons_of_mem _ ho)
    split
    · rename_i hw
      rw [if_pos hw] at h
      rcases h with h | ⟨_, h⟩
      · refine ⟨fun _ _ => trivial, ?_⟩
        rw [Oper.semAt_plain _ _ _ (hd o (List.mem_cons_self ..))]
        exact upon_round (fun a w hk => ih hd' hk) h
      · exact absurd h hQ
    · rename_i hw
      rw [if_neg hw] at h
      exact ⟨fun _ _ => trivial, ih hd' h⟩
theorem region_round {l n id : Nat} {P : Program} {ops : List Oper} {Q : Exit → Act → World → Prop} (hQ : ¬ LetsOut Q) {a : Act} {w : World} (hd : ∀ o ∈ ops, ∀ c, o.op ≠ .defer c) (h : wpList P ops.toArray Q ops a w) : (Code.region id ops.toArray false).wpIn (Fence.wide.inRound l) n P Q a w :=
  wpIn_region_lit (list_round hQ hd h)

end Go.Proofs.Ytejeehcmcadmcaa.Hand
