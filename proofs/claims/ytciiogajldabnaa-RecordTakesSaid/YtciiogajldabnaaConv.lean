/- '[]byte("..")' of a constant: a literal's row, converted to its own type, is marked behind its last cell; what it reads stays. -/
import Derived.Lib.SlBytesConst
import Derived.Test.YtciiogajldabnaaWMore
namespace Go.Proofs.Ytciiogajldabnaa.Conv
set_option linter.unusedVariables false
set_option linter.unusedSimpArgs false
open Go.RowKit Go.Proofs.YtciiogajldabnaaW.PrintWords

theorem conv_const {P : Program} {W : World} {t B : Nat} {e : Nat} {ok : Nat → Prop} {A : Option Addr} {n c : Nat} {xs : List Int} (ht : P.underlying t = some (.slice e)) (he : P.underlying e = some (.int .u8))
    (h : (Kd.int .u8).R e W B ok (.slice A n c) xs) (hn : 0 < n) :
    ∃ W', (convert t t (.slice A n c)).run P W = .ok (.slice A n c) W' ∧ Below B W W' ∧ Kd.C (Kd.int .u8) W' A xs.length xs := by
  obtain ⟨hnx, hnc, hC⟩ := Kd.R_reads' h
  obtain ⟨inner, hown⟩ := Kd.R_own h
  rcases hown.2 with ⟨h2, h3⟩ | ⟨g, cap, cur, hv, hg, hh, r⟩
  · exfalso
    injection h2 with _ h5 _
    omega
  · injection hv with hA _ _
    subst hA
    have hsh : W.shape? g = some (e, cur.size) := by unfold World.shape?; rw [hh]
    have hrun : (convert t t (.slice (some ⟨g, 0, none⟩) n c)).run P W = .ok (.slice (some ⟨g, 0, none⟩) n c) (W.freeze ⟨g, cur.size, none⟩ 1) := by
      simp [convert, run_underlying ht, run_underlying he, markStringish, hsh]
    refine ⟨W.freeze ⟨g, cur.size, none⟩ 1, hrun, ?_, ?_⟩
    · refine ⟨?_, ?_, ?_, ?_, ?_⟩
      all_goals (unfold World.freeze; rw [if_neg (by decide)])
      · simp
      · intro k hk
        show (W.heap.modify g _)[k]? = _
        rw [Array.getElem?_modify, if_neg (by omega)]
    · have hcell : ∀ (a : Addr) (u : Value), W.cell? a = some u → (W.freeze ⟨g, cur.size, none⟩ 1).cell? a = some u := by
        intro a u hu
        by_cases hga : g = a.block
        · have hm : (W.freeze ⟨g, cur.size, none⟩ 1).heap[a.block]? = some (.cells cur e (cur.size, cur.size + 1)) := by
            unfold World.freeze
            rw [if_neg (by decide)]
            show (W.heap.modify g _)[a.block]? = _
            rw [Array.getElem?_modify, if_pos hga, ← hga, hh]
            rfl
          unfold World.cell? at hu ⊢
          rw [hm]
          rw [← hga, hh] at hu
          exact hu
        · have hm : (W.freeze ⟨g, cur.size, none⟩ 1).heap[a.block]? = W.heap[a.block]? := by
            unfold World.freeze
            rw [if_neg (by decide)]
            show (W.heap.modify g _)[a.block]? = _
            rw [Array.getElem?_modify, if_neg hga]
          unfold World.cell? at hu ⊢
          rw [hm]
          exact hu
      obtain ⟨h1, h2, h3⟩ := hC
      refine ⟨h1, h2, fun hp => ?_⟩
      obtain ⟨ad, e1, e2⟩ := h3 hp
      refine ⟨ad, e1, fun j p hj => ?_⟩
      obtain ⟨cs, c1, c2, c3⟩ := e2 j p hj
      exact ⟨cs, c1, c2, fun i u hu => hcell _ _ (c3 i u hu)⟩

end Go.Proofs.Ytciiogajldabnaa.Conv
