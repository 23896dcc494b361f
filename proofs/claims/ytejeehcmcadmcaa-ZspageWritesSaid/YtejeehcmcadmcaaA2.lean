/- zspage.Read and Write, whatever is asked. -/
import Derived.Test.YtejeehcmcadmcaaP1
namespace Go.Proofs.Ytejeehcmcadmcaa.Hand
set_option linter.unusedVariables false
set_option linter.unusedSimpArgs false
open Go.RowKit Go.Proofs.Ytejeehcmcadmcaa.R Go.Proofs.YtejeehcmcadmcaaW.PrintWords Go.Proofs.YtejeehcmcadmcaaW.PrintLast Go.Proofs.YtejeehcmcadmcaaW.PrintMore

def readL (own B : List Int) (f0 f1 f2 a0 a1 a2 a3 : Int) : List Int := if thereB own f0 f1 f2 a0 a1 a2 a3 then (pcs (a0 * a1 + a2).toNat a3.toNat).flatMap (pieceB own B f0 f1 f2) else []
theorem zread_any (base : Nat) (a : RA) (own F : List Int) (t : Int) (B : List Int) (a0 a1 a2 a3 : Int) (rb c : Nat) (f0 f1 f2 : Int) (w : World) (h : Ram w base a own F t B) {gm gf : Nat} (hg : Gd own F B gm gf)
    (hr : w.heap[rb]? = some (.cells (l3 f0 f1 f2) 3 (0, 0))) (b2 : -9223372036854775808 ≤ a2) (b2' : a2 < 9223372036854775808) (hrg : rb ≠ a.g) :
    Calls Try.prog 10 #[.pointer (some ⟨a.g, 0, none⟩), .slice (some ⟨rb, 0, none⟩) 3 c, .int .i64 a0, .int .i64 a1, .int .i64 a2, .int .i64 a3] w fun e w' => ∃ A c2, e = .returned (.tuple #[.slice A (readL own B f0 f1 f2 a0 a1 a2 a3).length c2, .bool (thereB own f0 f1 f2 a0 a1 a2 a3)]) ∧ RB w' w.heap.size (fun _ => True) (.slice A (readL own B f0 f1 f2 a0 a1 a2 a3).length c2) (readL own B f0 f1 f2 a0 a1 a2 a3) ∧ Ram w' base a own F t B ∧ Far (fun i => i = a.g) w w' := by
  unfold readL
  cases hth : thereB own f0 f1 f2 a0 a1 a2 a3 with
  | false =>
    have hT : ∀ W, Below w.heap.size w W → Calls Try.prog 21 #[.pointer (some ⟨a.g, 0, none⟩), .slice (some ⟨rb, 0, none⟩) 3 c, .int .i64 a0, .int .i64 a1, .int .i64 a2, .int .i64 a3] W fun e w' => e = .returned (.bool false) ∧ Below W.heap.size W w' := fun W hW => by
      have := there_any base a own F t B a0 a1 a2 a3 rb c f0 f1 f2 W (h.below hW) (blk_below hr hW) b2 b2'
      rw [hth] at this
      exact this
    refine (zread_no' a0 a1 a2 a3 _ _ _ _ w hT).mono ?_
    rintro e w' ⟨rfl, hb⟩
    exact ⟨none, 0, rfl, Kd.R_nil _ _ _ _ _, h.below hb, Far.of_below hb⟩
  | true =>
    rw [if_pos rfl]
    have hm : mayB a0 a1 a2 a3 = true := by
      unfold thereB at hth
      exact (Bool.and_eq_true_iff.1 hth).1
    have h' := of_decide_eq_true hm
    obtain ⟨s, rfl⟩ : ∃ s : Nat, a0 = (s : Int) := ⟨a0.toNat, by omega⟩
    obtain ⟨n, rfl⟩ : ∃ s : Nat, a1 = (s : Int) := ⟨a1.toNat, by omega⟩
    obtain ⟨f, rfl⟩ : ∃ s : Nat, a2 = (s : Int) := ⟨a2.toNat, by omega⟩
    obtain ⟨m, rfl⟩ : ∃ s : Nat, a3 = (s : Int) := ⟨a3.toNat, by omega⟩
    rw [show ((s : Int) * (n : Int) + (f : Int)).toNat = s * n + f by rw [← Int.natCast_mul]; omega, Int.toNat_natCast]
    exact callsIn_wide.1 (zread_in 0 base a own F t B s n f m rb c f0 f1 f2 w h hg hr hm hth hrg)
def writeB (own B : List Int) (f0 f1 f2 a0 a1 a2 : Int) (l : List Int) : List Int := if thereB own f0 f1 f2 a0 a1 a2 (l.length : Int) then ((pcs (a0 * a1 + a2).toNat l.length).foldl (stepW own f0 f1 f2) (B, l)).1 else B
theorem zwrite_any (base : Nat) (a : RA) (own F : List Int) (t : Int) (B : List Int) (a0 a1 a2 : Int) (rb c : Nat) (f0 f1 f2 : Int) (Ab : Option Addr) (cb : Nat) (l : List Int) (w : World) (h : Ram w base a own F t B) {gm gf : Nat} (hg : Gd own F B gm gf)
    (hr : w.heap[rb]? = some (.cells (l3 f0 f1 f2) 3 (0, 0))) (b2 : -9223372036854775808 ≤ a2) (b2' : a2 < 9223372036854775808) (hrg : rb ≠ a.g) (hrb : rb ≠ a.b)
    (hC : Kd.C (Kd.int .u8) w Ab l.length l) (hcb : l.length ≤ cb) (hA : ∀ ad, Ab = some ad → 0 < l.length → ad.block < base) (hby : isBytes l) :
    Calls Try.prog 14 #[.pointer (some ⟨a.g, 0, none⟩), .slice (some ⟨rb, 0, none⟩) 3 c, .int .i64 a0, .int .i64 a1, .int .i64 a2, .slice Ab l.length cb] w fun e w' => e = .returned (.bool (thereB own f0 f1 f2 a0 a1 a2 (l.length : Int))) ∧ Ram w' base a own F t (writeB own B f0 f1 f2 a0 a1 a2 l) ∧ Far (fun i => i = a.g ∨ i = a.b) w w' := by
  unfold writeB
  cases hth : thereB own f0 f1 f2 a0 a1 a2 (l.length : Int) with
  | false =>
    have hT : ∀ W, Below w.heap.size w W → Calls Try.prog 21 #[.pointer (some ⟨a.g, 0, none⟩), .slice (some ⟨rb, 0, none⟩) 3 c, .int .i64 a0, .int .i64 a1, .int .i64 a2, .int .i64 (l.length : Int)] W fun e w' => e = .returned (.bool false) ∧ Below W.heap.size W w' := fun W hW => by
      have := there_any base a own F t B a0 a1 a2 (l.length : Int) rb c f0 f1 f2 W (h.below hW) (blk_below hr hW) b2 b2'
      rw [hth] at this
      exact this
    refine (zwrite_no' a0 a1 a2 _ _ _ _ _ _ _ w hT).mono ?_
    rintro e w' ⟨rfl, hb⟩
    exact ⟨rfl, h.below hb, Far.of_below hb⟩
  | true =>
    rw [if_pos rfl]
    have hm : mayB a0 a1 a2 (l.length : Int) = true := by
      unfold thereB at hth
      exact (Bool.and_eq_true_iff.1 hth).1
    have h' := of_decide_eq_true hm
    obtain ⟨s, rfl⟩ : ∃ s : Nat, a0 = (s : Int) := ⟨a0.toNat, by omega⟩
    obtain ⟨n, rfl⟩ : ∃ s : Nat, a1 = (s : Int) := ⟨a1.toNat, by omega⟩
    obtain ⟨f, rfl⟩ : ∃ s : Nat, a2 = (s : Int) := ⟨a2.toNat, by omega⟩
    rw [show ((s : Int) * (n : Int) + (f : Int)).toNat = s * n + f by rw [← Int.natCast_mul]; omega]
    exact callsIn_wide.1 (zwrite_in 0 base a own F t B s n f rb c f0 f1 f2 Ab cb l w h hg hr hm hth hrg hrb hC hcb hA hby)

end Go.Proofs.Ytejeehcmcadmcaa.Hand
