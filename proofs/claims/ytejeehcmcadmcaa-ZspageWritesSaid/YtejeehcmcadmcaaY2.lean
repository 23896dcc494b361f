/- zspage.there, whatever is asked; zspage.Read. -/
import Derived.Test.YtejeehcmcadmcaaY1
import Derived.StillTailTactics
namespace Go.Proofs.Ytejeehcmcadmcaa.Hand
set_option linter.unusedVariables false
set_option linter.unusedSimpArgs false
open Go.RowKit Go.Proofs.Ytejeehcmcadmcaa.R Go.Proofs.YtejeehcmcadmcaaW.PrintWords Go.Proofs.YtejeehcmcadmcaaW.PrintLast Go.Proofs.YtejeehcmcadmcaaW.PrintMore

/-- What there tells. -/
def thereB (own : List Int) (f0 f1 f2 a0 a1 a2 a3 : Int) : Bool := (mayB a0 a1 a2 a3) && (pcs (a0 * a1 + a2).toNat a3.toNat).all (fine own f0 f1 f2)
set_option maxHeartbeats 8000000 in
set_option maxRecDepth 100000 in
theorem there_no (a0 a1 a2 a3 : Int) (r A : Option Addr) (len c : Nat) (w : World) (hm : mayB a0 a1 a2 a3 = false) (b2 : -9223372036854775808 ≤ a2) (b2' : a2 < 9223372036854775808) :
    Calls Try.prog 21 #[.pointer r, .slice A len c, .int .i64 a0, .int .i64 a1, .int .i64 a2, .int .i64 a3] w fun e w' => e = .returned (.bool false) ∧ Below w.heap.size w w' := by
  cases r with
  | none => exact there_nil a0 a1 a2 a3 A len c w
  | some r =>
    have hmay := fun W => Aside0.mk (zspage_may.calls a0 a1 a2 a3 false W (by rw [may_eq _ _ _ _ b2 b2', hm]))
    clear hm b2 b2'
    have q2 := blk_new ((w.alloc (.cells #[.pointer (some r)] 32 (0, 0))).alloc (.cells #[.slice A len c] 33 (0, 0))) (.cells #[.bool false] 4 (0, 0))
    rw [World.size_alloc, World.size_alloc] at q2
    replace q2 := Aside0.mk q2
    go_enter Try.func21, Try.ntmps21
    go_wp2_with (go_at_call 15; refine (hmay _).out.mono ?_; rintro e w2 ⟨rfl, hd⟩; have q3 := blk_below q2.out hd.below; have k3 := hbox q3; have fr3 := blk_frozen q3 0; have hb2 := Aside0.mk hd.below; clear hd; replace q3 := Aside0.mk q3)
    have hs := hb2.out.size
    rw [World.size_alloc, World.size_alloc, World.size_alloc] at hs
    exact bodyPost_ret (results_cellb rfl _ _ (w.heap.size + 1 + 1) false rfl (blk_put q3.out 0 _ rfl)) rfl ⟨rfl, Below.setCell ((below_alloc (below_alloc (below_alloc (Below.refl _ _) _) _) _).trans (Below_low hb2.out (by rw [World.size_alloc, World.size_alloc, World.size_alloc]; omega))) (by show w.heap.size ≤ w.heap.size + 1 + 1; omega) _⟩
theorem there_any (base : Nat) (a : RA) (own F : List Int) (t : Int) (B : List Int) (a0 a1 a2 a3 : Int) (rb c : Nat) (f0 f1 f2 : Int) (w : World) (h : Ram w base a own F t B)
    (hr : w.heap[rb]? = some (.cells (l3 f0 f1 f2) 3 (0, 0))) (b2 : -9223372036854775808 ≤ a2) (b2' : a2 < 9223372036854775808) :
    Calls Try.prog 21 #[.pointer (some ⟨a.g, 0, none⟩), .slice (some ⟨rb, 0, none⟩) 3 c, .int .i64 a0, .int .i64 a1, .int .i64 a2, .int .i64 a3] w fun e w' => e = .returned (.bool (thereB own f0 f1 f2 a0 a1 a2 a3)) ∧ Below w.heap.size w w' := by
  unfold thereB
  cases hm : mayB a0 a1 a2 a3 with
  | false => exact there_no a0 a1 a2 a3 _ _ _ _ w hm b2 b2'
  | true =>
    have h' := of_decide_eq_true hm
    obtain ⟨s, rfl⟩ : ∃ s : Nat, a0 = (s : Int) := ⟨a0.toNat, by omega⟩
    obtain ⟨n, rfl⟩ : ∃ s : Nat, a1 = (s : Int) := ⟨a1.toNat, by omega⟩
    obtain ⟨f, rfl⟩ : ∃ s : Nat, a2 = (s : Int) := ⟨a2.toNat, by omega⟩
    obtain ⟨m, rfl⟩ : ∃ s : Nat, a3 = (s : Int) := ⟨a3.toNat, by omega⟩
    rw [show ((s : Int) * (n : Int) + (f : Int)).toNat = s * n + f by rw [← Int.natCast_mul]; omega, Int.toNat_natCast, Bool.true_and]
    exact callsIn_wide.1 (there_in 0 base a own F t B s n f m rb c f0 f1 f2 w h hr hm)

end Go.Proofs.Ytejeehcmcadmcaa.Hand
