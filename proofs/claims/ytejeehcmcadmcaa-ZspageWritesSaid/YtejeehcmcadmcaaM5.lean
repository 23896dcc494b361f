/- ram's calls, whatever is asked for; Give. -/
import Derived.Test.YtejeehcmcadmcaaM3
namespace Go.Proofs.Ytejeehcmcadmcaa.Hand
set_option linter.unusedVariables false
set_option linter.unusedSimpArgs false
open Go.RowKit Go.Proofs.Ytejeehcmcadmcaa.R Go.Proofs.YtejeehcmcadmcaaW.PrintWords Go.Proofs.YtejeehcmcadmcaaW.PrintLast Go.Proofs.YtejeehcmcadmcaaW.PrintMore

def pk (own : List Int) (n at_ size : Int) : Prop := ownerOf own n ≠ 0 ∧ 0 ≤ size ∧ 0 ≤ at_ ∧ at_ ≤ 4096 - size
instance (own : List Int) (n at_ size : Int) : Decidable (pk own n at_ size) := by unfold pk; infer_instance
structure Ram (w : World) (base : Nat) (a : RA) (own F : List Int) (t : Int) (B : List Int) : Prop where
  of : ∃ q, RS w base a ⟨own, F, t, B, q⟩
theorem Ram.stay {w w' : World} {base : Nat} {a : RA} {own F : List Int} {t : Int} {B : List Int} {S : Nat → Prop} (h : Ram w base a own F t B) (f : Far S w w') (hd : ∀ k, Rown a k → ¬ S k) : Ram w' base a own F t B := ⟨h.of.choose, h.of.choose_spec.stay f hd⟩
theorem Ram.below {w w' : World} {base : Nat} {a : RA} {own F : List Int} {t : Int} {B : List Int} (h : Ram w base a own F t B) (hb : Below w.heap.size w w') : Ram w' base a own F t B := ⟨h.of.choose, h.of.choose_spec.below hb⟩
theorem Ram.own_lt {w : World} {base : Nat} {a : RA} {own F : List Int} {t : Int} {B : List Int} (h : Ram w base a own F t B) (k : Nat) (hk : Rown a k) : base ≤ k ∧ k < w.heap.size := h.of.choose_spec.own_lt k hk
theorem Ram.gt {w : World} {base : Nat} {a : RA} {own F : List Int} {t : Int} {B : List Int} (h : Ram w base a own F t B) : base ≤ w.heap.size := h.of.choose_spec.gt
/-- What is told of a RAM. -/
def Gd (own F B : List Int) (m f : Nat) : Prop := RG ⟨own, F, 0, B, 0⟩ m f
theorem Gd.to {own F B : List Int} {m f : Nat} (h : Gd own F B m f) (t q : Int) : RG ⟨own, F, t, B, q⟩ m f := ⟨h.ok, h.m96, h.B, h.by_⟩
theorem Gd.of {own F B : List Int} {m f : Nat} {t q : Int} (h : RG ⟨own, F, t, B, q⟩ m f) : Gd own F B m f := ⟨h.ok, h.m96, h.B, h.by_⟩

def part (own B : List Int) (n at_ size : Int) : List Int := if pk own n at_ size then (B.drop (4096 * n.toNat + at_.toNat)).take size.toNat else []
def wrB (own B : List Int) (n at_ : Int) (l : List Int) : List Int := if pk own n at_ (l.length : Int) then over B (4096 * n.toNat + at_.toNat) l else B
theorem read_any (base : Nat) (a : RA) (own F : List Int) (t : Int) (B : List Int) (n at_ size : Int) (w : World) (h : Ram w base a own F t B) {m f : Nat} (hg : Gd own F B m f) (hs : size < 9223372036854775808) :
    Calls Try.prog 22 #[.pointer (some ⟨a.g, 0, none⟩), .int .i64 n, .int .i64 at_, .int .i64 size] w fun e w' => ∃ A c, e = .returned (.tuple #[.slice A (part own B n at_ size).length c, .bool (decide (pk own n at_ size))]) ∧ RB w' w.heap.size (fun _ => True) (.slice A (part own B n at_ size).length c) (part own B n at_ size) ∧ Ram w' base a own F t B ∧ Far (fun k => k = a.g) w w' := by
  obtain ⟨q, hq⟩ := h.of
  by_cases hp : pk own n at_ size
  · obtain ⟨x, y, z, rfl, rfl, rfl, h1, h2, h3, h4⟩ := pok_nat (s := ⟨own, F, t, B, q⟩) (hg.to t q) hp
    have hl := (hg.to t q).ok.len
    have h96 := (hg.to t q).m96
    have hB := (hg.to t q).B
    have hpart : part own B (x : Int) (y : Int) (z : Int) = (B.drop (4096 * x + y)).take z := by unfold part; rw [if_pos hp, Int.toNat_natCast, Int.toNat_natCast, Int.toNat_natCast]
    rw [hpart, decide_eq_true hp]
    refine (read_yes base a ⟨own, F, t, B, q⟩ x y z w hq h1 h2 h3 (hB.trans (by rw [hl])) (by rw [hl]; exact h96)).mono ?_
    rintro e w' ⟨v, rfl, hr, hs, hf⟩
    obtain ⟨A, c, rfl⟩ := Kd.R_slice hr
    exact ⟨A, c, rfl, hr, ⟨_, hs⟩, hf⟩
  · have hpart : part own B n at_ size = [] := by unfold part; rw [if_neg hp]
    rw [hpart, decide_eq_false hp]
    refine (read_no base a ⟨own, F, t, B, q⟩ n at_ size w hq hs hp).mono ?_
    rintro e w' ⟨v, rfl, hr, hb⟩
    obtain ⟨A, c, rfl⟩ := Kd.R_slice hr
    exact ⟨A, c, rfl, hr, h.below hb, Far.of_below hb⟩
theorem write_any (base : Nat) (a : RA) (own F : List Int) (t : Int) (B : List Int) (n at_ : Int) (A : Option Addr) (c : Nat) (l : List Int) (w : World) (h : Ram w base a own F t B) {m f : Nat} (hg : Gd own F B m f) (hC : Kd.C (Kd.int .u8) w A l.length l) (hs : l.length < 9223372036854775808) (hA : ∀ ad, A = some ad → 0 < l.length → ad.block ≠ a.g) :
    Calls Try.prog 20 #[.pointer (some ⟨a.g, 0, none⟩), .int .i64 n, .int .i64 at_, .slice A l.length c] w fun e w' => e = .returned (.bool (decide (pk own n at_ (l.length : Int)))) ∧ Ram w' base a own F t (wrB own B n at_ l) ∧ Far (fun k => k = a.g ∨ k = a.b) w w' := by
  obtain ⟨q, hq⟩ := h.of
  by_cases hp : pk own n at_ (l.length : Int)
  · obtain ⟨x, y, z, rfl, rfl, hz, h1, h2, h3, h4⟩ := pok_nat (s := ⟨own, F, t, B, q⟩) (hg.to t q) hp
    obtain rfl : z = l.length := by omega
    have hl := (hg.to t q).ok.len
    have h96 := (hg.to t q).m96
    have hB := (hg.to t q).B
    have hw : wrB own B (x : Int) (y : Int) l = over B (4096 * x + y) l := by unfold wrB; rw [if_pos hp, Int.toNat_natCast, Int.toNat_natCast]
    rw [hw, decide_eq_true hp]
    refine (write_yes base a ⟨own, F, t, B, q⟩ x y A c l w hq h1 h2 h3 (hB.trans (by rw [hl])) (by rw [hl]; exact h96) hC hA).mono ?_
    rintro e w' ⟨rfl, hs, hf⟩
    exact ⟨rfl, ⟨_, hs⟩, hf⟩
  · have hw : wrB own B n at_ l = B := by unfold wrB; rw [if_neg hp]
    rw [hw, decide_eq_false hp]
    refine (write_no base a ⟨own, F, t, B, q⟩ n at_ A l.length c w hq hs hp).mono ?_
    rintro e w' ⟨rfl, rfl⟩
    exact ⟨rfl, h, Far.refl _ _⟩
theorem Gd.wr {own F B : List Int} {m f : Nat} (h : Gd own F B m f) (n at_ : Int) (l : List Int) (hl : isBytes l) : Gd own F (wrB own B n at_ l) m f := by
  unfold wrB
  split
  · rename_i hp
    obtain ⟨x, y, z, rfl, rfl, hz, h1, h2, h3, h4⟩ := pok_nat (s := ⟨own, F, 0, B, 0⟩) h hp
    rw [Int.toNat_natCast, Int.toNat_natCast]
    exact RG.put h 0 (4096 * x + y) l (by show _ ≤ B.length; have : 4096 * x + y + z ≤ B.length := h4; omega) hl
  · exact h
theorem take_any (base : Nat) (a : RA) (own F : List Int) (t : Int) (B : List Int) (owner : Int) (w : World) (h : Ram w base a own F t B) {m f : Nat} (hg : Gd own F B m f) :
    Calls Try.prog 19 #[.pointer (some ⟨a.g, 0, none⟩), .int .i64 owner] w fun e w' => ∃ A2 c2, e = .returned (.tuple #[.int .i64 (tk own F t owner).v, .bool (tk own F t owner).b]) ∧ Ram w' base (a.at A2 c2) (tk own F t owner).own (tk own F t owner).F (tk own F t owner).t (if (tk own F t owner).b then over B (4096 * (tk own F t owner).v.toNat) (List.replicate 4096 0) else B) ∧ Far (Rown a) w w' ∧ (∀ k, Rown (a.at A2 c2) k → Rown a k ∨ w.heap.size ≤ k) := by
  obtain ⟨q, hq⟩ := h.of
  refine (ram_take base a ⟨own, F, t, B, q⟩ owner w hq (hg.to t q)).mono ?_
  rintro e w' ⟨A2, c2, he, hs, hf, hk⟩
  refine ⟨A2, c2, he, ⟨q, ?_⟩, hf, hk⟩
  unfold rtk at hs
  cases hb : (tk own F t owner).b with
  | true =>
    rw [show (tk (RP.mk own F t B q).own (RP.mk own F t B q).F (RP.mk own F t B q).t owner).b = true from hb, if_pos rfl] at hs
    rw [if_pos rfl]
    exact hs
  | false =>
    rw [show (tk (RP.mk own F t B q).own (RP.mk own F t B q).F (RP.mk own F t B q).t owner).b = false from hb, if_neg Bool.false_ne_true] at hs
    rw [tk_no t owner hb, if_neg Bool.false_ne_true]
    exact hs
theorem Gd.take {own F B : List Int} {m f : Nat} (h : Gd own F B m f) (t owner : Int) : Gd (tk own F t owner).own (tk own F t owner).F (if (tk own F t owner).b then over B (4096 * (tk own F t owner).v.toNat) (List.replicate 4096 0) else B) m f := by
  have := (h.to t 0).take owner
  unfold rtk at this
  cases hb : (tk own F t owner).b with
  | true =>
    rw [show (tk (RP.mk own F t B 0).own (RP.mk own F t B 0).F (RP.mk own F t B 0).t owner).b = true from hb, if_pos rfl] at this
    rw [if_pos rfl]
    exact Gd.of this
  | false =>
    rw [tk_no t owner hb, if_neg Bool.false_ne_true]
    exact h
end Go.Proofs.Ytejeehcmcadmcaa.Hand
