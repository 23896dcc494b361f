/- RamPlays: a deed on both, whatever it is. -/
import Derived.Test.YtoejchlelamhjaaN8
namespace Go.Proofs.Ytoejchlelamhjaa.Hand
set_option linter.unusedVariables false
set_option linter.unusedSimpArgs false
open Go.RowKit Go.Proofs.Ytoejchlelamhjaa.R Go.Proofs.Ytoejchlelamhjaa.Byt Go.Proofs.YtoejchlelamhjaaW.PrintWords Go.Proofs.YtoejchlelamhjaaW.PrintLast Go.Proofs.YtoejchlelamhjaaW.PrintMore

theorem step_any {w0 w : World} {a : RA} {own F : List Int} {t : Int} {B : List Int} {q : Int} {wh : List Int} {now : Int} {L : List S83} {A0 A1 A3 : Option Addr} {c0 c1 c3 m i : Nat} (h : ST w0 w a own F t B q wh now L (.slice A0 own.length c0) (.slice A1 wh.length c1) (.slice A3 L.length c3) m i) (hi : i < 60)
    (d : S26) (A5 : Option Addr) (c5 : Nat) (hD : DeedWf d) (hDC : Kd.C (Kd.int .u8) w0 A5 d.f5.length d.f5) (hDc : d.f5.length ≤ c5) :
    Calls Try.prog 21 #[.pointer (some ⟨a.g, 0, none⟩), .agg #[.slice A0 own.length c0, .slice A1 wh.length c1, .int .i64 now, .slice A3 L.length c3], .agg #[.int .i64 d.f0, .int .i64 d.f1, .int .i64 d.f2, .int .i64 d.f3, .int .u64 d.f4, .slice A5 d.f5.length c5]] w fun e w' => Did w0 w a (.slice A0 own.length c0) (.slice A1 wh.length c1) q m (i + 1) e w' := by
  by_cases k0 : d.f0 = 0
  · by_cases hF : F ≠ [] ∧ 1 ≤ d.f1 ∧ d.f1 ≤ 3
    · exact step_take_yes h hi d A5 c5 hD hDC hDc k0 hF
    · exact step_take_no h hi d A5 c5 hD hDC hDc k0 hF
  by_cases k1 : d.f0 = 1
  · by_cases hO : ownerOf own d.f1 ≠ 0
    · exact step_give_yes h hi d A5 c5 hD hDC hDc k1 hO
    · exact step_give_no h hi d A5 c5 hD hDC hDc k1 hO
  by_cases k2 : d.f0 = 2
  · by_cases hp : pk own d.f1 d.f2 (d.f5.length : Int)
    · exact step_write_yes h hi d A5 c5 hD hDC hDc k2 hp
    · exact step_write_no h hi d A5 c5 hD hDC hDc k2 hp
  by_cases k3 : d.f0 = 3
  · by_cases hp : pk own d.f1 d.f2 d.f3
    · exact step_read_yes h hi d A5 c5 hD hDC hDc k3 hp
    · exact step_read_no h hi d A5 c5 hD hDC hDc k3 hp
  by_cases k4 : d.f0 = 4
  · by_cases g1 : d.f2 < 0
    · exact step_setword_low h hi d A5 c5 hD hDC hDc k4 g1
    by_cases g2 : 512 ≤ d.f2
    · exact step_setword_high h hi d A5 c5 hD hDC hDc k4 g2
    by_cases hp : pk own d.f1 0 1
    · exact step_setword_yes h hi d A5 c5 hD hDC hDc k4 ⟨⟨by omega, by omega⟩, hp⟩
    · exact step_setword_no h hi d A5 c5 hD hDC hDc k4 (by omega) (by omega) hp
  by_cases g1 : d.f2 < 0
  · exact step_word_low h hi d A5 c5 hD hDC hDc ⟨k0, k1, k2, k3, k4⟩ g1
  by_cases g2 : 512 ≤ d.f2
  · exact step_word_high h hi d A5 c5 hD hDC hDc ⟨k0, k1, k2, k3, k4⟩ g2
  by_cases hp : pk own d.f1 0 1
  · exact step_word_yes h hi d A5 c5 hD hDC hDc ⟨k0, k1, k2, k3, k4⟩ ⟨⟨by omega, by omega⟩, hp⟩
  · exact step_word_no h hi d A5 c5 hD hDC hDc ⟨k0, k1, k2, k3, k4⟩ (by omega) (by omega) hp

end Go.Proofs.Ytoejchlelamhjaa.Hand
