/- Proves VaBack: a canonical address is made of its parts and lies in its page; of one that is not canonical the parts make another one, which is. No condition. -/
import Derived.Test.YtpdpkjdkafmmhaaVaMake
import Derived.Test.YtpdpkjdkafmmhaaRx3
import Derived.OpenShut
namespace Go.Proofs.Ytpdpkjdkafmmhaa.Pure
open Go.RowKit Go.Proofs.Ytpdpkjdkafmmhaa.R Go.Proofs.Ytpdpkjdkafmmhaa.Bits Go.Proofs.Ytpdpkjdkafmmhaa.Num Go.Proofs.Ytpdpkjdkafmmhaa.Va Go.Proofs.YtpdpkjdkafmmhaaW.PrintWords Go.Proofs.YtpdpkjdkafmmhaaW.PrintMore

theorem bs {α β : Type} {x : Option α} {f : α → Option β} {a : α} (h : x = some a) : x.bind f = f a := by rw [h]; rfl

theorem vb_lives : gunnylaw30_lives.f 99 = some true := by decide +kernel

theorem vb_parts (a : Nat) : packed (a % 4096) [(idx a 0 : Int), (idx a 1 : Int), (idx a 2 : Int), (idx a 3 : Int)] 4 = a % 281474976710656 := by
  have e : ∀ n : Nat, ((n : Int)).toNat = n := fun n => Int.toNat_natCast n
  show a % 4096 + ((idx a 0 : Nat) : Int).toNat * 2 ^ (12 + 9 * 0) + ((idx a 1 : Nat) : Int).toNat * 2 ^ (12 + 9 * 1) + ((idx a 2 : Nat) : Int).toNat * 2 ^ (12 + 9 * 2) + ((idx a 3 : Nat) : Int).toNat * 2 ^ (12 + 9 * 3) = _
  rw [e, e, e, e]
  show a % 4096 + a / 4096 % 512 * 4096 + a / 2097152 % 512 * 2097152 + a / 1073741824 % 512 * 1073741824 + a / 549755813888 % 512 * 549755813888 = _
  omega

theorem vb_fine (a : Nat) : fine [(idx a 0 : Int), (idx a 1 : Int), (idx a 2 : Int), (idx a 3 : Int)] := by
  have h : ∀ l, idx a l < 512 := fun l => Nat.mod_lt _ (by decide)
  intro j hj
  have h0 := h 0
  have h1 := h 1
  have h2 := h 2
  have h3 := h 3
  have hj' : j < 4 := hj
  have : j = 0 ∨ j = 1 ∨ j = 2 ∨ j = 3 := by omega
  rcases this with rfl | rfl | rfl | rfl
  · show 0 ≤ ((idx a 0 : Nat) : Int) ∧ ((idx a 0 : Nat) : Int) < 512; omega
  · show 0 ≤ ((idx a 1 : Nat) : Int) ∧ ((idx a 1 : Nat) : Int) < 512; omega
  · show 0 ≤ ((idx a 2 : Nat) : Int) ∧ ((idx a 2 : Nat) : Int) < 512; omega
  · show 0 ≤ ((idx a 3 : Nat) : Int) ∧ ((idx a 3 : Nat) : Int) < 512; omega

theorem sp_mod (a : Nat) : sp (a % 281474976710656) = sp a := by
  have e : a % 281474976710656 % 281474976710656 = a % 281474976710656 := Nat.mod_mod _ _
  unfold sp
  rw [e]

theorem VaBack : gunnylaw30_VaBack.Pure := by
  intro a ha
  have ba := bounds_u64 ha
  obtain ⟨a, rfl⟩ : ∃ n : Nat, a = n := ⟨a.toNat, by omega⟩
  have ha : a < 18446744073709551616 := by omega
  refine ⟨100, ?_⟩
  have hs := sp_lt a
  have i0 : va_Index.f 100 (a : Int) 0 = some ((idx a 0 : Nat) : Int) := index_some 99 a 0 ha (by omega)
  have i1 : va_Index.f 100 (a : Int) 1 = some ((idx a 1 : Nat) : Int) := index_some 99 a 1 ha (by omega)
  have i2 : va_Index.f 100 (a : Int) 2 = some ((idx a 2 : Nat) : Int) := index_some 99 a 2 ha (by omega)
  have i3 : va_Index.f 100 (a : Int) 3 = some ((idx a 3 : Nat) : Int) := index_some 99 a 3 ha (by omega)
  have mk : va_Make.f 100 ((a % 4096 : Nat) : Int) [(idx a 0 : Int), (idx a 1 : Int), (idx a 2 : Int), (idx a 3 : Int)] = some (((sp a : Nat) : Int), true) := by
    have m := make_some 100 (a % 4096) [(idx a 0 : Int), (idx a 1 : Int), (idx a 2 : Int), (idx a 3 : Int)] (by omega) (vb_fine a) (by simp) (by omega)
    have e : packed (a % 4096) [(idx a 0 : Int), (idx a 1 : Int), (idx a 2 : Int), (idx a 3 : Int)] [(idx a 0 : Int), (idx a 1 : Int), (idx a 2 : Int), (idx a 3 : Int)].length = a % 281474976710656 := vb_parts a
    rw [e, sp_mod] at m
    exact m
  have c1 : va_Canon.f 100 ((sp a : Nat) : Int) = some true := by rw [canon_some 99 (sp a) hs, decide_eq_true (sp_sp a)]
  have c2 := canon_some 99 a ha
  have ne : (((a : Int) == ((sp a : Nat) : Int)) != decide (sp a = a)) = false := by
    by_cases h : sp a = a
    · rw [decide_eq_true h, h]; simp
    · rw [decide_eq_false h]
      have : ((a : Int) == ((sp a : Nat) : Int)) = false := by rw [beq_eq_false_iff_ne]; omega
      rw [this]; rfl
  unfold gunnylaw30_VaBack.f
  rw [offset_some 99 a ha, i0, i1, i2, i3]
  simp only [Option.bind_some]
  rw [mk]
  simp only [Option.bind_some, if_true]
  rw [c1, c2]
  simp only [Option.bind_some, if_true]
  rw [ne]
  simp only [gunnylaw30_VaBack.j0, Bool.false_eq_true, if_false]
  have hp : a % 281474976710656 / 4096 < 68719476736 := by omega
  have hsp := sp_lt (4096 * (a % 281474976710656 / 4096))
  have a1 := at_some 98 (a % 281474976710656 / 4096) hp
  have e1 : IntKind.u64.wrap (((sp (4096 * (a % 281474976710656 / 4096)) : Nat) : Int) + IntKind.u64.wrap ((a % 4096 : Nat) : Int)) = ((sp a : Nat) : Int) := by
    rw [u64w, u64w]; unfold sp; split <;> split <;> omega
  have e2 : sp (4096 * (a % 281474976710656 / 4096)) % 281474976710656 / 4096 = a % 281474976710656 / 4096 := by rw [sp_low]; omega
  have e3 : sp (4096 * (a % 281474976710656 / 4096)) % 4096 = 0 := by unfold sp; split <;> omega
  have c3 : va_Canon.f 99 ((sp (4096 * (a % 281474976710656 / 4096)) : Nat) : Int) = some true := by rw [canon_some 98 _ hsp, decide_eq_true (sp_sp _)]
  rw [bs (page_some 98 a ha), bs a1, bs (offset_some 98 a ha), if_pos e1, bs (page_some 98 _ hsp), e2, bs (page_some 98 a ha), if_pos rfl, bs (offset_some 98 _ hsp), e3, if_pos (show ((0 : Nat) : Int) = 0 from by omega), bs c3, if_pos rfl, bs vb_lives]

end Go.Proofs.Ytpdpkjdkafmmhaa.Pure
