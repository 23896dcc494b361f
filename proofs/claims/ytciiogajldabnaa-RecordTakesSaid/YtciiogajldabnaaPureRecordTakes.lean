/- RecordTakes, pure: both tell the same records of the same bytes. -/
import Derived.Test.YtciiogajldabnaaPureRecordPuts
import Derived.Test.YtciiogajldabnaaRx7
namespace Go.Proofs.Ytciiogajldabnaa.Rec
set_option linter.unusedVariables false
set_option linter.unusedSimpArgs false
open Go.RowKit Go.Proofs.Ytciiogajldabnaa.R Go.Proofs.Ytciiogajldabnaa.Bits Go.Proofs.Ytciiogajldabnaa.Num Go.Proofs.YtciiogajldabnaaW.PrintWords Go.Proofs.YtciiogajldabnaaW.PrintMore

def c27 (x : S28) : S27 := ⟨x.f0, x.f1, x.f2, x.f3⟩
def rtakeR (acc : List S27) : Option (List S28) → List S27 × Int
  | some xs => (acc ++ xs.map c27, 0)
  | none => ([], 3)

theorem val_split (c : List Int) (hb : isBytes c) (hl : c.length = 16) : val (c.take 8) = val (c.take 2) + 65536 * val ((c.drop 2).take 2) + 4294967296 * val ((c.drop 4).take 4) ∧ val (c.take 2) < 65536 ∧ val ((c.drop 2).take 2) < 65536 := by
  have h1 : c.take 8 = c.take 2 ++ ((c.drop 2).take 2 ++ (c.drop 4).take 4) := by
    rw [show (8 : Nat) = 2 + (2 + 4) by rfl, List.take_add, List.take_add, List.drop_drop]
  have l1 : (c.take 2).length = 2 := by rw [List.length_take]; omega
  have l2 : ((c.drop 2).take 2).length = 2 := by rw [List.length_take, List.length_drop]; omega
  have v1 := val_lt (hb.take 2)
  have v2 := val_lt ((hb.drop 2).take 2)
  have p2 : (256 : Nat) ^ 2 = 65536 := by decide +kernel
  rw [l1, p2] at v1
  rw [l2, p2] at v2
  rw [h1, val_append, val_append, l1, l2, p2]
  omega

theorem tm8 (v : Nat) : Int.tmod (v : Int) 8 = ((v % 8 : Nat) : Int) := by rw [Int.tmod_eq_emod_of_nonneg (by omega)]; rfl
theorem td8 (v : Nat) : Int.tdiv (v : Int) 8 = ((v / 8 : Nat) : Int) := by rw [Int.tdiv_eq_ediv_of_nonneg (by omega)]; rfl
theorem rtake_l0 (b : List Int) (hb : isBytes b) (n : Nat) (hn : b.length = 16 * n) (hlen : n ≤ 1000) (m : Nat) : ∀ (k i : Nat) (acc : List S27), i + m = n → 40 + m ≤ k → acc.length ≤ i →
    gunnyref23_Take.l0 k b acc ((16 * i : Nat) : Int) = some (rtakeR acc (takeS m (b.drop (16 * i)))) := by
  induction m with
  | zero =>
    intro k i acc hi hk ha
    obtain ⟨k, rfl⟩ : ∃ m, k = m + 1 := ⟨k - 1, by omega⟩
    simp only [gunnyref23_Take.l0]
    rw [if_neg (by omega)]
    simp [takeS, rtakeR]
  | succ m ih =>
    intro k i acc hi hk ha
    obtain ⟨q, rfl⟩ : ∃ m, k = m + 1 := ⟨k - 1, by omega⟩
    obtain ⟨k', hq⟩ : ∃ m, q = m + 1 := ⟨q - 1, by omega⟩
    obtain ⟨c, hc⟩ : ∃ c, c = (b.drop (16 * i)).take 16 := ⟨_, rfl⟩
    have cb : isBytes c := by rw [hc]; exact (hb.drop _).take _
    have cl : c.length = 16 := by rw [hc, List.length_take, List.length_drop]; omega
    have t2 : (b.drop (16 * i)).take 2 = c.take 2 := by rw [hc, List.take_take]; rfl
    have t4 : (b.drop (16 * i + 2)).take 2 = (c.drop 2).take 2 := by rw [hc, List.drop_take, List.take_take, List.drop_drop]; rfl
    have t8 : (b.drop (16 * i + 8)).take 8 = (c.drop 8).take 8 := by rw [hc, List.drop_take, List.take_take, List.drop_drop]; rfl
    have t5 : (b.drop (16 * i + 4)).take 4 = (c.drop 4).take 4 := by rw [hc, List.drop_take, List.take_take, List.drop_drop]; rfl
    have g1 : gunnyref01_Get.f q b ((16 * i : Nat) : Int) 2 = some ((val (c.take 2) : Nat) : Int) := by rw [← t2]; exact rget q b hb (by omega) (16 * i) 2 (by omega) (by omega) (by omega) (by omega)
    have g2 : gunnyref01_Get.f q b ((16 * i + 2 : Nat) : Int) 2 = some ((val ((c.drop 2).take 2) : Nat) : Int) := by rw [← t4]; exact rget q b hb (by omega) (16 * i + 2) 2 (by omega) (by omega) (by omega) (by omega)
    have g3 : gunnyref01_Get.f q b ((16 * i + 8 : Nat) : Int) 8 = some ((val ((c.drop 8).take 8) : Nat) : Int) := by rw [← t8]; exact rget q b hb (by omega) (16 * i + 8) 8 (by omega) (by omega) (by omega) (by omega)
    have g4 : gunnyref01_Get.f q b ((16 * i + 4 : Nat) : Int) 4 = some ((val ((c.drop 4).take 4) : Nat) : Int) := by rw [← t5]; exact rget q b hb (by omega) (16 * i + 4) 4 (by omega) (by omega) (by omega) (by omega)
    obtain ⟨s1, s2, s3⟩ := val_split c cb cl
    have v8 := val8_lt c cb
    have c1 : ((16 * i : Nat) : Int) < (b.length : Int) := by omega
    have d0 : dec c = ⟨((val (c.take 2) % 8 : Nat) : Int), ((val (c.take 2) / 8 : Nat) : Int), ((val ((c.drop 2).take 2) : Nat) : Int), ((val ((c.drop 8).take 8) : Nat) : Int)⟩ := by
      unfold dec
      have a1 : val (c.take 8) % 8 = val (c.take 2) % 8 := by omega
      have a2 : val (c.take 8) / 8 % 8192 = val (c.take 2) / 8 := by omega
      have a3 : val (c.take 8) / 65536 % 65536 = val ((c.drop 2).take 2) := by omega
      rw [a1, a2, a3]
    have hz : (val ((c.drop 4).take 4) : Int) = 0 ↔ val (c.take 8) / 4294967296 = 0 := by omega
    have e3 : (b.drop (16 * i)).drop 16 = b.drop (16 * (i + 1)) := by rw [List.drop_drop]; rfl
    have ia : acc.length < 4398046511104 := by omega
    have IH := ih q (i + 1) (acc ++ [c27 (dec c)]) (by omega) (by omega) (by simp; omega)
    have b1 : 16 * i + 2 < 9223372036854775808 := by omega
    have b2 : 16 * i + 8 < 9223372036854775808 := by omega
    have b3 : 16 * i + 4 < 9223372036854775808 := by omega
    have b4 : val (c.take 2) < 9223372036854775808 := by omega
    have b5 : val ((c.drop 2).take 2) < 9223372036854775808 := by omega
    have b9 : val (c.take 2) / 8 < 9223372036854775808 := by omega
    have b10 : 16 * i + 16 < 9223372036854775808 := by omega
    have w1 := w64a (16 * i) 2 b1
    have w2 := w64a (16 * i) 8 b2
    have w3 := w64a (16 * i) 4 b3
    have w4 := w64 (val (c.take 2)) b4
    have w5 := w64 (val ((c.drop 2).take 2)) b5
    have w7 := tm8 (val (c.take 2))
    have w8' := td8 (val (c.take 2))
    have w9 := w64 (val (c.take 2) / 8) b9
    have w10 := w64a (16 * i) 16 b10
    simp only [gunnyref23_Take.l0]
    replace w1 : wrap64 (((16 * i : Nat) : Int) + 2) = ((16 * i + 2 : Nat) : Int) := w1
    replace w2 : wrap64 (((16 * i : Nat) : Int) + 8) = ((16 * i + 8 : Nat) : Int) := w2
    replace w3 : wrap64 (((16 * i : Nat) : Int) + 4) = ((16 * i + 4 : Nat) : Int) := w3
    replace w10 : wrap64 (((16 * i : Nat) : Int) + 16) = ((16 * (i + 1) : Nat) : Int) := w10
    rw [if_pos c1, bs g1, w1, bs g2, w2, bs g3, w3, bs g4, w4, w5, w7, w8', w9, w10]
    simp only [takeS]
    rw [← hc, e3]
    by_cases h0 : ((val ((c.drop 4).take 4) : Nat) : Int) = 0
    · have m1 : gunnyref23_May.f q ((val (c.take 2) % 8 : Nat) : Int) ((val (c.take 2) / 8 : Nat) : Int) ((val ((c.drop 2).take 2) : Nat) : Int) ((val ((c.drop 8).take 8) : Nat) : Int) = some (decide (may (dec c))) := by
        rw [d0, hq]
        exact rmay_some k' _ _ _ _
      rw [if_pos h0, bs m1]
      by_cases hm : may (dec c)
      · have hk : okC c := ⟨hm, hz.1 h0⟩
        rw [decide_eq_true hm, if_pos rfl, if_pos ia, if_pos hk]
        have e5 : (⟨((val (c.take 2) % 8 : Nat) : Int), ((val (c.take 2) / 8 : Nat) : Int), ((val ((c.drop 2).take 2) : Nat) : Int), ((val ((c.drop 8).take 8) : Nat) : Int)⟩ : S27) = c27 (dec c) := by rw [d0]; rfl
        rw [e5, IH]
        refine congrArg some ?_
        cases takeS m (b.drop (16 * (i + 1))) with
        | none => rfl
        | some xs => simp [rtakeR]
      · have hk : ¬ okC c := fun h => hm h.1
        rw [decide_eq_false hm, if_neg (by decide), if_neg hk]
        rfl
    · have hk : ¬ okC c := fun h => h0 (hz.2 h.2)
      rw [if_neg h0, if_neg hk]
      rfl

theorem takes_l0 (xs : List S28) (hlen : xs.length ≤ 200) (d : Nat) : ∀ (k i : Nat), i + d = xs.length → 300 + d ≤ k → gunnylaw23_RecordTakes.l0 k xs (xs.map c27) (i : Int) = some true := by
  induction d with
  | zero =>
    intro k i hi hk
    obtain ⟨k, rfl⟩ : ∃ m, k = m + 1 := ⟨k - 1, by omega⟩
    have lv := lives_some k (by omega)
    simp only [gunnylaw23_RecordTakes.l0]
    rw [if_neg (by omega), bs lv]
  | succ d ih =>
    intro k i hi hk
    obtain ⟨k, rfl⟩ : ∃ m, k = m + 1 := ⟨k - 1, by omega⟩
    have hi' : i < xs.length := by omega
    have e1 := rd28 xs i hi'
    have e2 : rd_T27 (xs.map c27) (i : Int) = c27 xs[i] := by unfold rd_T27; simp [hi']
    have hl : (xs.map c27).length = xs.length := List.length_map ..
    simp only [gunnylaw23_RecordTakes.l0]
    rw [if_pos (by omega), if_pos (by omega), if_pos (by omega), e1, e2]
    simp only [c27, beq_self_eq_true, Bool.not_true, Bool.or_self, Bool.false_eq_true, if_false]
    rw [w64s i (by omega)]
    exact ih k (i + 1) (by omega) (by omega)

theorem takes_true (b : List Int) (hb : isBytes b) : gunnylaw23_RecordTakes.f 1000 b = some true := by
  have lv := lives_some 1000 (by omega)
  unfold gunnylaw23_RecordTakes.f
  by_cases h : (b.length : Int) > 2000
  · rw [if_pos h, bs lv]
  · rw [if_neg h]
    by_cases h16 : b.length % 16 = 0
    · have t := take_some 1000 b hb (b.length / 16) (by omega) (by omega) (by omega)
      have r : gunnyref23_Take.f 1000 b = some (rtakeR [] (takeS (b.length / 16) b)) := by
        unfold gunnyref23_Take.f
        rw [if_pos (by omega)]
        exact rtake_l0 b hb (b.length / 16) (by omega) (by omega) (b.length / 16) 1000 0 [] (by omega) (by omega) (by simp)
      cases hs : takeS (b.length / 16) b with
      | none =>
        rw [hs] at t r
        replace t : record_Take.f 1000 b = some ([], 3) := t
        replace r : gunnyref23_Take.f 1000 b = some ([], 3) := r
        rw [bs t, bs r, if_pos rfl]
        show gunnylaw23_RecordTakes.j0 1000 [] [] false = some true
        simp only [gunnylaw23_RecordTakes.j0, Bool.false_eq_true, if_false]
        exact takes_l0 [] (by simp) 0 999 0 rfl (by omega)
      | some xs =>
        have hl := takeS_length _ _ _ hs
        rw [hs] at t r
        replace t : record_Take.f 1000 b = some (xs, 0) := t
        replace r : gunnyref23_Take.f 1000 b = some (xs.map c27, 0) := r
        rw [bs t, bs r, if_pos rfl]
        show gunnylaw23_RecordTakes.j0 1000 xs (xs.map c27) ((xs.length : Int) != ((xs.map c27).length : Int)) = some true
        rw [List.length_map, bne_self_eq_false]
        simp only [gunnylaw23_RecordTakes.j0, Bool.false_eq_true, if_false]
        exact takes_l0 xs (by omega) xs.length 999 0 (by omega) (by omega)
    · have r : gunnyref23_Take.f 1000 b = some ([], 4) := by
        unfold gunnyref23_Take.f
        rw [if_neg (by omega)]
      rw [bs (take_none 1000 b h16), bs r, if_pos rfl]
      show gunnylaw23_RecordTakes.j0 1000 [] [] false = some true
      simp only [gunnylaw23_RecordTakes.j0, Bool.false_eq_true, if_false]
      exact takes_l0 [] (by simp) 0 999 0 rfl (by omega)

end Go.Proofs.Ytciiogajldabnaa.Rec
namespace Go.Proofs.Ytciiogajldabnaa.Pure
open Go.Proofs.Ytciiogajldabnaa.R
theorem RecordTakes : gunnylaw23_RecordTakes.Pure := fun b _ _ hb => ⟨1000, Rec.takes_true b (Rec.isBytes.of_wf hb)⟩
end Go.Proofs.Ytciiogajldabnaa.Pure
