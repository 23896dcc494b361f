/- ScriptOps, plain. No walk but the printed ones. -/
import Derived.Test.YtldoaddeaiappaaS1
import Derived.Test.YtldoaddeaiappaaRx12
import Derived.Test.YtldoaddeaiappaaS3
namespace Go.Proofs.Ytldoaddeaiappaa.Hand
set_option linter.unusedVariables false
set_option linter.unusedSimpArgs false
open Go.RowKit Go.Proofs.Ytldoaddeaiappaa.R Go.Proofs.YtldoaddeaiappaaW.PrintWords Go.Proofs.YtldoaddeaiappaaW.PrintLast Go.Proofs.YtldoaddeaiappaaW.PrintMore

theorem clone_some (l : List Int) (h : l.length < 140737488355328) : slices_Clone_byte_byte.f l = some l := by
  unfold slices_Clone_byte_byte.f
  rw [bs rfl, if_pos (by simpa using h), List.nil_append]
theorem ops_l0 (l : List S39) (hl : l.length ≤ 500) (hd : ∀ o ∈ l, o.f4.length ≤ 300) : ∀ (d k i : Nat), i + d = l.length → d < k → script_Ops.l0 k l (l.length : Int) (i : Int) 64 32 32 75 (l.take i) = some (64, 32, 32, 75, [], l) := by
  intro d
  induction d with
  | zero =>
    intro k i h1 h2
    obtain ⟨k, rfl⟩ : ∃ m, k = m + 1 := ⟨k - 1, by omega⟩
    simp only [script_Ops.l0]
    rw [if_neg (by omega), List.take_of_length_le (by omega)]
  | succ d ih =>
    intro k i h1 h2
    obtain ⟨k, rfl⟩ : ∃ m, k = m + 1 := ⟨k - 1, by omega⟩
    have hi : i < l.length := by omega
    have hn := ih k (i + 1) (by omega) (by omega)
    have e := rd39 l i hi
    have hlen := hd l[i] (List.getElem_mem hi)
    simp only [script_Ops.l0]
    rw [if_pos (by omega), if_pos (by omega), if_pos (by omega), e, bs (clone_some _ (by omega)), if_pos (by rw [List.length_take]; omega), w64s i (by omega), Has.eta, ← List.take_succ_eq_append_getElem hi]
    exact hn
theorem ops_some (k : Nat) (l : List S39) (hl : l.length ≤ 500) (hd : ∀ o ∈ l, o.f4.length ≤ 300) (hk : 501 ≤ k) : script_Ops.f k l = some (64, 32, 32, 75, [], l) := by
  unfold script_Ops.f
  exact ops_l0 l hl hd l.length k 0 (by omega) (by omega)
theorem same_some (o : S39) : gunnyref39_Same.f o.f0 o.f1 o.f2 o.f3 o.f4 o.f0 o.f1 o.f2 o.f3 o.f4 = some true := by
  unfold gunnyref39_Same.f
  rw [if_pos rfl, if_pos rfl, if_pos rfl, if_pos rfl]
  simp
theorem scripts_l1 (a0 a1 a2 a3 : Int) (c : List Bool) (l : List S39) (hl : l.length < 9223372036854775807) : ∀ (d k i : Nat), i + d = l.length → d < k → gunnyref39_Scripts.l1 k (i : Int) a0 a1 a2 a3 c l a0 a1 a2 a3 c l = some true := by
  intro d
  induction d with
  | zero =>
    intro k i h1 h2
    obtain ⟨k, rfl⟩ : ∃ m, k = m + 1 := ⟨k - 1, by omega⟩
    simp only [gunnyref39_Scripts.l1]
    rw [if_neg (by omega)]
  | succ d ih =>
    intro k i h1 h2
    obtain ⟨k, rfl⟩ : ∃ m, k = m + 1 := ⟨k - 1, by omega⟩
    have hn := ih k (i + 1) (by omega) (by omega)
    simp only [gunnyref39_Scripts.l1]
    rw [if_pos (by omega), if_pos (by omega), if_pos (by omega), bs (same_some _), if_pos rfl, w64s i (by omega)]
    exact hn
theorem scripts_l0 (a0 a1 a2 a3 : Int) (c : List Bool) (l : List S39) (hl : l.length < 9223372036854775807) (hc : c.length < 9223372036854775807) : ∀ (d k i : Nat), i + d = c.length → d + l.length + 1 < k → gunnyref39_Scripts.l0 k (i : Int) a0 a1 a2 a3 c l a0 a1 a2 a3 c l = some true := by
  intro d
  induction d with
  | zero =>
    intro k i h1 h2
    obtain ⟨k, rfl⟩ : ∃ m, k = m + 1 := ⟨k - 1, by omega⟩
    simp only [gunnyref39_Scripts.l0]
    rw [if_neg (by omega)]
    exact scripts_l1 a0 a1 a2 a3 c l hl l.length k 0 (by omega) (by omega)
  | succ d ih =>
    intro k i h1 h2
    obtain ⟨k, rfl⟩ : ∃ m, k = m + 1 := ⟨k - 1, by omega⟩
    have hn := ih k (i + 1) (by omega) (by omega)
    simp only [gunnyref39_Scripts.l0]
    rw [if_pos (by omega), if_pos (by omega), if_pos (by omega), if_neg (by simp), w64s i (by omega)]
    exact hn
theorem scripts_some (k : Nat) (a0 a1 a2 a3 : Int) (c : List Bool) (l : List S39) (hl : l.length ≤ 1000000) (hc : c.length ≤ 1000000) (hk : c.length + l.length + 3 < k) : gunnyref39_Scripts.f k a0 a1 a2 a3 c l a0 a1 a2 a3 c l = some true := by
  obtain ⟨k, rfl⟩ : ∃ m, k = m + 1 := ⟨k - 1, by omega⟩
  unfold gunnyref39_Scripts.f
  rw [if_neg (by simp), if_pos rfl, show ((l.length : Int) != (l.length : Int)) = false by simp]
  simp only [gunnyref39_Scripts.j0]
  rw [if_neg (by decide)]
  exact scripts_l0 a0 a1 a2 a3 c l (by omega) (by omega) c.length k 0 (by omega) (by omega)

/-- Ops of some lengths. -/
def PX (n : Nat) (X : List S39) : Prop := X.length = n ∧ ∀ o ∈ X, o.f4.length ≤ 300
theorem PX.set {n : Nat} {X : List S39} (h : PX n X) (i : Nat) (o : S39) (ho : o.f4.length ≤ 300) : PX n (X.set i o) := by
  refine ⟨by rw [List.length_set]; exact h.1, fun q hq => ?_⟩
  rcases List.mem_or_eq_of_mem_set hq with hq | hq
  · exact h.2 q hq
  · rw [hq]; exact ho
theorem law_fin (l : List S39) (hl : l.length ≤ 500) (hd : ∀ o ∈ l, o.f4.length ≤ 300) (k i : Nat) (X : List S39) (a b c d : Int) (e : List Bool) (hX : X.length = i) (hk : 2000 ≤ k) : gunnylaw39_ScriptOps.l0 k l (i : Int) 64 32 32 75 l a b c d e X = some true := by
  obtain ⟨k, rfl⟩ : ∃ m, k = m + 1 := ⟨k - 1, by omega⟩
  simp only [gunnylaw39_ScriptOps.l0]
  rw [if_neg (by omega), bs (ops_some k l hl hd (by omega))]
  show ((gunnyref39_Scripts.f k 64 32 32 75 [] l 64 32 32 75 [] l).bind _) = _
  rw [bs (scripts_some k 64 32 32 75 [] l (by omega) (by simp) (by simp; omega)), if_pos rfl, bs (lives_some k (by omega))]
theorem law_l1 (l : List S39) (n i : Nat) (hi : i < n) (hn : n ≤ 500) (a b c d : Int) (e : List Bool) : ∀ (q k j : Nat) (X : List S39), PX n X → (∀ h : i < X.length, j + q = X[i].f4.length) →
    (∀ X', PX n X' → gunnylaw39_ScriptOps.l0 k l ((i + 1 : Nat) : Int) 64 32 32 75 l a b c d e X' = some true) → gunnylaw39_ScriptOps.l1 (k + q + 1) l (i : Int) (j : Int) 64 32 32 75 l a b c d e X = some true := by
  intro q
  induction q with
  | zero =>
    intro k j X hX hj hnext
    have hiX : i < X.length := by rw [hX.1]; exact hi
    have hj' := hj hiX
    have hb := hX.2 X[i] (List.getElem_mem hiX)
    simp only [Nat.add_zero, gunnylaw39_ScriptOps.l1]
    rw [if_pos (by omega), if_pos (by omega), rd39 X i hiX, if_neg (by omega), w64s i (by omega)]
    exact hnext X hX
  | succ q ih =>
    intro k j X hX hj hnext
    have hiX : i < X.length := by rw [hX.1]; exact hi
    have hj' := hj hiX
    have hb := hX.2 X[i] (List.getElem_mem hiX)
    rw [show k + (q + 1) + 1 = (k + q + 1) + 1 by omega]
    simp only [gunnylaw39_ScriptOps.l1]
    rw [if_pos (by omega), if_pos (by omega), rd39 X i hiX, if_pos (by omega), if_pos (by omega), w64s j (by omega), Int.toNat_natCast]
    refine ih k (j + 1) _ (hX.set i _ (by simpa using hb)) (fun h => ?_) hnext
    rw [List.getElem_set_self]
    simp
    omega
theorem law_l0 (l : List S39) (hl : l.length ≤ 500) (hd : ∀ o ∈ l, o.f4.length ≤ 300) (n : Nat) (hn : n ≤ 500) (a b c d : Int) (e : List Bool) : ∀ (r k i : Nat) (X : List S39), i + r = n → PX n X → 302 * r + 2000 ≤ k → gunnylaw39_ScriptOps.l0 k l (i : Int) 64 32 32 75 l a b c d e X = some true := by
  intro r
  induction r with
  | zero =>
    intro k i X h1 hX h2
    exact law_fin l hl hd k i X a b c d e (by rw [hX.1]; omega) (by omega)
  | succ r ih =>
    intro k i X h1 hX h2
    have hiX : i < X.length := by rw [hX.1]; omega
    have hb := hX.2 X[i] (List.getElem_mem hiX)
    obtain ⟨k, rfl⟩ : ∃ m, k = (m + X[i].f4.length + 1) + 1 := ⟨k - X[i].f4.length - 2, by omega⟩
    simp only [gunnylaw39_ScriptOps.l0]
    rw [if_pos (by omega)]
    exact law_l1 l n i (by omega) hn a b c d e X[i].f4.length k 0 X hX (fun h => by omega) (fun X' hX' => ih k (i + 1) X' (by omega) hX' (by omega))
theorem law_some (l : List S39) : gunnylaw39_ScriptOps.f 200000 l = some true := by
  unfold gunnylaw39_ScriptOps.f
  rw [bs (great_some 200000 64 32 32 75 [] l (by omega))]
  cases hg : greatB ([] : List Bool).length l with
  | true => rw [if_pos rfl, bs (lives_some 200000 (by omega))]
  | false =>
    obtain ⟨h1, _, h3⟩ := great_no hg
    rw [if_neg (by decide), bs (ops_some 200000 l h1 h3 (by omega))]
    show ((gunnyref39_Scripts.f 200000 64 32 32 75 [] l 64 32 32 75 [] l).bind _) = _
    rw [bs (scripts_some 200000 64 32 32 75 [] l (by omega) (by simp) (by simp; omega)), if_pos rfl]
    exact law_l0 l h1 h3 l.length h1 _ _ _ _ _ l.length 200000 0 l (by omega) ⟨rfl, h3⟩ (by omega)

theorem ops_walk (W : World) (A : Option Addr) (c : Nat) (xs : List S39) (hC : Kd.C k39 W A xs.length xs) (hle : xs.length ≤ c) (hm : xs.length ≤ maxLen) (hx : ∀ x ∈ xs, OpWf x) :
    Calls Try.prog 4 #[.slice A xs.length c] W fun e w' => e = .returned (.bool true) ∧ Below W.heap.size W w' :=
  gunnylaw39_ScriptOps.calls 200000 A c xs true W hC hle (law_some xs)

end Go.Proofs.Ytldoaddeaiappaa.Hand
