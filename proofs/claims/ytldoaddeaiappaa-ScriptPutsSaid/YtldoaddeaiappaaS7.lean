/- ScriptPuts, plain, and its walk. -/
import Derived.Test.YtldoaddeaiappaaS6
import Derived.Test.YtldoaddeaiappaaRx9
namespace Go.Proofs.Ytldoaddeaiappaa.Hand
set_option linter.unusedVariables false
set_option linter.unusedSimpArgs false
open Go.RowKit Go.Proofs.Ytldoaddeaiappaa.R Go.Proofs.Ytldoaddeaiappaa.Bits Go.Proofs.YtldoaddeaiappaaW.PrintWords Go.Proofs.YtldoaddeaiappaaW.PrintLast Go.Proofs.YtldoaddeaiappaaW.PrintMore

/-- An op's bytes, with the fields h. -/
def opH (h : Bool × Bool × Bool × Bool) (o : S39) : List Int :=
  [o.f0 % 256] ++ ((if h.1 then [o.f1 % 256] else []) ++ ((if h.2.1 then le 8 o.f3.toNat else []) ++ ((if h.2.2.1 then [o.f2 % 256] else []) ++ (if h.2.2.2 then [(o.f4.length : Int) % 256] ++ o.f4 else []))))
def opB (o : S39) : List Int := opH (hasK o.f0) o
def okO (o : S39) : Prop := 0 ≤ o.f3 ∧ o.f3 < 18446744073709551616 ∧ o.f4.length ≤ 300
theorem le1 (x : Int) : le 1 (IntKind.u64.wrap x).toNat = [x % 256] := by
  show [(((IntKind.u64.wrap x).toNat % 256 : Nat) : Int)] = [x % 256]
  rw [u64w]
  congr 1
  omega
theorem wrap_in (x : Int) : 0 ≤ IntKind.u64.wrap x ∧ IntKind.u64.wrap x < 18446744073709551616 := by
  rw [u64w]
  omega
theorem nput1 (k : Nat) (x : Int) (hk : 6 ≤ k) : num_Put.f k 1 [IntKind.u64.wrap x] = some [x % 256] := by
  have := nput k 1 (by omega) (by omega) [IntKind.u64.wrap x] (fun y hy => by rw [List.mem_singleton.1 hy]; exact wrap_in x) (by simp) (by simp; omega)
  simp only [List.map_cons, List.map_nil, List.flatten_cons, List.flatten_nil, List.append_nil, le1] at this
  exact this
theorem nput8' (k : Nat) (x : Int) (h : 0 ≤ x ∧ x < 18446744073709551616) (hk : 13 ≤ k) : num_Put.f k 8 [x] = some (le 8 x.toNat) := by
  have := nput k 8 (by omega) (by omega) [x] (fun y hy => by rw [List.mem_singleton.1 hy]; exact h) (by simp) (by simp; omega)
  simp only [List.map_cons, List.map_nil, List.flatten_cons, List.flatten_nil, List.append_nil] at this
  exact this
theorem rput8 (k : Nat) (x : Int) (h : 0 ≤ x ∧ x < 18446744073709551616) (hk : 13 ≤ k) : gunnyref01_Put.f k 8 x = some (le 8 x.toNat) := by
  obtain ⟨y, rfl⟩ : ∃ y : Nat, x = (y : Int) := ⟨x.toNat, by omega⟩
  exact rput k 8 y (by omega) (by omega) (by omega)
theorem op_some (k : Nat) (o : S39) (ho : okO o) (hk : 30 ≤ k) : script_op.f k o.f0 o.f1 o.f2 o.f3 o.f4 = some (opB o) := by
  obtain ⟨k, rfl⟩ : ∃ m, k = m + 2 := ⟨k - 2, by omega⟩
  obtain ⟨h3, h3', h4⟩ := ho
  unfold script_op.f opB
  rw [bs (fields_some _ _ (by omega)), bs (nput1 _ _ (by omega))]
  have p8 := nput8' (k + 1) o.f3 ⟨h3, h3'⟩ (by omega)
  have l8 := le_length 8 o.f3.toNat
  generalize hasK o.f0 = h
  obtain ⟨q1, q2, q3, q4⟩ := h
  unfold opH
  generalize le 8 o.f3.toNat = z at p8 l8 ⊢
  cases q1 <;> cases q2 <;> cases q3 <;> cases q4 <;> simp only [script_op.j0, script_op.j1, Bool.false_eq_true, if_false, if_true, reduceIte, bs p8, bs rfl, List.append_nil, List.nil_append] <;>
    (repeat (first | (refine (if_pos ?_).trans ?_; focus (simp only [List.length_append, List.length_cons, List.length_nil]; omega)) | rw [bs rfl])) <;> (try simp)

theorem opH_length (h : Bool × Bool × Bool × Bool) (o : S39) (hl : o.f4.length ≤ 300) : (opH h o).length ≤ 400 := by
  obtain ⟨q1, q2, q3, q4⟩ := h
  unfold opH
  cases q1 <;> cases q2 <;> cases q3 <;> cases q4 <;> simp [le_length] <;> omega
def opsB (l : List S39) : List Int := (l.map opB).flatten
theorem opsB_step (l : List S39) (i : Nat) (hi : i < l.length) : opsB (l.drop i) = opB l[i] ++ opsB (l.drop (i + 1)) := by
  unfold opsB
  rw [List.drop_eq_getElem_cons hi]
  rfl
theorem put_l0 (l : List S39) (hl : l.length ≤ 500) (hd : ∀ o ∈ l, okO o) : ∀ (d k i : Nat) (acc : List Int), i + d = l.length → d + 31 ≤ k → acc.length + 400 * d < 1000000 →
    script_Put.l0 k acc l (l.length : Int) (i : Int) = some (acc ++ opsB (l.drop i), 0) := by
  intro d
  induction d with
  | zero =>
    intro k i acc h1 h2 h3
    obtain ⟨k, rfl⟩ : ∃ m, k = m + 1 := ⟨k - 1, by omega⟩
    simp only [script_Put.l0]
    rw [if_neg (by omega), List.drop_eq_nil_of_le (by omega)]
    simp [opsB]
  | succ d ih =>
    intro k i acc h1 h2 h3
    obtain ⟨k, rfl⟩ : ∃ m, k = m + 1 := ⟨k - 1, by omega⟩
    have hi : i < l.length := by omega
    have ho := hd l[i] (List.getElem_mem hi)
    have hlen := opH_length (hasK l[i].f0) l[i] ho.2.2
    have hlen' : (opB l[i]).length ≤ 400 := hlen
    have hn := ih k (i + 1) (acc ++ opB l[i]) (by omega) (by omega) (by rw [List.length_append]; omega)
    simp only [script_Put.l0]
    rw [if_pos (by omega), if_pos (by omega), if_pos (by omega), rd39 l i hi, bs (op_some k l[i] ho (by omega)), if_pos (by omega), w64s i (by omega), hn, opsB_step l i hi, List.append_assoc]
/-- The bytes ahead of the choices. -/
def hdr (a0 a1 a2 a3 : Int) (n : Nat) : List Int := [71, a0 % 256, a1 % 256, a2 % 256, a3 % 256, (n : Int) % 256, ((n / 256 : Nat) : Int) % 256]
theorem head_some (k : Nat) (a0 a1 a2 a3 : Int) (hk : 20 ≤ k) : num_Put.f k 1 [71, IntKind.u64.wrap a0, IntKind.u64.wrap a1, IntKind.u64.wrap a2, IntKind.u64.wrap a3] = some [71, a0 % 256, a1 % 256, a2 % 256, a3 % 256] := by
  have := nput k 1 (by omega) (by omega) [71, IntKind.u64.wrap a0, IntKind.u64.wrap a1, IntKind.u64.wrap a2, IntKind.u64.wrap a3] (fun y hy => by
    simp only [List.mem_cons, List.not_mem_nil, or_false] at hy
    rcases hy with rfl | rfl | rfl | rfl | rfl
    · omega
    · exact wrap_in a0
    · exact wrap_in a1
    · exact wrap_in a2
    · exact wrap_in a3) (by simp) (by simp; omega)
  simp only [List.map_cons, List.map_nil, List.flatten_cons, List.flatten_nil, List.append_nil, le1] at this
  exact this
theorem two_some (k : Nat) (n : Nat) (hn : n ≤ 5000) (hk : 20 ≤ k) : num_Put.f k 2 [IntKind.u64.wrap (n : Int)] = some [(n : Int) % 256, ((n / 256 : Nat) : Int) % 256] := by
  have := nput k 2 (by omega) (by omega) [IntKind.u64.wrap (n : Int)] (fun y hy => by rw [List.mem_singleton.1 hy]; exact wrap_in _) (by simp) (by simp; omega)
  simp only [List.map_cons, List.map_nil, List.flatten_cons, List.flatten_nil, List.append_nil] at this
  refine this.trans ?_
  have e : (IntKind.u64.wrap (n : Int)).toNat = n := by rw [u64w]; omega
  rw [e]
  show some [_, _] = some [_, _]
  congr 2
theorem Put_some (k : Nat) (a0 a1 a2 a3 : Int) (c : List Bool) (l : List S39) (hl : l.length ≤ 500) (hc : c.length ≤ 5000) (hd : ∀ o ∈ l, okO o) (hk : 6000 ≤ k) :
    script_Put.f k a0 a1 a2 a3 c l = some (if rightI a0 a1 a2 a3 c l = 0 then hdr a0 a1 a2 a3 c.length ++ chB c ++ opsB l else [], rightI a0 a1 a2 a3 c l) := by
  unfold script_Put.f
  rw [bs (Right_some k a0 a1 a2 a3 c l hl (by omega))]
  by_cases h : rightI a0 a1 a2 a3 c l = 0
  · have hch : (chB c).length ≤ 700 := by rw [chB_length]; unfold chN; omega
    have hp := put_l0 l hl hd l.length k 0 ([71, a0 % 256, a1 % 256, a2 % 256, a3 % 256] ++ [(c.length : Int) % 256, ((c.length / 256 : Nat) : Int) % 256] ++ chB c) (by omega) (by omega) (by simp; omega)
    rw [if_pos h, if_pos h, bs (head_some k a0 a1 a2 a3 (by omega)), bs (two_some k c.length hc (by omega)), if_pos (by simp), bs rfl, bs (choices_some k c hc (by omega)), if_pos (by simp; omega), h]
    refine hp.trans ?_
    rw [List.drop_zero]
    rfl
  · rw [if_neg h, if_neg h]

/-! by definition -/
theorem rput_j3 (a0 a1 a2 a3 : Int) (c : List Bool) (l : List S39) (k : Nat) (y : List Int) (x f0 f1 f2 f3 : Int) (f4 z : List Int) (hz : gunnyref01_Put.f (k + 1) 8 f3 = some z) (hz8 : z.length = 8) (hy : y.length < 1000000) (h4 : f4.length ≤ 300) (q1 q2 q3 q4 : Bool) :
    gunnyref39_Put.j3 (k + 2) y x a0 a1 a2 a3 c l f0 f1 f2 f3 f4 q1 q2 q3 q4 = gunnyref39_Put.l2 k (y ++ ((if q2 then z else []) ++ ((if q3 then [f2 % 256] else []) ++ (if q4 then [(f4.length : Int) % 256] ++ f4 else [])))) (wrap64 (x + 1)) a0 a1 a2 a3 c l := by
  simp only [gunnyref39_Put.j3, gunnyref39_Put.j4]
  rw [hz]
  cases q2 <;> cases q3 <;> cases q4 <;> simp only [Bool.false_eq_true, if_false, if_true, Option.bind_some, List.append_nil, List.nil_append] <;>
    (repeat (rw [if_pos (by first | omega | (simp only [List.length_append, List.length_cons, List.length_nil]; omega))])) <;> simp only [List.append_assoc, List.cons_append, List.nil_append]
theorem rput_l2 (a0 a1 a2 a3 : Int) (c : List Bool) (l : List S39) (hl : l.length ≤ 500) (hd : ∀ o ∈ l, okO o) : ∀ (d k i : Nat) (acc : List Int), i + d = l.length → 3 * d + 31 ≤ k → acc.length + 400 * d < 1000000 →
    gunnyref39_Put.l2 k acc (i : Int) a0 a1 a2 a3 c l = some (acc ++ opsB (l.drop i)) := by
  intro d
  induction d with
  | zero =>
    intro k i acc h1 h2 h3
    obtain ⟨k, rfl⟩ : ∃ m, k = m + 1 := ⟨k - 1, by omega⟩
    simp only [gunnyref39_Put.l2]
    rw [if_neg (by omega), List.drop_eq_nil_of_le (by omega)]
    simp [opsB]
  | succ d ih =>
    intro k i acc h1 h2 h3
    obtain ⟨k, rfl⟩ : ∃ m, k = m + 3 := ⟨k - 3, by omega⟩
    have hi : i < l.length := by omega
    have hi1 : (i : Int) < (l.length : Int) := by omega
    have hi0 : (0 : Int) ≤ (i : Int) := by omega
    have hk3 : 4 ≤ k + 2 := by omega
    have ha1 : acc.length < 140737488355328 := by omega
    have hs := w64s i (by omega)
    have ho := hd l[i] (List.getElem_mem hi)
    have hlen := opH_length (hasK l[i].f0) l[i] ho.2.2
    have hlen' : (opB l[i]).length ≤ 400 := hlen
    have hn := ih k (i + 1) (acc ++ opB l[i]) (by omega) (by omega) (by rw [List.length_append]; omega)
    have e : acc ++ opsB (l.drop i) = acc ++ opB l[i] ++ opsB (l.drop (i + 1)) := by
      rw [opsB_step l i hi, List.append_assoc]
    rw [e, ← hn]
    obtain ⟨h3', h3'', h4⟩ := ho
    have p8 := rput8 (k + 1) l[i].f3 ⟨h3', h3''⟩ (by omega)
    have l8 := le_length 8 l[i].f3.toNat
    unfold opB
    simp only [gunnyref39_Put.l2]
    rw [if_pos hi1, if_pos hi0, rd39 l i hi, bs (Has_some _ _ hk3), if_pos ha1, Option.bind_some]
    clear hn e hlen hlen' ih
    generalize l[i] = o at *
    generalize hasK o.f0 = h
    obtain ⟨q1, q2, q3, q4⟩ := h
    unfold opH
    cases q1 with
    | false =>
      simp only [Bool.false_eq_true, if_false]
      rw [rput_j3 a0 a1 a2 a3 c l k _ _ o.f0 o.f1 o.f2 o.f3 o.f4 _ p8 l8 (by simp; omega) h4, hs, List.nil_append, List.append_assoc]
    | true =>
      simp only [if_true]
      rw [if_pos (by simp; omega), rput_j3 a0 a1 a2 a3 c l k _ _ o.f0 o.f1 o.f2 o.f3 o.f4 _ p8 l8 (by simp; omega) h4, hs, List.append_assoc, List.append_assoc]
theorem RPut_some (k : Nat) (a0 a1 a2 a3 : Int) (c : List Bool) (l : List S39) (hl : l.length ≤ 500) (hc : c.length ≤ 5000) (hd : ∀ o ∈ l, okO o) (hk : 10000 ≤ k) :
    gunnyref39_Put.f k a0 a1 a2 a3 c l = some (hdr a0 a1 a2 a3 c.length ++ chB c ++ opsB l) := by
  have hN : chN c ≤ 700 := by unfold chN; omega
  have hch : (chB c).length ≤ 700 := by rw [chB_length]; exact hN
  obtain ⟨k, rfl⟩ : ∃ m, k = m + 10 * chN c + 1 := ⟨k - 10 * chN c - 1, by omega⟩
  have e : wrap64 (Int.tdiv (c.length : Int) 256) = ((c.length / 256 : Nat) : Int) := wnat _ _ (by rw [Int.tdiv_eq_ediv_of_nonneg (by omega)]; omega) (by omega)
  unfold gunnyref39_Put.f
  rw [e]
  have h1 := rput_ch a0 a1 a2 a3 c l hc k (chN c) 0 (hdr a0 a1 a2 a3 c.length) (by omega) (by simp [hdr]; omega)
  refine Eq.trans h1 ?_
  have h2 := rput_l2 a0 a1 a2 a3 c l hl hd l.length k 0 (hdr a0 a1 a2 a3 c.length ++ chB c) (by omega) (by omega) (by simp [hdr]; omega)
  rw [List.drop_zero] at h2
  rw [List.drop_zero]
  exact h2
theorem bytes_same (b : List Int) : gunnyref01_Bytes.f b b = some true := by unfold gunnyref01_Bytes.f; simp
theorem law_l0 (a0 a1 a2 a3 : Int) (c : List Bool) (l : List S39) (hl : l.length ≤ 500) (hc : c.length ≤ 5000) (hd : ∀ o ∈ l, okO o) : ∀ (d k i : Nat), i + d = l.length → d + 10001 ≤ k →
    gunnylaw39_ScriptPuts.l0 k (rightI a0 a1 a2 a3 c l) (if rightI a0 a1 a2 a3 c l = 0 then hdr a0 a1 a2 a3 c.length ++ chB c ++ opsB l else []) (i : Int) a0 a1 a2 a3 c l = some true := by
  intro d
  induction d with
  | zero =>
    intro k i h1 h2
    obtain ⟨k, rfl⟩ : ∃ m, k = m + 1 := ⟨k - 1, by omega⟩
    simp only [gunnylaw39_ScriptPuts.l0]
    rw [if_neg (by omega)]
    by_cases h : rightI a0 a1 a2 a3 c l = 0
    · rw [if_pos h, if_pos h, bs (RPut_some k a0 a1 a2 a3 c l hl hc hd (by omega)), bs (bytes_same _), if_pos rfl, bs (lives_some k (by omega))]
    · rw [if_neg h, if_neg h, if_pos (by simp), bs (lives_some k (by omega))]
  | succ d ih =>
    intro k i h1 h2
    obtain ⟨k, rfl⟩ : ∃ m, k = m + 1 := ⟨k - 1, by omega⟩
    have hi : i < l.length := by omega
    simp only [gunnylaw39_ScriptPuts.l0]
    rw [if_pos (by omega), if_pos (by omega), rd39 l i hi, bs (May_some k _ (by omega)), bs (RMay_some k _ (by omega)), if_neg (by simp), w64s i (by omega)]
    exact ih k (i + 1) (by omega) (by omega)
theorem puts_some (a0 a1 a2 a3 : Int) (c : List Bool) (l : List S39) (hd : ∀ o ∈ l, 0 ≤ o.f3 ∧ o.f3 < 18446744073709551616) : gunnylaw39_ScriptPuts.f 20000 a0 a1 a2 a3 c l = some true := by
  unfold gunnylaw39_ScriptPuts.f
  rw [bs (great_some 20000 a0 a1 a2 a3 c l (by omega))]
  cases hg : greatB c.length l with
  | true => rw [if_pos rfl, bs (lives_some 20000 (by omega))]
  | false =>
    obtain ⟨h1, h2, h3⟩ := great_no hg
    have hd' : ∀ o ∈ l, okO o := fun o ho => ⟨(hd o ho).1, (hd o ho).2, h3 o ho⟩
    rw [if_neg (by decide), bs (RRight_some 20000 a0 a1 a2 a3 c l h1 (by omega)), bs (Put_some 20000 a0 a1 a2 a3 c l h1 (by omega) hd' (by omega)), bs (Right_some 20000 a0 a1 a2 a3 c l h1 (by omega)), if_pos rfl]
    show gunnylaw39_ScriptPuts.j0 (19999 + 1) _ _ (rightI a0 a1 a2 a3 c l != rightI a0 a1 a2 a3 c l) a0 a1 a2 a3 c l = some true
    rw [show (rightI a0 a1 a2 a3 c l != rightI a0 a1 a2 a3 c l) = false by simp]
    simp only [gunnylaw39_ScriptPuts.j0]
    rw [if_neg (by decide)]
    exact law_l0 a0 a1 a2 a3 c l h1 (by omega) hd' l.length 19999 0 (by omega) (by omega)

end Go.Proofs.Ytldoaddeaiappaa.Hand
