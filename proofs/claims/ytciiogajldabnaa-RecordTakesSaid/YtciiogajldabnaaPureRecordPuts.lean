/- RecordPuts and RecordBack, pure. -/
import Derived.Test.YtciiogajldabnaaRecTake
import Derived.Test.YtciiogajldabnaaRx8
import Derived.Test.YtciiogajldabnaaOpens
import Derived.KernelRfl
namespace Go.Proofs.Ytciiogajldabnaa.Rec
set_option linter.unusedVariables false
set_option linter.unusedSimpArgs false
open Go.RowKit Go.Proofs.Ytciiogajldabnaa.R Go.Proofs.Ytciiogajldabnaa.Bits Go.Proofs.Ytciiogajldabnaa.Num Go.Proofs.YtciiogajldabnaaW.PrintWords Go.Proofs.YtciiogajldabnaaW.PrintMore

theorem lives_some (k : Nat) (hk : 200 ≤ k) : gunnylaw23_lives.f k = some true := by
  have p := put_some k [⟨1, 0, 0, 5⟩] (by intro x hx; simp at hx; subst hx; exact ⟨by decide, by decide⟩) (by simp) (by simp; omega)
  have e : putR [] (putS [⟨1, 0, 0, 5⟩]) = ([1, 0, 0, 0, 0, 0, 0, 0, 5, 0, 0, 0, 0, 0, 0, 0], 0) := by decide +kernel
  have hb : isBytes [1, 0, 0, 0, 0, 0, 0, 0, 5, 0, 0, 0, 0, 0, 0, 0] := by unfold isBytes; decide
  have t := take_some k [1, 0, 0, 0, 0, 0, 0, 0, 5, 0, 0, 0, 0, 0, 0, 0] hb 1 rfl (by omega) (by omega)
  have e2 : takeS 1 [1, 0, 0, 0, 0, 0, 0, 0, 5, 0, 0, 0, 0, 0, 0, 0] = some [⟨1, 0, 0, 5⟩] := by
    have := take_put [⟨1, 0, 0, 5⟩] (by intro x hx; simp at hx; subst hx; exact ⟨by decide, by decide⟩) [1, 0, 0, 0, 0, 0, 0, 0, 5, 0, 0, 0, 0, 0, 0, 0] (by decide +kernel)
    exact this
  rw [e] at p
  rw [e2] at t
  unfold gunnylaw23_lives.f
  rw [bs p, bs t]
  rfl

theorem bytes_same (b : List Int) : gunnyref01_Bytes.f b b = some true := by unfold gunnyref01_Bytes.f; simp

theorem puts_l0 (xs : List S28) (hx : ∀ x ∈ xs, ok x) (hlen : xs.length ≤ 100) (d : Nat) : ∀ (k i : Nat) (acc : List Int) (all : Bool), i + d = xs.length → 400 + d ≤ k → acc.length ≤ 16 * i →
    (all = true → putS xs = (putS (xs.drop i)).map (acc ++ ·)) → (all = false → putS xs = none) → gunnylaw23_RecordPuts.l0 k xs acc all (i : Int) = some true := by
  induction d with
  | zero =>
    intro k i acc all hi hk ha h1 h2
    obtain ⟨k, rfl⟩ : ∃ m, k = m + 1 := ⟨k - 1, by omega⟩
    have p := put_some k xs hx (by omega) (by omega)
    have lv := lives_some k (by omega)
    simp only [gunnylaw23_RecordPuts.l0]
    rw [if_neg (by omega)]
    cases all with
    | true =>
      have h := h1 rfl
      rw [List.drop_eq_nil_of_le (by omega)] at h
      simp only [putS, Option.map_some, List.append_nil] at h
      rw [h] at p
      replace p : record_Put.f k xs = some (acc, 0) := p
      rw [bs p, if_pos rfl, if_pos rfl, bs (bytes_same acc), if_pos rfl, bs lv]
    | false =>
      rw [h2 rfl] at p
      replace p : record_Put.f k xs = some ([], 1) := p
      rw [bs p, if_neg Bool.false_ne_true, if_pos rfl, if_pos (show (((([], 1) : List Int × Int).1.length : Nat) : Int) = 0 from rfl), bs lv]
  | succ d ih =>
    intro k i acc all hi hk ha h1 h2
    obtain ⟨q, rfl⟩ : ∃ m, k = m + 1 := ⟨k - 1, by omega⟩
    obtain ⟨k', hq⟩ : ∃ m, q = m + 1 := ⟨q - 1, by omega⟩
    have hi' : i < xs.length := by omega
    obtain ⟨x, ex⟩ : ∃ x, xs[i] = x := ⟨_, rfl⟩
    have e := rd28 xs i hi'
    rw [ex] at e
    have hok : ok x := by rw [← ex]; exact hx _ (List.getElem_mem _)
    have hdrop : xs.drop i = x :: xs.drop (i + 1) := by rw [List.drop_eq_getElem_cons hi', ex]
    have m1 : gunnyref23_May.f q x.f0 x.f1 x.f2 x.f3 = some (decide (mayP x.f0 x.f1 x.f2 x.f3)) := by rw [hq]; exact rmay_some k' _ _ _ _
    simp only [gunnylaw23_RecordPuts.l0]
    rw [if_pos (by omega), if_pos (by omega), e, bs m1, bs (may_some _ _ _ _)]
    by_cases hm : may x
    · have hm' : mayP x.f0 x.f1 x.f2 x.f3 := hm
      have rp := refput_enc q x hm hok.1 hok.2 (by omega)
      have hstep : putS (xs.drop i) = (putS (xs.drop (i + 1))).map (enc x ++ ·) := by rw [hdrop]; simp only [putS]; rw [if_pos hm]
      rw [decide_eq_true hm', if_neg (by decide)]
      have hl := enc_length x
      cases all with
      | true =>
        rw [if_pos rfl, if_pos rfl, bs rp, hl, if_pos (by omega), w64s i (by omega)]
        refine ih q (i + 1) (acc ++ enc x) true (by omega) (by omega) (by rw [List.length_append, hl]; omega) (fun _ => ?_) (fun h => absurd h (by decide))
        rw [h1 rfl, hstep]
        cases putS (xs.drop (i + 1)) with
        | none => rfl
        | some b => simp
      | false =>
        rw [if_neg Bool.false_ne_true, if_pos rfl, bs rp, hl, if_pos (by omega), w64s i (by omega)]
        exact ih q (i + 1) (acc ++ enc x) false (by omega) (by omega) (by rw [List.length_append, hl]; omega) (fun h => absurd h (by decide)) h2
    · have hm' : ¬ mayP x.f0 x.f1 x.f2 x.f3 := hm
      have hstep : putS (xs.drop i) = none := by rw [hdrop]; simp only [putS]; rw [if_neg hm]
      rw [decide_eq_false hm', if_neg (by decide)]
      cases all with
      | true =>
        rw [if_pos rfl, if_neg Bool.false_ne_true, w64s i (by omega)]
        refine ih q (i + 1) acc false (by omega) (by omega) (by omega) (fun h => absurd h (by decide)) (fun _ => ?_)
        rw [h1 rfl, hstep]
        rfl
      | false =>
        rw [if_neg Bool.false_ne_true, if_neg Bool.false_ne_true, w64s i (by omega)]
        exact ih q (i + 1) acc false (by omega) (by omega) (by omega) (fun h => absurd h (by decide)) h2

theorem puts_true (xs : List S28) (hx : ∀ x ∈ xs, ok x) : gunnylaw23_RecordPuts.f 1000 xs = some true := by
  unfold gunnylaw23_RecordPuts.f
  by_cases h : (xs.length : Int) > 100
  · rw [if_pos h, bs (lives_some 1000 (by omega))]
  · rw [if_neg h]
    exact puts_l0 xs hx (by omega) xs.length 1000 0 [] true (by omega) (by omega) (by simp) (fun _ => by rw [List.drop_zero]; cases putS xs <;> simp) (fun h => absurd h (by decide))

theorem ok_of {x : S28} (h : (Lit.int .u64 x.f3).wf = true) : ok x := by
  have := bounds_u64 h
  unfold ok
  omega

/-- The law's walk, from a slice that came in. -/
theorem puts_walk (W : World) (A : Option Addr) (c : Nat) (xs : List S28) (hC : Kd.C k28 W A xs.length xs) (hle : xs.length ≤ c) (hm : xs.length ≤ maxLen) (hx : ∀ x ∈ xs, (Lit.int .u64 x.f3).wf = true) :
    Calls Try.prog 3 #[.slice A xs.length c] W fun e w' => e = .returned (.bool true) ∧ Below W.heap.size W w' :=
  gunnylaw23_RecordPuts.calls 1000 A c xs true W hC hle (puts_true xs (fun x h => ok_of (hx x h)))

theorem back_j3 (k : Nat) (b : List Int) (hb : isBytes b) (hl : b.length ≤ 2000) (hk : 600 ≤ k) : gunnylaw23_RecordBack.j3 k b = some true := by
  obtain ⟨k, rfl⟩ : ∃ m, k = m + 1 := ⟨k - 1, by omega⟩
  have lv := lives_some k (by omega)
  simp only [gunnylaw23_RecordBack.j3]
  by_cases h16 : b.length % 16 = 0
  · have t := take_some k b hb (b.length / 16) (by omega) (by omega) (by omega)
    cases hs : takeS (b.length / 16) b with
    | none =>
      rw [hs] at t
      replace t : record_Take.f k b = some ([], 3) := t
      rw [bs t, if_neg (show ¬ ((3 : Int) = 0) by decide), if_pos (show (((([], 3) : List S28 × Int).1.length : Nat) : Int) = 0 from rfl), bs lv]
    | some xs =>
      obtain ⟨h1, h2⟩ := put_take (b.length / 16) b hb (by omega) xs hs
      have hlen := takeS_length _ _ _ hs
      have p := put_some k xs h2 (by omega) (by omega)
      rw [h1] at p
      rw [hs] at t
      replace t : record_Take.f k b = some (xs, 0) := t
      replace p : record_Put.f k xs = some (b, 0) := p
      rw [bs t, if_pos rfl, bs p, if_pos rfl, bs (bytes_same b), if_pos rfl, bs lv]
  · rw [bs (take_none k b h16), if_neg (show ¬ ((4 : Int) = 0) by decide), if_pos (show (((([], 4) : List S28 × Int).1.length : Nat) : Int) = 0 from rfl), bs lv]

theorem back_l0 (xs ys : List S28) (hs : ys = xs) (b : List Int) (hb : isBytes b) (hl : b.length ≤ 2000) (hlen : xs.length ≤ 100) (d : Nat) : ∀ (k i : Nat), i + d = xs.length → 700 + d ≤ k → gunnylaw23_RecordBack.l0 k xs b ys (i : Int) = some true := by
  subst hs
  induction d with
  | zero =>
    intro k i hi hk
    obtain ⟨k, rfl⟩ : ∃ m, k = m + 1 := ⟨k - 1, by omega⟩
    simp only [gunnylaw23_RecordBack.l0]
    rw [if_neg (by omega)]
    exact back_j3 k b hb hl (by omega)
  | succ d ih =>
    intro k i hi hk
    obtain ⟨k, rfl⟩ : ∃ m, k = m + 1 := ⟨k - 1, by omega⟩
    simp only [gunnylaw23_RecordBack.l0]
    rw [if_pos (by omega), if_pos (by omega), if_pos (by omega)]
    simp only [beq_self_eq_true, Bool.not_true, Bool.or_self, Bool.false_eq_true, if_false]
    rw [w64s i (by omega)]
    exact ih k (i + 1) (by omega) (by omega)

theorem back_true (xs : List S28) (hx : ∀ x ∈ xs, ok x) (b : List Int) (hb : isBytes b) : gunnylaw23_RecordBack.f 1200 xs b = some true := by
  have lv := lives_some 1199 (by omega)
  have t0 : gunnylaw23_RecordBack.j0 1200 xs b true = some true := by
    simp only [gunnylaw23_RecordBack.j0, if_true]
    rw [bs lv]
  unfold gunnylaw23_RecordBack.f
  by_cases h1 : (xs.length : Int) > 100
  · rw [if_pos h1, t0]
  · rw [if_neg h1]
    by_cases h2 : (b.length : Int) > 2000
    · rw [decide_eq_true h2, t0]
    · rw [decide_eq_false h2]
      have p := put_some 1199 xs hx (by omega) (by omega)
      simp only [gunnylaw23_RecordBack.j0, Bool.false_eq_true, if_false]
      cases hs : putS xs with
      | none =>
        rw [hs] at p
        replace p : record_Put.f 1199 xs = some ([], 1) := p
        rw [bs p, if_neg (show ¬ ((1 : Int) = 0) by decide)]
        exact back_j3 1199 b hb (by omega) (by omega)
      | some c =>
        have hc := putS_length xs c hs
        have t := take_some 1199 c (putS_bytes xs c hs) xs.length hc (by omega) (by omega)
        rw [take_put xs hx c hs] at t
        rw [hs] at p
        replace p : record_Put.f 1199 xs = some (c, 0) := p
        replace t : record_Take.f 1199 c = some (xs, 0) := t
        rw [bs p, if_pos rfl, bs t, if_pos rfl, if_pos rfl]
        have e : ((c.length : Int) != wrap64 (16 * (xs.length : Int))) = false := by
          rw [bne_eq_false_iff_eq]; unfold wrap64; omega
        show gunnylaw23_RecordBack.j1 1199 xs b xs ((c.length : Int) != wrap64 (16 * (xs.length : Int))) = some true
        rw [e]
        simp only [gunnylaw23_RecordBack.j1, Bool.false_eq_true, if_false]
        exact back_l0 xs xs rfl b hb (by omega) (by omega) xs.length 1198 0 (by omega) (by omega)

theorem back_walk (W : World) (A : Option Addr) (c : Nat) (xs : List S28) (hC : Kd.C k28 W A xs.length xs) (hle : xs.length ≤ c) (hm : xs.length ≤ maxLen) (hx : ∀ x ∈ xs, (Lit.int .u64 x.f3).wf = true)
    (B : Option Addr) (c1 : Nat) (b : List Int) (hC1 : Kd.C (Kd.int .u8) W B b.length b) (hle1 : b.length ≤ c1) (hm1 : b.length ≤ maxLen) (hb : ∀ x ∈ b, (Lit.int .u8 x).wf = true) :
    Calls Try.prog 5 #[.slice A xs.length c, .slice B b.length c1] W fun e w' => e = .returned (.bool true) ∧ Below W.heap.size W w' :=
  gunnylaw23_RecordBack.calls 1200 A c xs B c1 b true W hC hle hC1 hle1 (back_true xs (fun x h => ok_of (hx x h)) b (isBytes.of_wf hb))

/-- How a record that came in is read. -/
theorem o28 : Opens.Opens Try.prog k28 28 (fun x => (Lit.int .u64 x.f3).wf = true) := by
  have h := Opens.opens_iso (f := fun x : S28 => (x.f0, x.f1, x.f2, x.f3)) (fun a => (⟨a.1, a.2.1, a.2.2.1, a.2.2.2⟩ : S28)) (fun a => rfl)
    (Opens.opens_struct Try.underlying28 (by kernel_rfl) (Opens.opensF_cons rfl (Opens.opens_int Try.underlying3 (by kernel_rfl)) (Opens.opensF_cons rfl (Opens.opens_int Try.underlying3 (by kernel_rfl)) (Opens.opensF_cons rfl (Opens.opens_int Try.underlying3 (by kernel_rfl)) (Opens.opensF_one rfl (Opens.opens_int Try.underlying25 (by kernel_rfl)))))))
  exact ⟨h.1, fun enc w base spare held fuel cs x hx => by
    obtain ⟨y, h1, h2⟩ := h.2 enc w base spare held fuel cs x hx
    exact ⟨y, h1, h2.2.2.2⟩⟩

end Go.Proofs.Ytciiogajldabnaa.Rec
