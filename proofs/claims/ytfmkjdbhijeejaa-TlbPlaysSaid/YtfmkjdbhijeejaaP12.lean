/- TlbPlays, plain: what the memory's cells and the document's list tell of each call. -/
import Derived.Test.YtfmkjdbhijeejaaQ7
import Derived.Test.YtfmkjdbhijeejaaQ5
namespace Go.Proofs.Ytfmkjdbhijeejaa.Hand
set_option linter.unusedVariables false
set_option linter.unusedSimpArgs false

theorem getD_some {L : List Int} {k : Nat} {v : Int} (hk : k < L.length) : L[k]? = some v ↔ L.getD k 0 = v := by
  rw [List.getD_eq_getElem?_getD, List.getElem?_eq_getElem hk]
  simp
/-- No use 0, no use 3. -/
def U03 (l : List NN) : Prop := ∀ y ∈ l, y.u0 = false ∧ y.u3 = false
theorem or_bits : ∀ a b c : Bool, Go.bits .or .i64 ((bif a then 1 else 0) + (bif b then 2 else 0) + (bif c then 4 else 0)) 1 = (bif true then 1 else 0) + (bif b then 2 else 0) + (bif c then 4 else 0) ∧
    Go.bits .or .i64 ((bif a then 1 else 0) + (bif b then 2 else 0) + (bif c then 4 else 0)) 2 = (bif a then 1 else 0) + (bif true then 2 else 0) + (bif c then 4 else 0) ∧
    Go.bits .or .i64 ((bif a then 1 else 0) + (bif b then 2 else 0) + (bif c then 4 else 0)) 4 = (bif a then 1 else 0) + (bif b then 2 else 0) + (bif true then 4 else 0) := by decide +kernel
theorem usesV_set (x : NN) (u : Int) (hu : u = 1 ∨ u = 2 ∨ u = 4) : Go.bits .or .i64 (usesV x) u = usesV (x.setU u.toNat true) := by
  have h := or_bits x.u1 x.u2 x.u4
  rcases hu with rfl | rfl | rfl
  · exact h.1
  · exact h.2.1
  · exact h.2.2
theorem maskN_use (us : List Int) : ∀ x : NN, us.all goodU = true → maskN us (usesV x) = (usesV (useN us x), true) := by
  induction us with
  | nil => exact fun x _ => rfl
  | cons u r ih =>
    intro x h
    rw [List.all_cons, Bool.and_eq_true] at h
    have hu := (goodU_iff u).1 h.1
    simp only [maskN]
    rw [if_pos hu, usesV_set x u hu, ih _ h.2]
    rfl
theorem maskN_bad (us : List Int) : ∀ m : Int, us.all goodU = false → (maskN us m).2 = false := by
  induction us with
  | nil => intro m h; exact absurd h (by decide)
  | cons u r ih =>
    intro m h
    rw [List.all_cons] at h
    simp only [maskN]
    by_cases hu : u = 1 ∨ u = 2 ∨ u = 4
    · rw [if_pos hu]
      refine ih _ ?_
      rw [(goodU_iff u).2 hu, Bool.true_and] at h
      exact h
    · rw [if_neg hu]
theorem useN_03 (us : List Int) : ∀ x : NN, us.all goodU = true → (useN us x).u0 = x.u0 ∧ (useN us x).u3 = x.u3 := by
  induction us with
  | nil => exact fun x _ => ⟨rfl, rfl⟩
  | cons u r ih =>
    intro x h
    rw [List.all_cons, Bool.and_eq_true] at h
    have h2 := ih (x.setU u.toNat true) h.2
    have h3 : (x.setU u.toNat true).u0 = x.u0 ∧ (x.setU u.toNat true).u3 = x.u3 := by
      rcases (goodU_iff u).1 h.1 with rfl | rfl | rfl <;> exact ⟨rfl, rfl⟩
    exact ⟨h2.1.trans h3.1, h2.2.trans h3.2⟩
theorem joinR_03 (l : List NN) : ∀ x : NN, x.u0 = false → x.u3 = false → U03 l → (joinR x l).u0 = false ∧ (joinR x l).u3 = false := by
  induction l with
  | nil => exact fun x h0 h3 _ => ⟨h0, h3⟩
  | cons y l ih =>
    intro x h0 h3 hl
    have hy := hl y (List.mem_cons_self ..)
    have hr : U03 l := fun z hz => hl z (List.mem_cons_of_mem _ hz)
    rw [joinR_cons]
    split
    · exact ih x h0 h3 hr
    · split
      · refine ih (x.or y) ?_ ?_ hr
        · show (x.u0 || y.u0) = false
          rw [h0, hy.1]; rfl
        · show (x.u3 || y.u3) = false
          rw [h3, hy.2]; rfl
      · exact ih x h0 h3 hr
theorem U03.note {l : List NN} (h : U03 l) (page frame : Int) (us : List Int) (hall : us.all goodU = true) : U03 (noteR (newN page frame us) l) := by
  have hn := useN_03 us ⟨page, frame, false, false, false, false, false⟩ hall
  intro y hy
  rcases List.mem_append.1 hy with hy | hy
  · exact h y (List.mem_filter.1 hy).1
  · obtain rfl := List.mem_singleton.1 hy
    exact joinR_03 l _ hn.1 hn.2 h
theorem U03.flush {l : List NN} (h : U03 l) (p : Int) : U03 (flushR p l) := fun y hy => h y (List.mem_filter.1 hy).1

/-- A note, cell by cell. -/
theorem noteL_put (L : List Int) (l : List NN) (h : RelT L l) (x : NN) (page : Nat) (hp : x.page = (page : Int)) :
    noteL L page x.frame (usesV x) = put3 L (x.page % 16).toNat (x.page + 1) x.frame (usesV (joinR x l)) := by
  have hL := h.len
  have o16 : page % 16 < 16 := Nat.mod_lt _ (by decide)
  have ek : (x.page % 16).toNat = page % 16 := by rw [hp]; omega
  have e1 : ((page + 1 : Nat) : Int) = x.page + 1 := by rw [hp]; rfl
  have key : (if L[page % 16 * 3]? = some ((page + 1 : Nat) : Int) ∧ L[page % 16 * 3 + 1]? = some x.frame then Go.bits .or .i64 (usesV x) ((L[page % 16 * 3 + 2]?).getD 0) else usesV x) = usesV (joinR x l) := by
    have q0 := getD_some (L := L) (k := page % 16 * 3) (v := ((page + 1 : Nat) : Int)) (by omega)
    have q1 := getD_some (L := L) (k := page % 16 * 3 + 1) (v := x.frame) (by omega)
    by_cases hn : ∀ y ∈ l, y.page % 16 ≠ x.page % 16
    · have h0 := h.gone (page % 16) o16 (fun y hy => by have := hn y hy; rw [hp] at this; omega)
      rw [if_neg (fun hh => by have := q0.1 hh.1; rw [h0] at this; omega), joinR_none l x hn]
    · obtain ⟨y, hy⟩ := Classical.not_forall.1 hn
      obtain ⟨hy, hm⟩ := Classical.not_imp.1 hy
      have hm' := Classical.not_not.1 hm
      have hh := h.has y hy
      rw [hm', ek] at hh
      obtain ⟨c0, c1, c2⟩ := hh
      rw [c0] at q0
      rw [c1] at q1
      rw [joinR_one l x h.one.one y hy hm']
      by_cases hc : y.page = x.page ∧ y.frame = x.frame
      · rw [if_pos ⟨q0.2 (by rw [e1]; omega), q1.2 hc.2⟩, if_pos hc, ← List.getD_eq_getElem?_getD, c2, usesV_or]
      · rw [if_neg (fun hh => hc ⟨by have := q0.1 hh.1; omega, q1.1 hh.2⟩), if_neg hc]
  unfold noteL put3
  rw [key, ek, e1]
theorem RelT.noteL {L : List Int} {l : List NN} (h : RelT L l) (page : Nat) (frame : Int) (us : List Int) (hall : us.all goodU = true) (h2 : page < 68719476736) (h3 : 0 ≤ frame) (h4 : frame < 96) :
    ∃ m, maskN us 0 = (m, true) ∧ RelT (Hand.noteL L page frame m) (noteR (newN (page : Int) frame us) l) := by
  have hp := useN_page us ⟨(page : Int), frame, false, false, false, false, false⟩
  refine ⟨usesV (newN (page : Int) frame us), maskN_use us ⟨(page : Int), frame, false, false, false, false, false⟩ hall, ?_⟩
  have e := noteL_put L l h (newN (page : Int) frame us) page hp.1
  have ef : (newN (page : Int) frame us).frame = frame := hp.2
  have epg : (newN (page : Int) frame us).page = (page : Int) := hp.1
  rw [ef] at e
  rw [e]
  have := h.note (newN (page : Int) frame us) ⟨by rw [epg]; omega, by rw [epg]; omega, by rw [ef]; exact h3, by rw [ef]; exact h4⟩
  rw [ef] at this
  exact this
/-- What is found. -/
theorem use_bits (y : NN) (use : Int) (hu : use = 1 ∨ use = 2 ∨ use = 4) : (Go.bits .and .i64 (usesV y) use == 0) = !y.use use.toNat := by
  rcases hu with rfl | rfl | rfl
  · exact usesV_and1 y
  · exact usesV_and2 y
  · exact usesV_and4 y
theorem findR_one {l : List NN} (h : OneR l) (y : NN) (hy : y ∈ l) (use : Nat) (hg : y.use use = true) : findR l y.page use = y.frame := by
  unfold findR
  have hs : (l.find? (goodN y.page use)).isSome = true := List.find?_isSome.2 ⟨y, hy, by unfold goodN; simp [hg]⟩
  obtain ⟨z, hz⟩ := Option.isSome_iff_exists.1 hs
  rw [hz]
  have h1 := List.find?_some hz
  have h2 := List.mem_of_find?_eq_some hz
  unfold goodN at h1
  rw [Bool.and_eq_true, beq_iff_eq] at h1
  by_cases e : z = y
  · rw [e]
  · exact absurd (by rw [h1.1]) (one_at h.one z h2 y hy e)
theorem findR_none {l : List NN} (page : Int) (use : Nat) (h : ∀ y ∈ l, y.page = page → y.use use = false) : findR l page use = -1 := by
  unfold findR
  have : l.find? (goodN page use) = none := List.find?_eq_none.2 (fun y hy hg => by
    unfold goodN at hg
    rw [Bool.and_eq_true, beq_iff_eq] at hg
    rw [h y hy hg.1] at hg
    exact absurd hg.2 (by decide))
  rw [this]
/-- The document's answer to a page and use, whatever the use. -/
def findW (l : List NN) (page use : Int) : Int := if use < 0 ∨ 4 < use then -1 else findR l page use.toNat
theorem RelT.find_yes {L : List Int} {l : List NN} (h : RelT L l) (page : Nat) (use : Int) (hf : findOk L page use) : ∃ fr, L[page % 16 * 3 + 1]? = some fr ∧ findW l (page : Int) use = fr ∧ 0 ≤ fr := by
  obtain ⟨hu, hp, hq, hand⟩ := hf
  have hL := h.len
  have o16 : page % 16 < 16 := Nat.mod_lt _ (by decide)
  have hq' := (getD_some (by omega)).1 hq
  have ek : ((page : Int) % 16).toNat = page % 16 := by omega
  obtain ⟨y, hy, ey⟩ := (h.page (page : Int) (by omega)).1 (by rw [ek, hq']; rfl)
  have hh := h.has y hy
  rw [ey, ek] at hh
  rw [← List.getD_eq_getElem?_getD, hh.2.2, use_bits y use hu] at hand
  have hg : y.use use.toNat = true := by
    cases hc : y.use use.toNat with
    | true => rfl
    | false => rw [hc] at hand; exact absurd hand (by decide)
  refine ⟨y.frame, (getD_some (by omega)).2 hh.2.1, ?_, (h.one.ok y hy).2.2.1⟩
  unfold findW
  rw [if_neg (by omega), ← ey]
  exact findR_one h.one y hy _ hg
theorem RelT.find_no {L : List Int} {l : List NN} (h : RelT L l) (hU : U03 l) (page : Int) (use : Int) (hf : ¬ (0 ≤ page ∧ findOk L page.toNat use)) : findW l page use = -1 := by
  unfold findW
  by_cases hb : use < 0 ∨ 4 < use
  · rw [if_pos hb]
  · rw [if_neg hb]
    refine findR_none page _ (fun y hy ey => ?_)
    have hL := h.len
    have hok := h.one.ok y hy
    have hh := h.has y hy
    by_cases hu : use = 1 ∨ use = 2 ∨ use = 4
    · cases hc : y.use use.toNat with
      | false => rfl
      | true =>
        exfalso
        have ek : (y.page % 16).toNat = page.toNat % 16 := by rw [ey]; omega
        rw [ek] at hh
        refine hf ⟨by omega, hu, by omega, (getD_some (by omega)).2 (by rw [hh.1, ey]; omega), ?_⟩
        rw [← List.getD_eq_getElem?_getD, hh.2.2, use_bits y use hu, hc]
        rfl
    · have h03 := hU y hy
      have : use = 0 ∨ use = 3 := by omega
      rcases this with rfl | rfl
      · exact h03.1
      · exact h03.2
/-- What is flushed. -/
theorem RelT.flush1 {L : List Int} {l : List NN} (h : RelT L l) (p : Int) : RelT (Hand.flush1 L p) (flushR p l) ∧ l.countP (fun y => y.page == p) = if hit L p then 1 else 0 := by
  have hL := h.len
  by_cases hh : hit L p
  · obtain ⟨h0, h1, h2⟩ := hh
    have ek : (p % 16).toNat = p.toNat % 16 := by omega
    have h2' := (getD_some (by omega)).1 h2
    obtain ⟨y, hy, ey⟩ := (h.page p h0).1 (by rw [ek]; exact h2')
    subst ey
    have hf := h.flush y hy
    rw [ek] at hf
    refine ⟨?_, ?_⟩
    · unfold Hand.flush1
      rw [if_pos ⟨h0, h1, h2⟩]
      exact hf
    · rw [if_pos ⟨h0, h1, h2⟩]
      have h3 := h.one.flush_count y.page
      have h4 : 0 < l.countP (fun z => z.page == y.page) := List.countP_pos_iff.2 ⟨y, hy, by simp⟩
      omega
  · have hno : ∀ y ∈ l, y.page ≠ p := by
      intro y hy ey
      have hok := h.one.ok y hy
      have h1 := (h.has y hy).1
      refine hh ⟨by omega, by omega, ?_⟩
      rw [show p.toNat % 16 = (y.page % 16).toNat by rw [ey]; omega]
      rw [getD_some (by omega), h1, ey]
    refine ⟨?_, ?_⟩
    · unfold Hand.flush1
      rw [if_neg hh]
      have : flushR p l = l := List.filter_eq_self.2 (fun y hy => by simpa using hno y hy)
      rw [this]
      exact h
    · rw [if_neg hh]
      exact List.countP_eq_zero.2 (fun y hy he => hno y hy (by simpa using he))
theorem RelT.flushL (ps : List Int) : ∀ {L : List Int} {l : List NN}, RelT L l → RelT (Hand.flushL L ps) (flushRL l ps) ∧ flushRN l ps = flushN L ps := by
  induction ps with
  | nil => exact fun h => ⟨h, rfl⟩
  | cons p r ih =>
    intro L l h
    obtain ⟨h1, h2⟩ := h.flush1 p
    obtain ⟨h3, h4⟩ := ih h1
    refine ⟨h3, ?_⟩
    show l.countP _ + flushRN (flushR p l) r = (if hit L p then 1 else 0) + flushN (Hand.flush1 L p) r
    rw [h2, h4]
theorem U03.flushL (ps : List Int) : ∀ {l : List NN}, U03 l → U03 (flushRL l ps) := by
  induction ps with
  | nil => exact fun h => h
  | cons p r ih => exact fun h => ih (h.flush p)
theorem flushRL_length (ps : List Int) : ∀ l : List NN, (flushRL l ps).length ≤ l.length := by
  induction ps with
  | nil => exact fun l => Nat.le_refl _
  | cons p r ih => exact fun l => Nat.le_trans (ih _) (List.length_filter_le _ _)
theorem noteR_length (x : NN) (l : List NN) : (noteR x l).length ≤ l.length + 1 := by
  unfold noteR
  rw [List.length_append, List.length_singleton]
  have := List.length_filter_le (fun y : NN => y.page % 16 != x.page % 16) l
  unfold stayR
  omega
/-- All are gone. -/
theorem RelT.clear {L : List Int} (hL : L.length = 50) : RelT (clrL L 0 48) [] := by
  refine ⟨OneR.nil, by rw [clrL_length]; exact hL, fun k hk _ => ?_, fun y hy => by cases hy⟩
  rw [List.getD_eq_getElem?_getD, clrL_get _ _ _ _ (by omega), if_pos (by omega)]
  rfl
/-- The counts are no part of the places. -/
theorem count_note (L : List Int) (page : Nat) (f m : Int) (k : Nat) (hk : 48 ≤ k) : (noteL L page f m)[k]? = L[k]? :=
  noteL_other L page f m k (by omega) (by omega) (by omega)
theorem count_flush1 (L : List Int) (p : Int) (k : Nat) (hk : 48 ≤ k) : (flush1 L p)[k]? = L[k]? := by
  unfold flush1
  split
  · rw [List.getElem?_set_ne (by omega), List.getElem?_set_ne (by omega), List.getElem?_set_ne (by omega)]
  · rfl
theorem count_flush (ps : List Int) (k : Nat) (hk : 48 ≤ k) : ∀ L : List Int, (flushL L ps)[k]? = L[k]? := by
  induction ps with
  | nil => exact fun L => rfl
  | cons p r ih => exact fun L => by rw [flushL, ih, count_flush1 _ _ _ hk]
theorem count_clr (L : List Int) (k : Nat) (hk : 48 ≤ k) (hL : L.length = 50) : (clrL L 0 48)[k]? = L[k]? := by
  rw [clrL_get _ _ _ _ (by omega), if_neg (by omega)]
end Go.Proofs.Ytfmkjdbhijeejaa.Hand
