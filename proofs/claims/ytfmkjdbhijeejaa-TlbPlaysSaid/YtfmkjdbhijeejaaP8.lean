/- TlbPlays, plain: the document's list of what was noted, at most one entry a place. -/
import Derived.Says
namespace Go.Proofs.Ytfmkjdbhijeejaa.Hand
set_option linter.unusedVariables false
/-- An entry: a page, its frame, its uses. -/
structure NN where
  page : Int
  frame : Int
  u0 : Bool
  u1 : Bool
  u2 : Bool
  u3 : Bool
  u4 : Bool
/-- What has an entry's place. -/
def NN.at (x : NN) : Int := x.page % 16
/-- The uses of both. -/
def NN.or (x y : NN) : NN := ⟨x.page, x.frame, x.u0 || y.u0, x.u1 || y.u1, x.u2 || y.u2, x.u3 || y.u3, x.u4 || y.u4⟩
/-- What stays behind a note. -/
def stayR (p : Int) (l : List NN) : List NN := l.filter (fun y => y.page % 16 != p % 16)
/-- The entry that is noted, its uses joined. -/
def joinR (x : NN) (l : List NN) : NN := l.foldl (fun x y => if y.page % 16 != x.page % 16 then x else if y.page == x.page && y.frame == x.frame then x.or y else x) x
def noteR (x : NN) (l : List NN) : List NN := stayR x.page l ++ [joinR x l]
/-- What is flushed of one page. -/
def flushR (p : Int) (l : List NN) : List NN := l.filter (fun y => y.page != p)
/-- At most one entry a place; all may be. -/
structure OneR (l : List NN) : Prop where
  one : l.Pairwise (fun a b => a.page % 16 ≠ b.page % 16)
  ok : ∀ y ∈ l, 0 ≤ y.page ∧ y.page < 68719476736 ∧ 0 ≤ y.frame ∧ y.frame < 96
theorem OneR.nil : OneR [] := ⟨List.Pairwise.nil, fun y hy => by cases hy⟩
theorem OneR.flush {l : List NN} (h : OneR l) (p : Int) : OneR (flushR p l) :=
  ⟨h.one.filter _, fun y hy => h.ok y (List.mem_filter.1 hy).1⟩
theorem joinR_page (l : List NN) : ∀ x : NN, (joinR x l).page = x.page ∧ (joinR x l).frame = x.frame := by
  induction l with
  | nil => exact fun x => ⟨rfl, rfl⟩
  | cons y l ih =>
    intro x
    unfold joinR
    rw [List.foldl_cons]
    split
    · exact ih x
    · split
      · exact ih (x.or y)
      · exact ih x
theorem OneR.note {l : List NN} (h : OneR l) (x : NN) (hx : 0 ≤ x.page ∧ x.page < 68719476736 ∧ 0 ≤ x.frame ∧ x.frame < 96) : OneR (noteR x l) := by
  obtain ⟨hp, hf⟩ := joinR_page l x
  refine ⟨?_, fun y hy => ?_⟩
  · unfold noteR
    refine List.pairwise_append.2 ⟨h.one.filter _, List.pairwise_singleton _ _, fun a ha b hb => ?_⟩
    obtain rfl := List.mem_singleton.1 hb
    have := (List.mem_filter.1 ha).2
    rw [hp]
    simpa using this
  · rcases List.mem_append.1 hy with hy | hy
    · exact h.ok y (List.mem_filter.1 hy).1
    · obtain rfl := List.mem_singleton.1 hy
      rw [hp, hf]
      exact hx
/-- One entry alone has a page's place: who flushes that page strikes one, or none. -/
theorem OneR.flush_count {l : List NN} (h : OneR l) (p : Int) : (l.countP (fun y => y.page == p)) ≤ 1 := by
  obtain ⟨h1, h2⟩ := h
  clear h2
  induction l with
  | nil => exact Nat.zero_le _
  | cons y l ih =>
    obtain ⟨h2, h3⟩ := List.pairwise_cons.1 h1
    rw [List.countP_cons]
    by_cases e : y.page = p
    · have h0 : l.countP (fun y => y.page == p) = 0 := List.countP_eq_zero.2 (fun z hz he => by
        have e2 : z.page = p := by simpa using he
        exact h2 z hz (by rw [e, e2]))
      rw [h0]
      split <;> omega
    · rw [if_neg (by simpa using e)]
      exact ih h3
/-- The frames that are there, rising. -/
def framesR (l : List NN) : List Int := ((List.range 96).filter (fun f : Nat => l.any (fun y => y.frame == (f : Int)))).map (fun f : Nat => (f : Int))
/-- The frames that are there are all that entries have. -/
theorem mem_framesR {l : List NN} (h : OneR l) (f : Int) : f ∈ framesR l ↔ ∃ y ∈ l, y.frame = f := by
  unfold framesR
  rw [List.mem_map]
  constructor
  · rintro ⟨n, hn, rfl⟩
    obtain ⟨y, hy, he⟩ := List.any_eq_true.1 (List.mem_filter.1 hn).2
    exact ⟨y, hy, by simpa using he⟩
  · rintro ⟨y, hy, rfl⟩
    have hb := h.ok y hy
    refine ⟨y.frame.toNat, List.mem_filter.2 ⟨List.mem_range.2 (by omega), List.any_eq_true.2 ⟨y, hy, ?_⟩⟩, by omega⟩
    simp only [beq_iff_eq]
    omega
theorem framesR_rising (l : List NN) : (framesR l).Pairwise (· < ·) := by
  unfold framesR
  rw [List.pairwise_map]
  refine List.Pairwise.imp ?_ ((List.pairwise_lt_range (n := 96)).filter _)
  intro a b h
  omega
/-- Two rising lists of the same numbers are one. -/
theorem rising_ext : ∀ {a b : List Int}, a.Pairwise (· < ·) → b.Pairwise (· < ·) → (∀ x, x ∈ a ↔ x ∈ b) → a = b
  | [], [], _, _, _ => rfl
  | [], y :: b, _, _, h => absurd ((h y).2 (List.mem_cons_self ..)) (by simp)
  | x :: a, [], _, _, h => absurd ((h x).1 (List.mem_cons_self ..)) (by simp)
  | x :: a, y :: b, ha, hb, h => by
    obtain ⟨a1, a2⟩ := List.pairwise_cons.1 ha
    obtain ⟨b1, b2⟩ := List.pairwise_cons.1 hb
    have hxy : x = y := by
      rcases List.mem_cons.1 ((h x).1 (List.mem_cons_self ..)) with e | e
      · exact e
      · rcases List.mem_cons.1 ((h y).2 (List.mem_cons_self ..)) with e2 | e2
        · exact e2.symm
        · have h1 := b1 x e; have h2 := a1 y e2; omega
    subst hxy
    rw [rising_ext a2 b2 (fun z => ?_)]
    constructor
    · intro hz
      rcases List.mem_cons.1 ((h z).1 (List.mem_cons_of_mem _ hz)) with e | e
      · have := a1 z hz; omega
      · exact e
    · intro hz
      rcases List.mem_cons.1 ((h z).2 (List.mem_cons_of_mem _ hz)) with e | e
      · have := b1 z hz; omega
      · exact e
end Go.Proofs.Ytfmkjdbhijeejaa.Hand
