/- Frames, pure: what the document's frames answer, and what is kept of both. -/
import Derived.Test.YtoejchlelamhjaaFrC
import Derived.Test.YtoejchlelamhjaaRx2
import Derived.Test.YtoejchlelamhjaaRx3
import Derived.Test.YtoejchlelamhjaaRx4
namespace Go.Proofs.Ytoejchlelamhjaa.Hand
set_option linter.unusedVariables false
set_option linter.unusedSimpArgs false
open Go.RowKit Go.Proofs.Ytoejchlelamhjaa.R Go.Proofs.YtoejchlelamhjaaW.PrintWords Go.Proofs.YtoejchlelamhjaaW.PrintLast Go.Proofs.YtoejchlelamhjaaW.PrintMore

theorem bs {α β : Type} {x : Option α} {f : α → Option β} {a : α} (h : x = some a) : x.bind f = f a := by rw [h]; rfl
/-- The first numbers whose owner is v. -/
def idx (own : List Int) (v : Int) : Nat → List Int
  | 0 => []
  | i + 1 => if own.getD i 0 = v then idx own v i ++ [(i : Int)] else idx own v i
theorem idx_succ (own : List Int) (v : Int) (i : Nat) : idx own v (i + 1) = if own.getD i 0 = v then idx own v i ++ [(i : Int)] else idx own v i := rfl
theorem idx_length (own : List Int) (v : Int) (i : Nat) : (idx own v i).length ≤ i := by
  induction i with
  | zero => simp [idx]
  | succ i ih =>
    rw [idx_succ]
    split
    · rw [List.length_append]; simp only [List.length_cons, List.length_nil]; omega
    · omega
theorem getD_at (l : List Int) (i : Nat) (h : i < l.length) : l.getD i 0 = l[i] := by simp [h]
theorem idx_cnt (own : List Int) (v : Int) (i : Nat) (h : i ≤ own.length) : cnt own [v, v] i = (idx own v i).length := by
  induction i with
  | zero => rfl
  | succ i ih =>
    rw [cnt_succ own _ i (by omega), ih (by omega)]
    rw [idx_succ, getD_at own i (by omega)]
    by_cases e : own[i] = v
    · rw [if_pos e, if_pos (by simp [e]), List.length_append]; rfl
    · rw [if_neg e, if_neg (by simp [e])]; rfl
theorem rOf_l0 (own wh : List Int) (now v : Int) (hO : own.length < 1000000) (d : Nat) : ∀ (k i : Nat), i + d = own.length → d < k →
    gunnyref05_Of.l0 k v (idx own v i) (i : Int) own wh now = some (idx own v own.length) := by
  induction d with
  | zero =>
    intro k i hi hk
    obtain ⟨k, rfl⟩ : ∃ m, k = m + 1 := ⟨k - 1, by omega⟩
    simp only [gunnyref05_Of.l0]
    rw [if_neg (by omega), show i = own.length by omega]
  | succ d ih =>
    intro k i hi hk
    obtain ⟨k, rfl⟩ : ∃ m, k = m + 1 := ⟨k - 1, by omega⟩
    have hil : i < own.length := by omega
    have hc := idx_length own v i
    have r := ih k (i + 1) (by omega) (by omega)
    simp only [gunnyref05_Of.l0]
    rw [if_pos (by omega), if_pos (by omega), rd_at own i hil, w64s i (by omega)]
    simp only [idx] at r
    rw [getD_at own i hil] at r
    by_cases e : own[i] = v
    · rw [if_pos e] at r ⊢
      rw [if_pos (by omega)]
      exact r
    · rw [if_neg e] at r ⊢
      exact r
theorem rOf (k : Nat) (own wh : List Int) (now v : Int) (hO : own.length < 1000000) (hk : own.length < k) : gunnyref05_Of.f k own wh now v = some (idx own v own.length) :=
  rOf_l0 own wh now v hO own.length k 0 (by omega) (by omega)
theorem ownerOf_in (own : List Int) (x : Nat) (h : x < own.length) : ownerOf own (x : Int) = own[x] := by
  unfold ownerOf
  rw [if_pos (by omega)]
  simp [h]

/-! what is kept, of any number of frames: the free ones as the document's 'when' has them -/
structure WI (own F wh : List Int) (now : Int) (n f : Nat) : Prop where
  ok : OK own F n f
  zero : ∀ x ∈ F, ownerOf own x = 0
  nodup : F.Nodup
  all : ∀ i : Nat, i < n → ownerOf own (i : Int) = 0 → (i : Int) ∈ F
  few : ∀ y ∈ own, 0 ≤ y ∧ y ≤ 3
  wlen : wh.length = n
  sorted : F.Pairwise (fun a b => wh.getD a.toNat 0 < wh.getD b.toNat 0)
  top : ∀ x ∈ F, wh.getD x.toNat 0 ≤ now
  nowb : 0 ≤ now ∧ now < 1000000
theorem own_set (own : List Int) (x : Nat) (v y : Int) (h : x < own.length) : ownerOf (own.set x v) y = if y = (x : Int) then v else ownerOf own y := by
  by_cases hy : 0 ≤ y ∧ y < own.length
  · obtain ⟨n, rfl⟩ : ∃ n : Nat, y = (n : Int) := ⟨y.toNat, by omega⟩
    have hn : n < own.length := by omega
    rw [ownerOf_in _ n (by simpa using hn), ownerOf_in _ n hn, List.getElem_set]
    by_cases e : x = n
    · rw [if_pos e, if_pos (by omega)]
    · rw [if_neg e, if_neg (by omega)]
  · have e1 : ownerOf own y = 0 := by unfold ownerOf; rw [if_neg hy]
    have e2 : ownerOf (own.set x v) y = 0 := by unfold ownerOf; rw [if_neg (by simpa using hy)]
    rw [e1, e2, if_neg (by omega)]
theorem getD_set (l : List Int) (i j : Nat) (v : Int) (h : i < l.length) : (l.set i v).getD j 0 = if j = i then v else l.getD j 0 := by
  by_cases e : j = i
  · subst e
    rw [if_pos rfl]
    simp [h]
  · rw [if_neg e]
    simp only [List.getD_eq_getElem?_getD]
    rw [List.getElem?_set_ne (fun h => e h.symm)]
theorem WI.more {own F wh : List Int} {now : Int} {n f : Nat} (h : WI own F wh now n f) (hf : f + 1 < 1000000) : WI own F wh now n (f + 1) :=
  ⟨⟨h.ok.len, h.ok.lim, Nat.le_succ_of_le h.ok.most, hf, h.ok.are⟩, h.zero, h.nodup, h.all, h.few, h.wlen, h.sorted, h.top, h.nowb⟩
theorem WI.give {own F wh : List Int} {now : Int} {n f : Nat} (h : WI own F wh now n f) (hf : f + 1 < 1000000) (hnow : now + 1 < 1000000) (x : Nat) (hx : x < n) (hn : ownerOf own (x : Int) ≠ 0) :
    WI (own.set x 0) (F ++ [(x : Int)]) (wh.set x (now + 1)) (now + 1) n (f + 1) := by
  have hl := h.ok.len
  have hw := h.wlen
  have hb := h.nowb
  have hnot : (x : Int) ∉ F := fun hm => hn (h.zero _ hm)
  have ho := h.ok.gv hf 0 (x : Int)
  unfold Hand.gv at ho
  rw [if_pos hn, Int.toNat_natCast] at ho
  have hne : ∀ y ∈ F, y.toNat ≠ x := fun y hy e => hnot (by have := h.ok.are y hy; have e2 : y = (x : Int) := (by omega); rw [← e2]; exact hy)
  have hsame : ∀ y ∈ F, (wh.set x (now + 1)).getD y.toNat 0 = wh.getD y.toNat 0 := fun y hy => by rw [getD_set _ _ _ _ (by omega), if_neg (hne y hy)]
  refine ⟨ho, fun y hy => ?_, ?_, fun i hi hz => ?_, fun y hy => ?_, by simpa using hw, ?_, fun y hy => ?_, by omega⟩
  · rw [own_set own x 0 y (by omega)]
    split
    · rfl
    · rename_i hne
      rcases List.mem_append.1 hy with hy | hy
      · exact h.zero y hy
      · exact absurd (List.mem_singleton.1 hy) hne
  · rw [List.nodup_append]
    refine ⟨h.nodup, by simp, fun a ha b hb => ?_⟩
    rw [List.mem_singleton.1 hb]
    rintro rfl
    exact hnot ha
  · rw [own_set own x 0 _ (by omega)] at hz
    by_cases e : (i : Int) = (x : Int)
    · rw [e]; simp
    · rw [if_neg e] at hz
      exact List.mem_append.2 (.inl (h.all i hi hz))
  · rcases List.mem_or_eq_of_mem_set hy with hy | hy
    · exact h.few y hy
    · omega
  · rw [List.pairwise_append]
    refine ⟨h.sorted.imp_of_mem (fun {a b} ha hb hab => by rw [hsame a ha, hsame b hb]; exact hab), List.pairwise_singleton _ _, fun a ha b hb => ?_⟩
    rw [List.mem_singleton.1 hb, hsame a ha, Int.toNat_natCast, getD_set _ _ _ _ (by omega), if_pos rfl]
    have := h.top a ha
    omega
  · rcases List.mem_append.1 hy with hy | hy
    · rw [hsame y hy]
      have := h.top y hy
      omega
    · rw [List.mem_singleton.1 hy, Int.toNat_natCast, getD_set _ _ _ _ (by omega), if_pos rfl]
      exact Int.le_refl _
theorem WI.take {own G wh : List Int} {now : Int} {n f : Nat} (x : Nat) (h : WI own (G ++ [(x : Int)]) wh now n f) (owner : Int) (h1 : 1 ≤ owner) (h3 : owner ≤ 3) : WI (own.set x owner) G wh now n f := by
  have hl := h.ok.len
  have hx := h.ok.are (x : Int) (by simp)
  have hnd := h.nodup
  have hs := h.sorted
  rw [List.nodup_append] at hnd
  rw [List.pairwise_append] at hs
  refine ⟨⟨by simpa using hl, h.ok.lim, by have := h.ok.most; simp at this; omega, h.ok.few, fun y hy => h.ok.are y (by simp [hy])⟩, fun y hy => ?_, hnd.1, fun i hi hz => ?_, fun y hy => ?_, h.wlen, hs.1, fun y hy => h.top y (by simp [hy]), h.nowb⟩
  · rw [own_set own x owner y (by omega), if_neg (fun e => hnd.2.2 y hy (x : Int) (by simp) e)]
    exact h.zero y (by simp [hy])
  · rw [own_set own x owner _ (by omega)] at hz
    by_cases e : (i : Int) = (x : Int)
    · rw [if_pos e] at hz; omega
    · rw [if_neg e] at hz
      have := h.all i hi hz
      rcases List.mem_append.1 this with h' | h'
      · exact h'
      · exact absurd (List.mem_singleton.1 h') e
  · rcases List.mem_or_eq_of_mem_set hy with hy | hy
    · exact h.few y hy
    · omega

theorem rGive {own F wh : List Int} {now : Int} {n f : Nat} (h : WI own F wh now n f) (hnow : now + 1 < 1000000) (a : Int) :
    gunnyref05_Give.f own wh now a = some (if ownerOf own a ≠ 0 then (own.set a.toNat 0, wh.set a.toNat (now + 1), now + 1, true) else (own, wh, now, false)) := by
  have hl := h.ok.len
  have hw := h.wlen
  have hb := h.nowb
  have hm := h.ok.lim
  have ew : wrap64 (now + 1) = now + 1 := by unfold wrap64; omega
  unfold gunnyref05_Give.f
  by_cases h0 : a < 0
  · rw [if_pos h0]
    have e : ownerOf own a = 0 := by unfold ownerOf; rw [if_neg (by omega)]
    rw [if_neg (by simp [e])]
  · rw [if_neg h0]
    by_cases h1 : a ≥ (own.length : Int)
    · rw [if_pos h1]
      have e : ownerOf own a = 0 := by unfold ownerOf; rw [if_neg (by omega)]
      rw [if_neg (by simp [e])]
    · obtain ⟨x, rfl⟩ : ∃ x : Nat, a = (x : Int) := ⟨a.toNat, by omega⟩
      have hx : x < own.length := by omega
      rw [if_neg h1, if_pos (by omega), if_pos (by omega), rd_at own x hx, ownerOf_in own x hx]
      by_cases hz : own[x] = 0
      · rw [if_pos hz, if_neg (by simp [hz])]
      · rw [if_neg hz, if_pos hz]
        simp only [Option.bind_some, List.nil_append, List.length_nil, Nat.zero_add]
        rw [if_pos (by omega), if_pos (by omega), if_pos (by omega), if_pos (by omega), ew]

theorem rTake_l0 {own F wh : List Int} {now : Int} {n f : Nat} (h : WI own F wh now n f) (owner : Int) (d : Nat) : ∀ (k i : Nat) (b : Int), i + d = n → d < k →
    ((b = -1 ∧ ∀ j : Nat, j < i → ownerOf own (j : Int) ≠ 0) ∨ ∃ m : Nat, b = (m : Int) ∧ m < i ∧ ownerOf own (m : Int) = 0 ∧ ∀ j : Nat, j < i → ownerOf own (j : Int) = 0 → wh.getD j 0 ≤ wh.getD m 0) →
    gunnyref05_Take.l0 k owner b (i : Int) own wh now = some (if F ≠ [] ∧ 1 ≤ owner ∧ owner ≤ 3 then (own.set (F.getLastD 0).toNat owner, wh, now, F.getLastD 0, true) else (own, wh, now, 0, false)) := by
  have hl := h.ok.len
  have hw := h.wlen
  have hm := h.ok.lim
  induction d with
  | zero =>
    intro k i b hi hk hb
    obtain ⟨k, rfl⟩ : ∃ m, k = m + 1 := ⟨k - 1, by omega⟩
    obtain rfl : i = n := by omega
    simp only [gunnyref05_Take.l0]
    rw [if_neg (by omega)]
    rcases hb with ⟨rfl, hb⟩ | ⟨m, rfl, hmi, hz, hmax⟩
    · have hF : F = [] := by
        cases F with
        | nil => rfl
        | cons y r =>
          have hy := h.ok.are y (by simp)
          have := hb y.toNat (by omega)
          rw [show ((y.toNat : Nat) : Int) = y by omega] at this
          exact absurd (h.zero y (by simp)) this
      rw [if_pos (by omega), if_neg (by simp [hF])]
    · have hmF := h.all m hmi hz
      have hF : F ≠ [] := by rintro rfl; cases hmF
      obtain ⟨G, y, rfl⟩ : ∃ G y, F = G ++ [y] := ⟨F.dropLast, F.getLast hF, (List.dropLast_concat_getLast hF).symm⟩
      have hy := h.ok.are y (by simp)
      have hym : y = (m : Int) := by
        rcases List.mem_append.1 hmF with h' | h'
        · have hs := h.sorted
          rw [List.pairwise_append] at hs
          have h2 := hs.2.2 (m : Int) h' y (by simp)
          have h3 := hmax y.toNat (by omega) (by rw [show ((y.toNat : Nat) : Int) = y by omega]; exact h.zero y (by simp))
          rw [Int.toNat_natCast] at h2
          omega
        · exact (List.mem_singleton.1 h').symm
      subst hym
      have el : (G ++ [(m : Int)]).getLastD 0 = (m : Int) := by simp
      rw [if_neg (by omega), el]
      by_cases h1 : owner < 1
      · rw [if_pos h1, if_neg (by omega)]
      · rw [if_neg h1]
        by_cases h3 : owner > 3
        · rw [if_pos h3, if_neg (by omega)]
        · rw [if_neg h3, if_pos ⟨hF, by omega, by omega⟩]
          simp only [Option.bind_some, List.nil_append, List.length_nil, Nat.zero_add]
          rw [if_pos (by omega), if_pos (by omega), if_pos (by omega)]
  | succ d ih =>
    intro k i b hi hk hb
    obtain ⟨k, rfl⟩ : ∃ m, k = m + 1 := ⟨k - 1, by omega⟩
    have hil : i < own.length := by omega
    simp only [gunnyref05_Take.l0]
    rw [if_pos (by omega), if_pos (by omega), rd_at own i hil, w64s i (by omega)]
    by_cases hz : own[i] = 0
    · rw [if_pos hz]
      have hzi : ownerOf own (i : Int) = 0 := by rw [ownerOf_in own i hil, hz]
      rcases hb with ⟨rfl, hb⟩ | ⟨m, rfl, hmi, hzm, hmax⟩
      · rw [if_pos (by omega)]
        refine ih k (i + 1) _ (by omega) (by omega) (.inr ⟨i, rfl, by omega, hzi, fun j hj hzj => ?_⟩)
        by_cases e : j = i
        · rw [e]; exact Int.le_refl _
        · exact absurd hzj (hb j (by omega))
      · rw [if_neg (by omega), if_pos (by omega), if_pos (by omega), if_pos (by omega), rd_at wh i (by omega), rd_at wh m (by omega), ← getD_at wh i (by omega), ← getD_at wh m (by omega)]
        by_cases hgt : wh.getD i 0 > wh.getD m 0
        · rw [if_pos hgt]
          refine ih k (i + 1) _ (by omega) (by omega) (.inr ⟨i, rfl, by omega, hzi, fun j hj hzj => ?_⟩)
          by_cases e : j = i
          · rw [e]; exact Int.le_refl _
          · have := hmax j (by omega) hzj
            omega
        · rw [if_neg hgt]
          refine ih k (i + 1) _ (by omega) (by omega) (.inr ⟨m, rfl, by omega, hzm, fun j hj hzj => ?_⟩)
          by_cases e : j = i
          · rw [e]; omega
          · exact hmax j (by omega) hzj
    · rw [if_neg hz]
      have hzi : ownerOf own (i : Int) ≠ 0 := by rw [ownerOf_in own i hil]; exact hz
      refine ih k (i + 1) b (by omega) (by omega) ?_
      rcases hb with ⟨rfl, hb⟩ | ⟨m, rfl, hmi, hzm, hmax⟩
      · refine .inl ⟨rfl, fun j hj => ?_⟩
        by_cases e : j = i
        · rw [e]; exact hzi
        · exact hb j (by omega)
      · refine .inr ⟨m, rfl, by omega, hzm, fun j hj hzj => ?_⟩
        by_cases e : j = i
        · rw [e] at hzj; exact absurd hzj hzi
        · exact hmax j (by omega) hzj
theorem rTake {own F wh : List Int} {now : Int} {n f : Nat} (h : WI own F wh now n f) (owner : Int) (hn : n < 1000) :
    gunnyref05_Take.f 1001 own wh now owner = some (if F ≠ [] ∧ 1 ≤ owner ∧ owner ≤ 3 then (own.set (F.getLastD 0).toNat owner, wh, now, F.getLastD 0, true) else (own, wh, now, 0, false)) :=
  rTake_l0 h owner n 1001 0 (-1) (by omega) (by omega) (.inl ⟨rfl, fun j hj => by omega⟩)

/-! New -/
def whens (n : Nat) (i : Nat) : List Int := (List.range i).map fun j => ((n - j : Nat) : Int)
theorem whens_length (n i : Nat) : (whens n i).length = i := by simp [whens]
theorem whens_succ (n i : Nat) : whens n (i + 1) = whens n i ++ [((n - i : Nat) : Int)] := by
  unfold whens
  rw [List.range_succ, List.map_append]
  rfl
theorem rNew_l0 (n : Nat) (hn : n < 1000) (own : List Int) (now : Int) (d : Nat) : ∀ (k i : Nat), i + d = n → d < k → gunnyref05_New.l0 k (n : Int) (i : Int) own (whens n i) now = some (own, whens n n, now) := by
  induction d with
  | zero =>
    intro k i hi hk
    obtain ⟨k, rfl⟩ : ∃ m, k = m + 1 := ⟨k - 1, by omega⟩
    simp only [gunnyref05_New.l0]
    rw [if_neg (by omega), show i = n by omega]
  | succ d ih =>
    intro k i hi hk
    obtain ⟨k, rfl⟩ : ∃ m, k = m + 1 := ⟨k - 1, by omega⟩
    have r := ih k (i + 1) (by omega) (by omega)
    have ew : wrap64 ((n : Int) - (i : Int)) = ((n - i : Nat) : Int) := by unfold wrap64; omega
    have hl := whens_length n i
    rw [whens_succ] at r
    simp only [gunnyref05_New.l0]
    rw [if_pos (by omega), if_pos (by omega), w64s i (by omega), ew]
    exact r
theorem rNew (n : Nat) (hn : n < 1000) : gunnyref05_New.f 1001 (n : Int) = some (List.replicate n 0, whens n n, (n : Int)) := by
  unfold gunnyref05_New.f
  rw [if_pos (by omega), if_pos (by omega), Int.toNat_natCast]
  exact rNew_l0 n hn _ _ n 1001 0 (by omega) (by omega)
theorem whens_at (n i : Nat) (h : i < n) : (whens n n).getD i 0 = ((n - i : Nat) : Int) := by
  unfold whens
  simp [h]
theorem WI.new (n : Nat) (hn : n < 1000) : WI (List.replicate n 0) (dn n 0) (whens n n) (n : Int) n n := by
  have hm : ∀ x ∈ dn n 0, ∃ i, i < n ∧ x = ((n - 1 - i : Nat) : Int) := by
    intro x hx
    unfold dn at hx
    obtain ⟨i, hi, rfl⟩ := List.mem_map.1 hx
    exact ⟨i, by have := List.mem_range.1 hi; omega, rfl⟩
  refine ⟨OK.new n (by omega), fun x hx => ?_, ?_, fun i hi _ => ?_, fun y hy => ?_, whens_length n n, ?_, fun x hx => ?_, by omega⟩
  · unfold ownerOf
    split
    · rw [List.getD_eq_getElem?_getD, List.getElem?_replicate]
      split <;> rfl
    · rfl
  · unfold dn
    rw [List.nodup_iff_pairwise_ne, List.pairwise_map]
    refine (List.pairwise_lt_range (n := n - 0)).imp_of_mem (fun {a b} ha hb hab => ?_)
    have := List.mem_range.1 ha
    have := List.mem_range.1 hb
    omega
  · unfold dn
    exact List.mem_map.2 ⟨n - 1 - i, List.mem_range.2 (by omega), by congr 1; omega⟩
  · rw [List.eq_of_mem_replicate hy]; omega
  · unfold dn
    rw [List.pairwise_map]
    refine (List.pairwise_lt_range (n := n - 0)).imp_of_mem (fun {a b} ha hb hab => ?_)
    have h1 := List.mem_range.1 ha
    have h2 := List.mem_range.1 hb
    rw [Int.toNat_natCast, Int.toNat_natCast, whens_at n _ (by omega), whens_at n _ (by omega)]
    omega
  · obtain ⟨i, hi, rfl⟩ := hm x hx
    rw [Int.toNat_natCast, whens_at n _ (by omega)]
    omega

end Go.Proofs.Ytoejchlelamhjaa.Hand
